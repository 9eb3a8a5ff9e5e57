import Derived.Test.YtchkcemlglpobaaGreatCf27
import Derived.Test.YtchkcemlglpobaaGreatCf00
namespace Go.Proofs.YtchkcemlglpobaaGreat
set_option linter.all false
open Go Go.Eng
theorem XZ(a:Scm→ByteArray→Val→Option Val)(z:Val)(s:Scm)(f:Fld):Jv a z s f=a s f.type.name z:=by
 dsimp only[Jv,eC,vw,lr,cs,ZM,Vq]
 cases a s f.type.name z<;>rfl
theorem ZTy(a:Acs)(v:Val)(s:Scm)(c:Scm→ByteArray→Val→Option Val)(R:ByteArray→Val→Val)(n:a.m.fields.length≤1048576)(E:v.slots.length≤1048576)
  (h:NQ a.m.fields (fun f y=>c s f.type.name y=some (R f.type.name y)) v.slots):LY c a v s=some (v.kind,v.bits,v.text,v.list,v.pairs,v.raws,AN R a.m.fields v.slots):=by
 have d:=Fp (B:=My a v s c) (N:=Aj) (ρ:=Int×Int×ByteArray×List Val×List Pr×List Raw×List Slt) v.slots (fun p=>AN R a.m.fields p) (fun i b=>(i,b)) id (fun i y hy=>by
  have e:=Cy hy
  have D:=(Yc.1 hy).1
  have g:i+1<9223372036854775808:=by omega
  have j:min i v.slots.length<549755813887:=by omega
  obtain⟨x,A,C⟩:=h y (Yi hy)
  have k:=zp (A1 a.m.fields y.num) y.val (fun z=>Jv c z s (A1 a.m.fields y.num)) R x A (fun o=>by
   obtain⟨t,u,w⟩:=C o
   exact⟨fun z r=>(XZ _ _ _ _).trans (t z r),fun p q=>(XZ _ _ _ _).trans (u p q),(XZ _ _ _ _).trans w⟩)
  have l:(AN R a.m.fields (v.slots.take i)).length<549755813887:=by unfold AN;rw[Yq,Yo];exact j
  have m:AN R a.m.fields (v.slots.take i++[y])=AN R a.m.fields (v.slots.take i)++[.mk y.num (Cu R (A1 a.m.fields y.num) y.val)]:=by unfold AN;rw[GP];rfl
  dsimp only[My,Re,br,ix,vz,vw,vs,ln,Al,ap,cl,cs,wa,fl,br]
  simp only[e,hy,jp _ _ n,decide_true,if_true,Yg]
  rw[show(CW a.m.fields y.num).1=A1 a.m.fields y.num from rfl,k]
  simp only[Yg,l,g,if_true,m]) (by simp[My,Re,br,ix,vz,vw,vs,ln,Al,ap,cl,cs,wa,fl,br]) (BD (by omega))
 have e0:AN R a.m.fields []=[]:=rfl
 rw[e0]at d
 dsimp only[LY,gV,fu,eL,iW,vz,vw,lr,lc,fl,Ah,mvc]
 simp[d]
def B3(F:List Fld)(x:Slt):Bool:=(A1 F x.num).hasDefault&&KH (A1 F x.num).dflt x.val
def Fc(F:List Fld):Prop:=∀f∈F,HH f∧A3 f.dflt
theorem ZGc(F:List Fld)(k:Int):((CW F k).2=false∧A1 F k=zF)∨((CW F k).2=true∧A1 F k∈F):=by
 unfold A1 CW BV
 cases e:F.find? fun f=>decide (f.num=k)with
 |none=>exact .inl ⟨rfl,rfl⟩
 |some f=>exact .inr ⟨rfl,TT e⟩
theorem fQ{F:List Fld}(h:Fc F){k:Int}(b:(A1 F k).hasDefault=true):KX (A1 F k).type.kind (A1 F k).dflt∧A3 (A1 F k).dflt∧(CW F k).2=true:=by
 rcases ZGc F k with⟨c,a⟩|⟨c,a⟩
 ·rw[a]at b;cases b
 ·exact⟨(h _ a).1 b,(h _ a).2,c⟩
theorem x0{F:List Fld}(h:Fc F){k:Int}(b:(A1 F k).hasDefault=true)(R:ByteArray→Val→Val)(x:Val):Cu R (A1 F k) x=x:=by
 obtain⟨a,_,_⟩:=fQ h b
 have:¬(A1 F k).type.kind=10:=by have:=a.2.1;omega
 unfold Cu
 rw[if_neg this]
theorem ZHJ{F:List Fld}(h:Fc F)(R:ByteArray→Val→Val)(x:Slt):B3 F (.mk x.num (Cu R (A1 F x.num) x.val))=B3 F x:=by
 unfold B3
 show((A1 F x.num).hasDefault&&KH (A1 F x.num).dflt (Cu R (A1 F x.num) x.val))=_
 cases a:(A1 F x.num).hasDefault with
 |false=>rfl
 |true=>rw[x0 h a]
theorem n42(a:Acs)(x:Slt)(i:a.m.fields.length≤1048576)(h:Fc a.m.fields)(j:(A1 a.m.fields x.num).hasDefault=true→A3 x.val):Jy x a=some (B3 a.m.fields x):=by
 dsimp only[Jy,V8,vw,lr,cl,clg]
 rw[jp _ _ i]
 simp only[Yg]
 rw[show(CW a.m.fields x.num).1=A1 a.m.fields x.num from rfl]
 unfold B3
 cases c:(A1 a.m.fields x.num).hasDefault with
 |false=>simp
 |true=>
  obtain⟨b,f,g⟩:=fQ h c
  have e:=(zo (d:=(A1 a.m.fields x.num).dflt) (x:=x.val) (by rw[b.2.2];exact⟨b.1,b.2.1⟩) f (j c)).1
  simp[g,e]
def Gw(s:Scm)(R:ByteArray→Val→Val)(n:ByteArray)(v:Val):Val:=.mk v.kind v.bits v.text v.list v.pairs (AN R (Ax s n) (v.slots.filter fun x=>!B3 (Ax s n) x)) v.raws
theorem Zof{F:List Fld}(h:Fc F)(R:ByteArray→Val→Val)(l:List Slt):(AN R F l).filter (fun x=>!B3 F x)=AN R F (l.filter fun x=>!B3 F x):=by
 unfold AN
 rw[List.filter_map]
 congr 1
 exact List.filter_congr fun x _=>by show(!B3 F (.mk x.num _))=_;rw[ZHJ h]
theorem n15(s:Scm)(n:ByteArray)(v:Val)(c:Nat)(R:ByteArray→Val→Val)(hs:s.messages.length≤1048576)(i:(Ax s n).length≤1048576)(e:Fc (Ax s n))(j:A3 v)
  (h:NQ (Ax s n) (fun f y=>Fj c s f.type.name y=some (R f.type.name y)) v.slots):Fj (c+1) s n v=some (Gw s R n v):=by
 have g:=(B4 j).s
 have d:LY (Fj c) (.mk (BV s.messages zM fun m=>decide (m.name=n)).1 s) v s=some (v.kind,v.bits,v.text,v.list,v.pairs,v.raws,AN R (Ax s n) v.slots):=ZTy _ v s (Fj c) R i g h
 have b:=n41 (AN R (Ax s n) v.slots) (fun z=>Jy z (.mk (BV s.messages zM fun m=>decide (m.name=n)).1 s)) (B3 (Ax s n)) (fun x k=>by
  refine n42 _ x i e fun a=>?_
  unfold AN at k
  obtain⟨y,hy,rfl⟩:=YC.1 k
  have a:(A1 (Ax s n) y.num).hasDefault=true:=a
  show A3 (Cu R (A1 (Ax s n) y.num) y.val)
  rw[x0 e a]
  exact ER j hy) (by rw[Fr];omega)
 rw[Zof e]at b
 have l:(AN R (Ax s n) (v.slots.filter fun x=>!B3 (Ax s n) x)).length<549755813888:=by
  rw[Fr]
  exact NZ (Le _ _) (by omega)
 show OX (Fj c) s n v=_
 dsimp only[OX,Vs,Ur,V0,UA,VK,U2,vz,vw,lr,lc,cl,fl,fr]
 rw[zm _ _ hs]
 simp only[Yg]
 rw[d]
 simp only[Yg]
 rw[b]
 simp only[Yg,l,if_true]
 rfl
theorem zl(s:Scm)(n:ByteArray)(v:Val)(a:Scm→Typ→Val→Bool→Option Val)(R:ByteArray→Val→Val)(hs:s.messages.length≤1048576)(D:(Ax s n).length≤1048576)(E:Fc (Ax s n))(o:A3 v)
  (h:kx s (Ax s n) false a R v.slots):PH a s n v=some (Gw s R n v):=by
 have F:=(B4 o).s
 have q:=Fp (B:=Nh s v a (BV s.messages zM fun m=>decide (m.name=n))) (N:=Aj) (ρ:=Val) v.slots (fun p=>AN R (Ax s n) (p.filter fun x=>!B3 (Ax s n) x)) (fun i b=>(b,i)) id (fun i y hy=>by
  have u:=Cy hy
  have J:=(Yc.1 hy).1
  have c:i+1<9223372036854775808:=by omega
  have f:(AN R (Ax s n) ((v.slots.take i).filter fun x=>!B3 (Ax s n) x)).length<549755813887:=by
   rw[Fr]
   refine NZ (Le _ _) ?_
   rw[Yo]
   omega
  obtain⟨G,H,I⟩:=h y (Yi hy)
  have w:=zn s (A1 (Ax s n) y.num) y.val false a R G H I
  have z:=jo (BV s.messages zM fun m=>decide (m.name=n)).1 y.num D
  have A:(0:Int)≤(i:Int):=by omega
  have t:v.slots.getD (i:Int).toNat Rw.z=y:=by rw[GM,Yv,hy];rfl
  have g:AN R (Ax s n) ((v.slots.take i++[y]).filter fun x=>!B3 (Ax s n) x)=if B3 (Ax s n) y=true then AN R (Ax s n) ((v.slots.take i).filter fun x=>!B3 (Ax s n) x)else AN R (Ax s n) ((v.slots.take i).filter fun x=>!B3 (Ax s n) x)++[.mk y.num (Cu R (A1 (Ax s n) y.num) y.val)]:=by
   rw[IW]
   cases l:B3 (Ax s n) y with
   |true=>simp[List.filter_cons,l]
   |false=>simp[List.filter_cons,l,AN]
  rw[g]
  generalize AN R (Ax s n) ((v.slots.take i).filter fun x=>!B3 (Ax s n) x)=L at f⊢
  dsimp only[Nh,S1,RP,Su,R6,Sa,Si,Sh,br,ix,A2,vz,vw,vs,ln,Al,lc,ap,cl,clg,cs,wa,du,fl,Ah,br]
  simp only[u,hy,z,decide_true,if_true,Yg,A,and_self,implies_true,t]
  rw[show(CW (BV s.messages zM fun m=>decide (m.name=n)).1.fields y.num).1=A1 (Ax s n) y.num from rfl,w]
  unfold B3
  cases k:(A1 (Ax s n) y.num).hasDefault with
  |false=>
   simp[f,c]<;>omega
  |true=>
   obtain⟨j,C,K⟩:=fQ E k
   have e:=(zo (d:=(A1 (Ax s n) y.num).dflt) (x:=y.val) (by rw[j.2.2];exact⟨j.1,j.2.1⟩) C (ER o (Yi hy))).2
   rw[e]
   cases M:KH (A1 (Ax s n) y.num).dflt y.val with
   |true=>simp[c]<;>omega
   |false=>simp[f,c]<;>omega) (by simp[Nh,S1,RP,Su,R6,Sa,Si,Sh,br,ix,A2,vz,vw,vs,ln,Al,lc,ap,cl,clg,cs,wa,du,fl,Ah,br]) (BD (by omega))
 have r:AN R (Ax s n) (List.filter (fun x=>!B3 (Ax s n) x) [])=[]:=rfl
 have g:(AN R (Ax s n) (v.slots.filter fun x=>!B3 (Ax s n) x)).length<549755813888:=by
  rw[Fr]
  exact NZ (Le _ _) (by omega)
 rw[r]at q
 dsimp only[PH,fm,dF,UY,UR,vz,vw,lr,lc,cl,fl,fz,Z2,Sf,vw,lr]
 rw[jk _ _ hs]
 simp only[Yg,q,Oa,id,g,if_true]
 rfl
end Go.Proofs.YtchkcemlglpobaaGreat
namespace Go.Proofs.YtchkcemlglpobaaGreat
set_option linter.all false
open Go Go.Eng
def CV(s:Scm):Nat→ByteArray→Val→Val
 |0,_,v=>v
 |k+1,n,v=>Gw s (CV s k) n v
section
variable {s:Scm} (hs:s.messages.length≤1048576) (hl:∀n,(Ax s n).length≤1048576) (hd:∀n,Fc (Ax s n))
include hs hl hd
theorem rI:∀(a:Nat) (n:ByteArray) (v:Val),A3 v→Az (Ag v)<a→Fj a s n v=some (CV s a n v)
 |0,n,v,b,h=>by omega
 |a+1,n,v,b,h=>n15 s n v a (CV s a) hs (hl n) (hd n) b fun x d=>by
  obtain⟨e,f,g⟩:=J9 d b h (P:=fun y=>Fj a s (A1 (Ax s n) x.num).type.name y=some (CV s a (A1 (Ax s n) x.num).type.name y)) fun y hy c=>rI a _ y hy c
  exact⟨e,f,fun _=>g⟩
theorem rH:∀(a:Nat) (t:Typ) (v:Val),A3 v→Az (Ag v)<a→DV a s t v false=some (EF (CV s a) t v)
 |0,t,v,b,h=>by omega
 |a+1,t,v,b,h=>by
  have e:=zl s t.name v (DV a) (CV s a) hs (hl t.name) (hd t.name) b fun x f=>J9 f b h fun y hy c=>rH a _ y hy c
  show Jn (DV a) s t v false=_
  unfold EF
  dsimp only[Jn,Rx,br,vw,lr,cs,br]
  rw[e]
  by_cases d:t.kind=10<;>simp[d]
  rfl
end
theorem xw(s:Scm):∀(k j:Nat) (n:ByteArray) (v:Val),Az (Ag v)<k→Az (Ag v)<j→CV s k n v=CV s j n v
 |0,j,n,v,h,a=>by omega
 |k+1,0,n,v,h,a=>by omega
 |k+1,j+1,n,v,h,a=>by
  show Gw s (CV s k) n v=Gw s (CV s j) n v
  unfold Gw
  rw[vn fun x b=>oW (Y6.1 b).1 (P:=fun y=>CV s k _ y=CV s j _ y) (k:=min k j) (by omega) fun y c=>xw s k j _ y (by omega) (by omega)]
theorem Qs{s:Scm}:∀(k:Nat) (n:ByteArray) (v:Val),A3 v→Az (Ag v)<k→Ef (2*Az (Ag v)+1048580) (CV s k n v)
 |0,n,v,a,h=>by omega
 |k+1,n,v,a,h=>by
  have d:A3 v→Az (Ag v)≤1048576:=id
  have d:=d a
  show Ef _ (Gw s (CV s k) n v)
  unfold Gw
  refine xm (c:=2*Az (Ag v)+1048579) a (by omega) ?_ fun x f=>?_
  ·rw[Fr]
   have i:=Le (fun x=>!B3 (Ax s n) x) v.slots
   have:=(B4 a).s
   omega
  ·unfold AN at f
   obtain⟨y,hy,rfl⟩:=YC.1 f
   have hy:=(Y6.1 hy).1
   have i:=He hy
   have b:=ER a hy
   refine xf (c:=2*Az (Ag v)+1048578) b (by omega) fun _=>⟨fun z g=>?_,fun p e=>?_,?_⟩
   ·have:=Hn g
    exact(Qs k _ z (Gb b g) (by omega)).mono (by omega)
   ·have:=(ET e).2
    exact(Qs k _ p.val (DJ b e).2 (by omega)).mono (by omega)
   ·exact(Qs k _ y.val b (by omega)).mono (by omega)
theorem ZQx{v:Val}{x:Raw}(h:A3 v)(b:x∈v.raws):x.data.size≤1048576:=by
 have a:=CE (e:=Ay) b
 unfold A3 at h
 conv at h=>unfold Ag
 simp only[Az,bk,Ay]at h a
 omega
theorem Jr(v:Val)(h:SzV v):Ok Tr (ZB v):=by
 obtain⟨_,_,_,_,_⟩:=h
 dsimp only[ZB,dS,br,vz,vy,vw,lr,Ah,br]
 (repeat' (first|with_reducible refine Ok.br (fun _=>?_) (fun _=>?_)|with_reducible refine Ok.pure ?_|with_reducible refine Ok.if ?_ ?_))<;>(first|trivial|assumption|contradiction|omega|grind|(simp only[Bd.c,Bd.vl,ByteArray.size_append,ByteArray.size_extract,AF]at*;grind))
theorem sK(v:Val)(n:Int)(h:SzV v):Ok Tr (Z5 v n):=by
 have a:=h.s
 have q:Ok Ts (Am (QE v n) Aj 0):=by
  refine Ok.loop (fun i:Nat=>i≤v.slots.length) (fun i:Nat=>v.slots.length-i) (by omega) (AX (by omega)) fun i hi=>?_
  dsimp only[QE,gk,br,ix,vz,vw,vs,AC,ln,Al,wa,Ah,br]
  (repeat' (first|with_reducible refine Ok.br (fun _=>?_) (fun _=>?_)|with_reducible refine Ok.pure ?_|with_reducible refine Ok.idx ?_ (fun _ _ _=>?_)|with_reducible refine Ok.if ?_ ?_))<;>(first|trivial|assumption|contradiction|omega|grind|(simp only[Bd.c,Bd.vl,ByteArray.size_append,ByteArray.size_extract,AF]at*;grind))
 dsimp only[Z5,gj,dR,gi,lr,lc]
 (repeat' (first|with_reducible refine Ok.br (fun _=>?_) (fun _=>?_)|with_reducible refine Ok.pure ?_|(with_reducible apply Ok.lb;(exact q);all_goals(intro _ _;try dsimp only))|with_reducible refine Ok.if ?_ ?_))<;>(first|trivial|assumption|contradiction|omega|grind|(simp only[Bd.c,Bd.vl,ByteArray.size_append,ByteArray.size_extract,AF]at*;grind))
theorem Oo(e:Enm)(n:Int)(h:e.items.length≤1048576):Ok Tr (ZX e n):=by
 have q:Ok Ts (Am (QT e n) Aj 0):=by
  refine Ok.loop (fun i:Nat=>i≤e.items.length) (fun i:Nat=>e.items.length-i) (by omega) (AX (by omega)) fun i hi=>?_
  dsimp only[QT,fc,br,ix,A2,vz,vy,vw,vs,AC,ln,Al,wa,Ah,br]
  (repeat' (first|with_reducible refine Ok.br (fun _=>?_) (fun _=>?_)|with_reducible refine Ok.pure ?_|with_reducible refine Ok.idx ?_ (fun _ _ _=>?_)|with_reducible refine Ok.idxg ?_ (fun _=>?_)|with_reducible refine Ok.if ?_ ?_))<;>(first|trivial|assumption|contradiction|omega|grind|(simp only[Bd.c,Bd.vl,ByteArray.size_append,ByteArray.size_extract,AF]at*;grind))
 dsimp only[ZX,fk,gg,hH,lr,lc]
 (repeat' (first|with_reducible refine Ok.br (fun _=>?_) (fun _=>?_)|with_reducible refine Ok.pure ?_|(with_reducible apply Ok.lb;(exact q);all_goals(intro _ _;try dsimp only))|with_reducible refine Ok.if ?_ ?_))<;>(first|trivial|assumption|contradiction|omega|grind|(simp only[Bd.c,Bd.vl,ByteArray.size_append,ByteArray.size_extract,AF]at*;grind))
theorem O4(s:Scm)(n:ByteArray)(h:SzS s):Ok (fun y:Enm×Bool=>y.1.items.length≤1048576) (Z3 s n):=by
 have a:=h.el
 have he:∀y∈s.enums,y.items.length≤1048576:=fun y hy=>(h.e y hy).il
 have q:Ok (Sum.elim Tr (fun y:Enm×Bool=>y.1.items.length≤1048576)) (Am (QP s n) Aj 0):=by
  refine Ok.loop (fun i:Nat=>i≤s.enums.length) (fun i:Nat=>s.enums.length-i) (by omega) (AX (by omega)) fun i hi=>?_
  dsimp only[QP,fR,br,ix,vz,vw,vs,AC,ln,Al,wa,Ah,br]
  (repeat' (first|with_reducible refine Ok.br (fun _=>?_) (fun _=>?_)|with_reducible refine Ok.pure ?_|with_reducible refine Ok.idx ?_ (fun _ _ _=>?_)|with_reducible refine Ok.if ?_ ?_))<;>first|exact he _ (by assumption)|(first|trivial|assumption|contradiction|omega|grind|(simp only[Bd.c,Bd.vl,ByteArray.size_append,ByteArray.size_extract,AF]at*;grind))
 dsimp only[Z3,fG,gK,dm,vw,lr,lc]
 (repeat' (first|with_reducible refine Ok.br (fun _=>?_) (fun _=>?_)|with_reducible refine Ok.pure ?_|(with_reducible apply Ok.lb;(exact q);all_goals(intro _ _;try dsimp only))|with_reducible refine Ok.if ?_ ?_))<;>first|(show(0:Nat)≤1048576;omega)|assumption|(first|trivial|assumption|contradiction|omega|grind|(simp only[Bd.c,Bd.vl,ByteArray.size_append,ByteArray.size_extract,AF]at*;grind))
theorem Xn(n:Int)(v:Val)(h:SzV v):Ok Tr (Zn n v):=by
 have a:=h.t
 dsimp only[Zn,iE,br,vz,vw,lr,cl,clg,A7,br]
 (repeat' (first|with_reducible refine Ok.br (fun _=>?_) (fun _=>?_)|with_reducible refine Ok.pure ?_|(with_reducible apply Ok.bind;(exact Jr _ h);intro _ _)|(with_reducible apply Ok.bind;(exact Jm _ _ h);intro _ _)|(with_reducible apply Ok.clg;(exact fun _=>Jr _ h);intro _)|(with_reducible apply Ok.clg;(exact fun _=>Jm _ _ h);intro _)|with_reducible refine Ok.if ?_ ?_))<;>(first|trivial|assumption|contradiction|omega|grind|(simp only[Bd.c,Bd.vl,ByteArray.size_append,ByteArray.size_extract,AF]at*;grind))
theorem Tu(m:Msg)(k:Int)(h:m.fields.length≤1048576):Ok Tr (PB m k):=⟨_,jo m k h,trivial⟩
theorem ZTH(s:Scm)(m:Msg)(x:Raw)(h:SzS s)(hm:m.fields.length≤1048576)(a:x.data.size≤1048576):Ok Tr (Z6 s m x):=by
 dsimp only[Z6,ei,bl,br,vy,vw,lr,cl,clg,A7,br]
 (repeat' (first|with_reducible refine Ok.br (fun _=>?_) (fun _=>?_)|with_reducible refine Ok.pure ?_|(with_reducible apply Ok.bind;(exact Tu _ _ hm);intro _ _)|(with_reducible apply Ok.bind;(exact O4 _ _ h);intro _ _)|(with_reducible apply Ok.bind;(exact Oo _ _ (by solve_by_elim));intro _ _)|(with_reducible apply Ok.clg;(exact fun _=>Tu _ _ hm);intro _)|(with_reducible apply Ok.clg;(exact fun _=>O4 _ _ h);intro _)|(with_reducible apply Ok.clg;(exact fun _=>Oo _ _ (by solve_by_elim));intro _)|with_reducible refine Ok.if ?_ ?_))<;>(first|trivial|assumption|contradiction|omega|grind|(simp only[Bd.c,Bd.vl,ByteArray.size_append,ByteArray.size_extract,AF]at*;grind))
theorem bw:∀a b:List (List D),Bj (a++b)=Bj a+Bj b
 |[],b=>by rw[FV,Bj,Yz]
 |x::a,b=>by rw[K5,Bj,Bj,bw a b];omega
theorem ba{α:Type}(e:α→List D){l:List α}{i:Nat}{x:α}(h:l[i]?=some x):Bj ((l.take (i+1)).map e)=Bj ((l.take i).map e)+Az (e x)+1:=by
 obtain⟨a,rfl⟩:=Yc.1 h
 rw[YW a,GP,bw]
 simp only[YS,K3,Bj]
 omega
theorem JR{α:Type}(e:α→List D)(l:List α)(i:Nat):Bj ((l.take i).map e)≤Bj (l.map e):=by
 conv=>rhs;rw[←Ld i l,GP,bw]
 omega
theorem Nu:∀(c:Nat) (v:Val),Az (Ag v)<c→A3 v→Ok (fun y:Int=>0≤y∧y≤2*(Az (Ag v):Int)+1) (G6 c v)
 |0,v,h,_=>by omega
 |c+1,v,h,k=>by
  obtain⟨s1,s2,O,P,Q⟩:=B4 k
  have M:Az (Ag v)≤1048576:=k
  have C:Az (Ag v)=Az [.int .i64 v.kind,.int .u64 v.bits,.str v.text,.list (v.list.map Aq),.list (v.pairs.map Ar),.list (v.slots.map Ai),.list (v.raws.map Ay)]:=rfl
  have N:=C5 (e:=Ay) v.raws
  have L:Bj (v.list.map Aq)+Bj (v.pairs.map Ar)+Bj (v.slots.map Ai)+v.raws.length≤Az (Ag v):=by
   rw[C]
   simp only[Az,bk]
   omega
  have F:Ok (Sum.elim (fun y:Int=>0≤y∧y≤1+v.raws.length+2*Bj (v.list.map Aq)) No) (Am (RA v (G6 c)) Aj (((1+v.raws.length:Nat):Int),0)):=by
   refine Ok.loop (fun z:Int×Nat=>z.2≤v.list.length∧0≤z.1∧z.1≤1+v.raws.length+2*Bj ((v.list.take z.2).map Aq)) (fun z:Int×Nat=>v.list.length-z.2) ⟨Eg _,by show(0:Int)≤((1+v.raws.length:Nat):Int);omega,by show((1+v.raws.length:Nat):Int)≤_;omega⟩ (AX (by omega)) fun z r=>?_
   obtain⟨n,i⟩:=z
   obtain⟨s,j,z3⟩:=r
   dsimp only at s j z3
   have z4:=JR Aq v.list i
   dsimp only[RA,Vl,br,ix,vz,vw,vs,v2,ln,Al,cs,wa,wi,Ah,br]
   cases a:v.list[i]? with
   |none=>
    have q:=N4.1 a
    have g:¬((i:Int)<(v.list.length:Int)):=by omega
    simp only[g,decide_false,Yu,if_false]
    exact Ok.pure ⟨j,by omega⟩
   |some x=>
    have o:=Cy a
    have p:i+1<9223372036854775808:=by have:=(Yc.1 a).1;omega
    have hm:=Yi a
    obtain⟨y,e,d,f⟩:=Nu c x (by have:=Hn hm;omega) (Gb k hm)
    have t1:=ba Aq a
    have t2:=JR Aq v.list (i+1)
    rw[F4]at t1
    have l: -9223372036854775808≤n+y∧n+y<9223372036854775808:=by omega
    simp only[o,decide_true,if_true,e,Yg,l,and_self,p]
    exact Ok.pure ⟨⟨by show i+1≤_;omega,by show 0≤n+y;omega,by show n+y≤1+v.raws.length+2*Bj ((v.list.take (i+1)).map Aq);omega⟩,by show v.list.length-(i+1)<v.list.length-i;omega⟩
  have G:∀b:Int,0≤b→b≤1+v.raws.length+2*Bj (v.list.map Aq)→Ok (Sum.elim (fun y:Int=>0≤y∧y≤b+2*Bj (v.pairs.map Ar)) No) (Am (SI v (G6 c)) Aj (b,0)):=by
   intro b a1 a2
   refine Ok.loop (fun z:Int×Nat=>z.2≤v.pairs.length∧0≤z.1∧z.1≤b+2*Bj ((v.pairs.take z.2).map Ar)) (fun z:Int×Nat=>v.pairs.length-z.2) ⟨Eg _,a1,by show b≤_;omega⟩ (AX (by omega)) fun z r=>?_
   obtain⟨n,i⟩:=z
   obtain⟨s,j,z3⟩:=r
   dsimp only at s j z3
   have z4:=JR Ar v.pairs i
   dsimp only[SI,WA,br,ix,vz,vw,vs,ln,Al,cs,wa,wi,Ah,br]
   cases a:v.pairs[i]? with
   |none=>
    have q:=N4.1 a
    have g:¬((i:Int)<(v.pairs.length:Int)):=by omega
    simp only[g,decide_false,Yu,if_false]
    exact Ok.pure ⟨j,by omega⟩
   |some x=>
    have o:=Cy a
    have p:i+1<9223372036854775808:=by have:=(Yc.1 a).1;omega
    have hm:=Yi a
    obtain⟨y,e,d,f⟩:=Nu c x.key (by have:=(ET hm).1;omega) (DJ k hm).1
    obtain⟨m,e',I,J⟩:=Nu c x.val (by have:=(ET hm).2;omega) (DJ k hm).2
    have t1:=ba Ar a
    have t2:=JR Ar v.pairs (i+1)
    have t3:Ar x=Ag x.key++Ag x.val:=by rw[Iz];rfl
    rw[t3,Mm]at t1
    have l: -9223372036854775808≤y+m∧y+m<9223372036854775808:=by omega
    have w2: -9223372036854775808≤n+(y+m)∧n+(y+m)<9223372036854775808:=by omega
    simp only[o,decide_true,if_true,e,e',Yg,l,w2,and_self,p]
    exact Ok.pure ⟨⟨by show i+1≤_;omega,by show 0≤n+(y+m);omega,by show n+(y+m)≤b+2*Bj ((v.pairs.take (i+1)).map Ar);omega⟩,by show v.pairs.length-(i+1)<v.pairs.length-i;omega⟩
  have H:∀b:Int,0≤b→b≤1+v.raws.length+2*Bj (v.list.map Aq)+2*Bj (v.pairs.map Ar)→Ok (Sum.elim (fun y:Int=>0≤y∧y≤b+2*Bj (v.slots.map Ai)) No) (Am (SK v (G6 c)) Aj (b,0)):=by
   intro b a1 a2
   refine Ok.loop (fun z:Int×Nat=>z.2≤v.slots.length∧0≤z.1∧z.1≤b+2*Bj ((v.slots.take z.2).map Ai)) (fun z:Int×Nat=>v.slots.length-z.2) ⟨Eg _,a1,by show b≤_;omega⟩ (AX (by omega)) fun z r=>?_
   obtain⟨n,i⟩:=z
   obtain⟨s,j,z3⟩:=r
   dsimp only at s j z3
   have z4:=JR Ai v.slots i
   dsimp only[SK,Ul,br,ix,vz,vw,vs,ln,Al,cs,wa,wi,Ah,br]
   cases a:v.slots[i]? with
   |none=>
    have q:=N4.1 a
    have g:¬((i:Int)<(v.slots.length:Int)):=by omega
    simp only[g,decide_false,Yu,if_false]
    exact Ok.pure ⟨j,by omega⟩
   |some x=>
    have o:=Cy a
    have p:i+1<9223372036854775808:=by have:=(Yc.1 a).1;omega
    have hm:=Yi a
    obtain⟨y,e,d,f⟩:=Nu c x.val (by have:=He hm;omega) (ER k hm)
    have t1:=ba Ai a
    have t2:=JR Ai v.slots (i+1)
    have t3:Ai x=D.int .i64 x.num::Ag x.val:=by rw[F5];rfl
    rw[t3,Az]at t1
    have l: -9223372036854775808≤n+y∧n+y<9223372036854775808:=by omega
    simp only[o,decide_true,if_true,e,Yg,l,and_self,p]
    exact Ok.pure ⟨⟨by show i+1≤_;omega,by show 0≤n+y;omega,by show n+y≤b+2*Bj ((v.slots.take (i+1)).map Ai);omega⟩,by show v.slots.length-(i+1)<v.slots.length-i;omega⟩
  obtain⟨d,B,a1⟩:=F
  cases d with
  |inr _=>exact a1.elim
  |inl d=>
  obtain⟨f,w,a2⟩:=G d a1.1 a1.2
  cases f with
  |inr _=>exact a2.elim
  |inl f=>
  have a3:f≤d+2*Bj (v.pairs.map Ar):=a2.2
  have a4:d≤1+v.raws.length+2*Bj (v.list.map Aq):=a1.2
  obtain⟨t,E,u⟩:=H f a2.1 (by omega)
  cases t with
  |inr _=>exact u.elim
  |inl t=>
  have K:t≤f+2*Bj (v.slots.map Ai):=u.2
  have A:0≤t:=u.1
  have l:1+v.raws.length<9223372036854775808:=by omega
  show Ok _ (Pa (G6 c) v)
  dsimp only[Pa,W0,Wl,WF,WK,Ud,vz,vw,vs,lr,lc,wa,Ah]
  simp only[l,if_true,B,Yg,Oa,w,E]
  exact Ok.pure ⟨A,by omega⟩
theorem jy(s:Scm)(n:ByteArray)(h:SzS s):Ok (fun y:Msg×Bool=>y.1.fields.length≤1048576) (PD s n):=⟨_,jk s n h.ml,xa h n⟩
abbrev RR:=Scm→Fld→Val→Int→Bool→Option Int
theorem ZTq(R:RR)(s:Scm)(m:Msg)(v:Val)(i a:Int)(k:Bool)(hm:m.fields.length≤1048576)(b:A3 v)(h:0≤i)(l:i<v.slots.length)(n:1≤a)(o:a≤16)(c:∀(f:Fld) (x:Val),A3 x→Ok Tr (R s f x (a+1) k)):Ok Tr (PI R s m v i a k):=by
 obtain⟨s1,s2,p,q,r⟩:=B4 b
 have e:∀y:Fld×Bool,Ok (Sum.elim Tr Tr) (Am (Q3 s m v i a k R y) Aj 0):=by
  intro y
  refine Ok.loop (fun j:Nat=>(j:Int)≤i) (fun j:Nat=>(i-j).toNat) (by omega) (BD (by omega)) fun j d=>?_
  dsimp only[Q3,eZ,br,ix,vw,vs,AC,ln,Al,wa,br]
  (repeat' (first|with_reducible refine Ok.br (fun _=>?_) (fun _=>?_)|with_reducible refine Ok.pure ?_|with_reducible refine Ok.idx ?_ (fun _ _ _=>?_)|with_reducible refine Ok.if ?_ ?_))<;>(first|trivial|assumption|contradiction|omega|grind|(simp only[Bd.c,Bd.vl,ByteArray.size_append,ByteArray.size_extract,AF]at*;grind))
 have g:∀y:Fld×Bool,Ok (Sum.elim Tr Tr) (Am (Rl s m v i a k R y) Aj 0):=by
  intro y
  refine Ok.loop (fun j:Nat=>(j:Int)≤i) (fun j:Nat=>(i-j).toNat) (by omega) (BD (by omega)) fun j d=>?_
  dsimp only[Rl,io,e9,cW,ej,br,ix,vw,vs,AC,ln,Al,lc,cl,wa,du,br]
  (repeat' (first|with_reducible refine Ok.br (fun _=>?_) (fun _=>?_)|with_reducible refine Ok.pure ?_|with_reducible refine Ok.idx ?_ (fun _ _ _=>?_)|(with_reducible apply Ok.bind;(exact Tu _ _ hm);intro _ _)|with_reducible refine Ok.if ?_ ?_))<;>(first|trivial|assumption|contradiction|omega|grind|(simp only[Bd.c,Bd.vl,ByteArray.size_append,ByteArray.size_extract,AF]at*;grind))
 dsimp only[PI,bX,cB,eU,iS,iF,ia,br,Dj,vw,vs,lr,lc,cl,cs,wi,du,br]
 (repeat' (first|with_reducible refine Ok.br (fun _=>?_) (fun _=>?_)|with_reducible refine Ok.pure ?_|with_reducible refine Ok.idx ?_ (fun _ _ _=>?_)|(with_reducible apply Ok.lb;(exact e _);all_goals(intro _ _;try dsimp only))|(with_reducible apply Ok.lb;(exact g _);all_goals(intro _ _;try dsimp only))|(with_reducible apply Ok.bind;(exact Tu _ _ hm);intro _ _)|(with_reducible apply Ok.bind;(exact c _ _ (ER b (by assumption)));intro _ _)|with_reducible refine Ok.if ?_ ?_))<;>(first|trivial|assumption|contradiction|omega|grind|(simp only[Bd.c,Bd.vl,ByteArray.size_append,ByteArray.size_extract,AF]at*;grind))
theorem jz(R:RR)(s:Scm)(m:Msg)(v:Val)(a:Int)(k:Bool)(h:SzS s)(hm:m.fields.length≤1048576)(b:A3 v)(e:1≤a)(g:a≤16→∀(f:Fld) (x:Val),A3 x→Ok Tr (R s f x (a+1) k)):Ok Tr (PF R s m v a k):=by
 have c:=B4 b
 obtain⟨s1,s2,o,p,q⟩:=B4 b
 have i:a≤16→Ok (Sum.elim Tr Tr) (Am (Rv s m v a k R) Aj 0):=by
  intro hl
  refine Ok.loop (fun j:Nat=>j≤v.slots.length) (fun j:Nat=>v.slots.length-j) (by omega) (AX (by omega)) fun j d=>?_
  dsimp only[Rv,Xf,br,vz,vw,vs,v2,AC,ln,Al,cs,wa,Ah,br]
  (repeat' (first|with_reducible refine Ok.br (fun _=>?_) (fun _=>?_)|with_reducible refine Ok.pure ?_|(with_reducible apply Ok.bind;(exact ZTq _ _ _ _ _ _ _ hm b (by(first|trivial|assumption|contradiction|omega|solve_by_elim|(simp only[Bool.and_eq_true,Bool.or_eq_true,Bool.not_eq_true',Bool.and_eq_false_iff,Bool.or_eq_false_iff,decide_eq_true_eq,decide_eq_false_iff_not]at*;omega)|grind)) (by(first|trivial|assumption|contradiction|omega|solve_by_elim|(simp only[Bool.and_eq_true,Bool.or_eq_true,Bool.not_eq_true',Bool.and_eq_false_iff,Bool.or_eq_false_iff,decide_eq_true_eq,decide_eq_false_iff_not]at*;omega)|grind)) e hl (g hl));intro _ _)|with_reducible refine Ok.if ?_ ?_))<;>(first|trivial|assumption|contradiction|omega|grind|(simp only[Bd.c,Bd.vl,ByteArray.size_append,ByteArray.size_extract,AF]at*;grind))
 have l:Ok (Sum.elim Tr Tr) (Am (RU s m v R) Aj 0):=by
  refine Ok.loop (fun j:Nat=>j≤m.fields.length) (fun j:Nat=>m.fields.length-j) (by omega) (AX (by omega)) fun j d=>?_
  dsimp only[RU,U6,br,ix,A2,vz,vw,vs,AC,ln,Al,clg,wa,Ah,br]
  (repeat' (first|with_reducible refine Ok.br (fun _=>?_) (fun _=>?_)|with_reducible refine Ok.pure ?_|with_reducible refine Ok.idx ?_ (fun _ _ _=>?_)|(with_reducible apply Ok.bind;(exact sK _ _ c);intro _ _)|(with_reducible apply Ok.clg;(exact fun _=>sK _ _ c);intro _)|with_reducible refine Ok.idxg ?_ (fun _=>?_)|with_reducible refine Ok.if ?_ ?_))<;>(first|trivial|assumption|contradiction|omega|grind|(simp only[Bd.c,Bd.vl,ByteArray.size_append,ByteArray.size_extract,AF]at*;grind))
 have n:Ok (Sum.elim Tr Tr) (Am (RO s m v R) Aj 0):=by
  refine Ok.loop (fun j:Nat=>j≤v.raws.length) (fun j:Nat=>v.raws.length-j) (by omega) (AX (by omega)) fun j d=>?_
  dsimp only[RO,Uu,br,ix,vz,vw,vs,AC,ln,Al,cl,wa,Ah,br]
  (repeat' (first|with_reducible refine Ok.br (fun _=>?_) (fun _=>?_)|with_reducible refine Ok.pure ?_|with_reducible refine Ok.idx ?_ (fun _ _ _=>?_)|(with_reducible apply Ok.bind;(exact ZTH _ _ _ h hm (ZQx b (by assumption)));intro _ _)|with_reducible refine Ok.if ?_ ?_))<;>(first|trivial|assumption|contradiction|omega|grind|(simp only[Bd.c,Bd.vl,ByteArray.size_append,ByteArray.size_extract,AF]at*;grind))
 dsimp only[PF,VP,Xc,Vy,Uw,Xb,br,vw,lr,lc,clg,br]
 (repeat' (first|with_reducible refine Ok.br (fun _=>?_) (fun _=>?_)|with_reducible refine Ok.pure ?_|(with_reducible apply Ok.lb;(exact i (by(first|trivial|assumption|contradiction|omega|solve_by_elim|(simp only[Bool.and_eq_true,Bool.or_eq_true,Bool.not_eq_true',Bool.and_eq_false_iff,Bool.or_eq_false_iff,decide_eq_true_eq,decide_eq_false_iff_not]at*;omega)|grind)));all_goals(intro _ _;try dsimp only))|(with_reducible apply Ok.lb;(exact l);all_goals(intro _ _;try dsimp only))|(with_reducible apply Ok.lb;(exact n);all_goals(intro _ _;try dsimp only))|(with_reducible apply Ok.bind;(exact Jr _ c);intro _ _)|(with_reducible apply Ok.clg;(exact fun _=>Jr _ c);intro _)|with_reducible refine Ok.if ?_ ?_))<;>(first|trivial|assumption|contradiction|omega|grind|(simp only[Bd.c,Bd.vl,ByteArray.size_append,ByteArray.size_extract,AF]at*;grind))
theorem Pb(R:RR)(s:Scm)(t:Typ)(v:Val)(b:Int)(k:Bool)(h:SzS s)(a:A3 v)(c:1≤b)(d:b≤16→∀(f:Fld) (x:Val),A3 x→Ok Tr (R s f x (b+1) k)):Ok Tr (Ju R s t v b k):=by
 dsimp only[Ju,dn,br,vw,lr,cl,clg,cs,br]
 (repeat' (first|with_reducible refine Ok.br (fun _=>?_) (fun _=>?_)|with_reducible refine Ok.pure ?_|(with_reducible apply Ok.bind;(exact jy _ _ h);intro _ _)|(with_reducible apply Ok.bind;(exact jz _ _ _ _ _ _ h (by assumption) a c d);intro _ _)|(with_reducible apply Ok.bind;(exact Xn _ _ (B4 a));intro _ _)|(with_reducible apply Ok.bind;(exact O4 _ _ h);intro _ _)|(with_reducible apply Ok.bind;(exact Oo _ _ (by assumption));intro _ _)|(with_reducible apply Ok.clg;(exact fun _=>jy _ _ h);intro _)|(with_reducible apply Ok.clg;(exact fun _=>jz _ _ _ _ _ _ h (by assumption) a c d);intro _)|(with_reducible apply Ok.clg;(exact fun _=>Xn _ _ (B4 a));intro _)|(with_reducible apply Ok.clg;(exact fun _=>O4 _ _ h);intro _)|(with_reducible apply Ok.clg;(exact fun _=>Oo _ _ (by assumption));intro _)|with_reducible refine Ok.if ?_ ?_))<;>(first|trivial|assumption|contradiction|omega|grind|(simp only[Bd.c,Bd.vl,ByteArray.size_append,ByteArray.size_extract,AF]at*;grind))
theorem ZT1(R:RR)(s:Scm)(f:Fld)(v:Val)(b:Int)(k:Bool)(h:SzS s)(a:A3 v)(c:1≤b)(d:b≤16→∀(f:Fld) (x:Val),A3 x→Ok Tr (R s f x (b+1) k)):Ok Tr (R7 R s f v b k):=by
 have g:=B4 a
 obtain⟨s1,s2,o,p,q⟩:=B4 a
 have l:Ok (Sum.elim Tr Tr) (Am (Q5 s f v b k R) Aj 0):=by
  refine Ok.loop (fun j:Nat=>j≤v.list.length) (fun j:Nat=>v.list.length-j) (by omega) (AX (by omega)) fun j e=>?_
  dsimp only[Q5,ff,br,ix,vz,vw,vs,v2,AC,ln,Al,cs,wa,Ah,br]
  (repeat' (first|with_reducible refine Ok.br (fun _=>?_) (fun _=>?_)|with_reducible refine Ok.pure ?_|with_reducible refine Ok.idx ?_ (fun _ _ _=>?_)|(with_reducible apply Ok.bind;(exact Pb _ _ _ _ _ _ h (Gb a (by assumption)) c d);intro _ _)|with_reducible refine Ok.if ?_ ?_))<;>(first|trivial|assumption|contradiction|omega|grind|(simp only[Bd.c,Bd.vl,ByteArray.size_append,ByteArray.size_extract,AF]at*;grind))
 have n:∀i:Nat,i<v.pairs.length→Ok (Sum.elim Tr Tr) (Am (Rn s f v b k R i) Aj 0):=by
  intro i hi
  refine Ok.loop (fun j:Nat=>j≤i) (fun j:Nat=>i-j) (by omega) (BD (by omega)) fun j e=>?_
  dsimp only[Rn,fB,br,ix,A2,vw,vs,AC,ln,Al,wa,br]
  (repeat' (first|with_reducible refine Ok.br (fun _=>?_) (fun _=>?_)|with_reducible refine Ok.pure ?_|with_reducible refine Ok.idx ?_ (fun _ _ _=>?_)|with_reducible refine Ok.idxg ?_ (fun _=>?_)|with_reducible refine Ok.if ?_ ?_))<;>(first|trivial|assumption|contradiction|omega|grind|(simp only[Bd.c,Bd.vl,ByteArray.size_append,ByteArray.size_extract,AF]at*;grind))
 have m:Ok (Sum.elim Tr Tr) (Am (Ri s f v b k R) Aj 0):=by
  refine Ok.loop (fun j:Nat=>j≤v.pairs.length) (fun j:Nat=>v.pairs.length-j) (by omega) (AX (by omega)) fun j e=>?_
  dsimp only[Ri,b0,cR,cK,fX,gW,br,ix,vz,vw,vs,AC,ln,Al,lc,cl,cs,wa,Ah,br]
  (repeat' (first|with_reducible refine Ok.br (fun _=>?_) (fun _=>?_)|with_reducible refine Ok.pure ?_|with_reducible refine Ok.idx ?_ (fun _ _ _=>?_)|(with_reducible apply Ok.lb;(exact n _ (by(first|trivial|assumption|contradiction|omega|solve_by_elim|(simp only[Bool.and_eq_true,Bool.or_eq_true,Bool.not_eq_true',Bool.and_eq_false_iff,Bool.or_eq_false_iff,decide_eq_true_eq,decide_eq_false_iff_not]at*;omega)|grind)));all_goals(intro _ _;try dsimp only))|(with_reducible apply Ok.bind;(exact Xn _ _ (B4 (DJ a (by assumption)).1));intro _ _)|(with_reducible apply Ok.bind;(exact Pb _ _ _ _ _ _ h (DJ a (by assumption)).2 c d);intro _ _)|with_reducible refine Ok.if ?_ ?_))<;>(first|trivial|assumption|contradiction|omega|grind|(simp only[Bd.c,Bd.vl,ByteArray.size_append,ByteArray.size_extract,AF]at*;grind))
 dsimp only[R7,bZ,b9,cw,iN,b8,fI,cg,cF,gJ,cA,cq,cG,br,vw,lr,lc,clg,cs,br]
 (repeat' (first|with_reducible refine Ok.br (fun _=>?_) (fun _=>?_)|with_reducible refine Ok.pure ?_|(with_reducible apply Ok.lb;(exact l);all_goals(intro _ _;try dsimp only))|(with_reducible apply Ok.lb;(exact m);all_goals(intro _ _;try dsimp only))|(with_reducible apply Ok.bind;(exact Jr _ g);intro _ _)|(with_reducible apply Ok.bind;(exact Pb _ _ _ _ _ _ h a c d);intro _ _)|(with_reducible apply Ok.clg;(exact fun _=>Jr _ g);intro _)|(with_reducible apply Ok.clg;(exact fun _=>Pb _ _ _ _ _ _ h a c d);intro _)|with_reducible refine Ok.if ?_ ?_))<;>(first|trivial|assumption|contradiction|omega|grind|(simp only[Bd.c,Bd.vl,ByteArray.size_append,ByteArray.size_extract,AF]at*;grind))
theorem mF(s:Scm)(h:SzS s)(k:Bool):∀(b:Nat) (f:Fld) (v:Val) (a:Int),A3 v→1≤a→a≤17→18-a<b→Ok Tr (Ir b s f v a k)
 |0,f,v,a,d,c,e,i=>by omega
 |b+1,f,v,a,d,c,e,i=>ZT1 (Ir b) s f v a k h d c fun hl g x j=>mF s h k b g x (a+1) j (by omega) (by omega) (by omega)
theorem u12(s:Scm)(n:ByteArray)(v:Val)(h:SzS s)(a:A3 v):Ok Tr (ZA s n v):=by
 have c:Az (Ag v)<Aj:=by
  have:Az (Ag v)≤1048576:=a
  exact AX (by omega)
 have d:=Nu Aj v c a
 have Av:(18:Int)-2<(Aj:Nat):=by
  have:=BD (n:=20) (by omega)
  omega
 have b:(1:Int)≤16→∀(f:Fld) (x:Val),A3 x→Ok Tr (Ir Aj s f x (1+1) true):=fun _ f x g=>mF s h true Aj f x (1+1) g (by omega) (by omega) (by omega)
 have q:Ok Tr (ZH s n v true):=by
  dsimp only[ZH,WS,br,vw,lr,cl,br]
  (repeat' (first|with_reducible refine Ok.br (fun _=>?_) (fun _=>?_)|with_reducible refine Ok.pure ?_|(with_reducible apply Ok.bind;(exact jy _ _ h);intro _ _)|(with_reducible apply Ok.bind;(exact jz _ _ _ _ _ _ h (by assumption) a (by omega) b);intro _ _)|(with_reducible apply Ok.bind;(exact d);intro _ _)|with_reducible refine Ok.if ?_ ?_))<;>(first|trivial|assumption|contradiction|omega|grind|(simp only[Bd.c,Bd.vl,ByteArray.size_append,ByteArray.size_extract,AF]at*;grind))
 obtain⟨y,e,_⟩:=q
 dsimp only[ZA,Vv,vw,lr,cl]
 rw[e]
 exact⟨_,rfl,trivial⟩
theorem cE{s:Scm}(h:∀(i:Nat) (m:Msg),s.messages[i]?=some m→GdM m)(hs:Az (As s)≤1048576)(n:ByteArray):FH (Ax s n) (Ax s n).length∧Fc (Ax s n)∧(Ax s n).length≤1048576:=by
 have hl:=xa (zK hs) n
 unfold Ax BV at*
 cases e:s.messages.find? fun m=>decide (m.name=n)with
 |none=>exact⟨fun i a b hi=>by simp[zM]at hi,fun f c=>by simp[zM]at c,by simp[zM]⟩
 |some m=>
  rw[e]at hl
  have hm:=TT e
  obtain⟨i,hi⟩:=YK.1 hm
  have g:=h i m hi
  refine⟨g.asc,fun f c=>?_,hl⟩
  obtain⟨j,k⟩:=YK.1 c
  refine⟨g.df j f k,?_⟩
  have d:=CE (e:=Aw) hm
  have l:=CE (e:=Ap) (show f∈m.fields from c)
  simp only[As,Az,bk]at hs
  simp only[Aw,Az,bk]at d
  have e:Az (Ag f.dflt)≤Az (Ap f):=by
   simp only[Ap,Ag,Az,bk]
   omega
  show Az (Ag f.dflt)≤1048576
  omega
theorem o6g(s:Scm)(n:ByteArray)(h:SzS s):Ok (fun b=>b=true→∀(i:Nat) (m:Msg),s.messages[i]?=some m→GdM m) (ZY s n):=by
 dsimp only[ZY,X4,vz,vw,lr,clg,A7]
 have a:=o15 _ h
 have c:∀k:Few s,Ok (fun b=>b=true→∀(i:Nat) (m:Msg),s.messages[i]?=some m→GdM m) (PC s):=fun k=>o16 _ h k
 (repeat' (first|with_reducible refine Ok.br (fun _=>?_) (fun _=>?_)|with_reducible refine Ok.pure ?_|(with_reducible apply Ok.bind;(exact a);intro _ _)|(with_reducible apply Ok.bind;(exact c (by simp_all));intro _ _)|(with_reducible apply Ok.clg;(exact fun _=>a);intro _)|(with_reducible apply Ok.clg;(exact fun _=>c (by simp_all));intro _)|with_reducible refine Ok.if ?_ ?_))<;>(simp_all<;>(rename_i q;exact q))
theorem ZhN{s:Scm}{n:ByteArray}{v:Val}(hs:Az (As s)≤1048576)(_:(0:Nat)≤1)(a:Az (Ag v)≤1048576):Zc s n v=some true:=by
 have h:=zK hs
 have c:Az (Ag v)<Aj:=AX (by omega)
 have Av:2*Az (Ag v)+1048580≤Aj:=by
  have:=BD (n:=4194304) (by omega)
  omega
 obtain⟨b,o,r⟩:=o6g s n h
 obtain⟨l,p,_⟩:=o6 v a
 obtain⟨m,q,_⟩:=u12 s n v h a
 dsimp only[Zc,Xl,br,vw,lr,cl,clg,br]
 rw[o,Yg,p,q,aw]
 cases b with
 |false=>simp
 |true=>
  have e:=r rfl
  have hl:∀n,(Ax s n).length≤1048576:=fun n=>(cE e hs n).2.2
  have t:∀n,FH (Ax s n) (Ax s n).length:=fun n=>(cE e hs n).1
  have d:∀n,Fc (Ax s n):=fun n=>(cE e hs n).2.1
  have f1:=tv h.ml hl t Aj n v a c
  have f2:=zk s n v (DV Aj) (CH s Aj) h.ml (hl n) (B4 a).s fun x i=>J9 i a (k:=Aj) (by omega) fun y hy g=>rp h.ml hl Aj _ y hy g
  have f3:Gm s (CH s Aj) n v=CH s Aj n v:=wQ s (Aj+1) Aj n v (by omega) c
  obtain⟨w,f4,f5⟩:=Ql hl (fun n f u=>((d n) f u).2) Aj n v a c Aj Av
  have t1:=rI h.ml hl d Aj n v a c
  have t2:=zl s n v (DV Aj) (CV s Aj) h.ml (hl n) (d n) a fun x i=>J9 i a (k:=Aj) (by omega) fun y hy g=>rH h.ml hl d Aj _ y hy g
  have t3:Gw s (CV s Aj) n v=CV s Aj n v:=xw s (Aj+1) Aj n v (by omega) c
  obtain⟨z,t4,t5⟩:=Qs (s:=s) Aj n v a c Aj Av
  rw[f3]at f2
  rw[t3]at t2
  rw[f1,f2,t1,t2]
  subst f5
  subst t5
  cases l with
  |false=>simp
  |true=>
   by_cases j:m=0
   ·simp[j,f4,t4]
   ·simp[j]
end Go.Proofs.YtchkcemlglpobaaGreat
