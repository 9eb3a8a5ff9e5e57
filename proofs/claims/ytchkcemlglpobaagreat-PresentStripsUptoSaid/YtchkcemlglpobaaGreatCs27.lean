import Derived.Test.YtchkcemlglpobaaGreatCs26
import Derived.Test.YtchkcemlglpobaaGreatCs00
namespace Go.Proofs.YtchkcemlglpobaaGreat
set_option linter.all false
open Go Go.Eng
theorem Xy(a:Scm→ByteArray→Val→Option Val)(z:Val)(s:Scm)(f:Fld):Jv a z s f=a s f.type.name z:=by
 dsimp only[Jv,bU,vw,lr,cs,Zm,UX]
 cases a s f.type.name z<;>rfl
theorem ZSP(a:Acs)(v:Val)(s:Scm)(c:Scm→ByteArray→Val→Option Val)(R:ByteArray→Val→Val)(n:a.m.fields.length≤1048576)(E:v.slots.length≤4194304)
  (h:Nx a.m.fields (fun f y=>c s f.type.name y=some (R f.type.name y)) v.slots):LS c a v s=some (v.kind,v.bits,v.text,v.list,v.pairs,v.raws,AR R a.m.fields v.slots):=by
 have d:=L9 (B:=Mx a v s c) (N:=Ai) (ρ:=Int×Int×ByteArray×List Val×List Pr×List Raw×List Slt) v.slots (fun p=>AR R a.m.fields p) (fun i b=>(i,b)) id (fun i y hy=>by
  have e:=DH hy
  have D:=(Yd.1 hy).1
  have g:i+1<9223372036854775808:=by omega
  have j:min i v.slots.length<549755813887:=by omega
  obtain⟨x,A,C⟩:=h y (Yi hy)
  have k:=x5 (AN a.m.fields y.num) y.val (fun z=>Jv c z s (AN a.m.fields y.num)) R x A (fun o=>by
   obtain⟨t,u,w⟩:=C o
   exact⟨fun z r=>(Xy _ _ _ _).trans (t z r),fun p q=>(Xy _ _ _ _).trans (u p q),(Xy _ _ _ _).trans w⟩)
  have l:(AR R a.m.fields (v.slots.take i)).length<549755813887:=by unfold AR;rw[Yp,Yr];exact j
  have m:AR R a.m.fields (v.slots.take i++[y])=AR R a.m.fields (v.slots.take i)++[.mk y.num (Br R (AN a.m.fields y.num) y.val)]:=by unfold AR;rw[HQ];rfl
  dsimp only[Mx,Qt,br,ix,vz,vw,vs,ln,Al,ap,cl,cs,wa,fl,br]
  simp only[e,hy,SZ _ _ n,decide_true,if_true,Yg]
  rw[show(B2 a.m.fields y.num).1=AN a.m.fields y.num from rfl,k]
  simp only[Yg,l,g,if_true,m]) (by simp[Mx,Qt,br,ix,vz,vw,vs,ln,Al,ap,cl,cs,wa,fl,br]) (B0 (by omega))
 have e0:AR R a.m.fields []=[]:=rfl
 rw[e0]at d
 dsimp only[LS,fT,gh,b8,hH,vz,vw,lr,lc,fl,Ah,mvc]
 simp[d]
def BP(F:List Fld)(x:Slt):Bool:=(AN F x.num).hasDefault&&Gt (AN F x.num).dflt x.val
def Di(F:List Fld):Prop:=∀f∈F,HD f∧AZ f.dflt
theorem zQ(F:List Fld)(k:Int):((B2 F k).2=false∧AN F k=zF)∨((B2 F k).2=true∧AN F k∈F):=by
 unfold AN B2 BC
 cases e:F.find? fun f=>decide (f.num=k)with
 |none=>exact .inl ⟨rfl,rfl⟩
 |some f=>exact .inr ⟨rfl,La e⟩
theorem vW{F:List Fld}(h:Di F){k:Int}(b:(AN F k).hasDefault=true):IU (AN F k).type.kind (AN F k).dflt∧AZ (AN F k).dflt∧(B2 F k).2=true:=by
 rcases zQ F k with⟨c,a⟩|⟨c,a⟩
 ·rw[a]at b;cases b
 ·exact⟨((h _ a).1 b).1,(h _ a).2,c⟩
theorem fu{F:List Fld}(h:Di F){k:Int}(b:(AN F k).hasDefault=true)(R:ByteArray→Val→Val)(x:Val):Br R (AN F k) x=x:=by
 obtain⟨a,_,_⟩:=vW h b
 have:¬(AN F k).type.kind=10:=by have:=a.2.1;omega
 unfold Br
 rw[if_neg this]
theorem ZIP{F:List Fld}(h:Di F)(R:ByteArray→Val→Val)(x:Slt):BP F (.mk x.num (Br R (AN F x.num) x.val))=BP F x:=by
 unfold BP
 show((AN F x.num).hasDefault&&Gt (AN F x.num).dflt (Br R (AN F x.num) x.val))=_
 cases a:(AN F x.num).hasDefault with
 |false=>rfl
 |true=>rw[fu h a]
theorem n42(a:Acs)(x:Slt)(i:a.m.fields.length≤1048576)(h:Di a.m.fields)(j:(AN a.m.fields x.num).hasDefault=true→AZ x.val):Jx x a=some (BP a.m.fields x):=by
 dsimp only[Jx,WH,vw,lr,cl,clg]
 rw[SZ _ _ i]
 simp only[Yg]
 rw[show(B2 a.m.fields x.num).1=AN a.m.fields x.num from rfl]
 unfold BP
 cases c:(AN a.m.fields x.num).hasDefault with
 |false=>simp
 |true=>
  obtain⟨b,f,g⟩:=vW h c
  have e:=(n44 (d:=(AN a.m.fields x.num).dflt) (x:=x.val) (by rw[b.2.2.1];exact⟨b.1,b.2.1⟩) f (j c)).1
  simp[g,e]
def Ii(s:Scm)(R:ByteArray→Val→Val)(n:ByteArray)(v:Val):Val:=.mk v.kind v.bits v.text v.list v.pairs (AR R (As s n) (v.slots.filter fun x=>!BP (As s n) x)) v.raws
theorem sE{F:List Fld}(h:Di F)(R:ByteArray→Val→Val)(l:List Slt):(AR R F l).filter (fun x=>!BP F x)=AR R F (l.filter fun x=>!BP F x):=by
 unfold AR
 rw[List.filter_map]
 congr 1
 exact List.filter_congr fun x _=>by show(!BP F (.mk x.num _))=_;rw[ZIP h]
theorem x2(s:Scm)(n:ByteArray)(v:Val)(c:Nat)(R:ByteArray→Val→Val)(hs:s.messages.length≤1048576)(i:(As s n).length≤1048576)(e:Di (As s n))(g:v.slots.length≤4194304)(l:∀x∈v.slots,(AN (As s n) x.num).hasDefault=true→AZ x.val)
  (h:Nx (As s n) (fun f y=>EH c s f.type.name y=some (R f.type.name y)) v.slots):EH (c+1) s n v=some (Ii s R n v):=by
 have d:LS (EH c) (.mk (BC s.messages zM fun m=>decide (m.name=n)).1 s) v s=some (v.kind,v.bits,v.text,v.list,v.pairs,v.raws,AR R (As s n) v.slots):=ZSP _ v s (EH c) R i g h
 have b:=n41 (AR R (As s n) v.slots) (fun z=>Jx z (.mk (BC s.messages zM fun m=>decide (m.name=n)).1 s)) (BP (As s n)) (fun x j=>by
  refine n42 _ x i e fun a=>?_
  unfold AR at j
  obtain⟨y,hy,rfl⟩:=Yy.1 j
  have a:(AN (As s n) y.num).hasDefault=true:=a
  show AZ (Br R (AN (As s n) y.num) y.val)
  rw[fu e a]
  exact l y hy a) (by rw[JO];omega)
 rw[sE e]at b
 have k:(AR R (As s n) (v.slots.filter fun x=>!BP (As s n) x)).length<549755813888:=by
  rw[JO]
  exact Nat.lt_of_le_of_lt (NE _ _) (by omega)
 show O3 (EH c) s n v=_
 dsimp only[O3,Wv,Vd,Vn,Wl,Wa,T2,vz,vw,lr,lc,cl,fl,fr]
 rw[iA _ _ hs]
 simp only[Yg]
 rw[d]
 simp only[Yg]
 rw[b]
 simp only[Yg,k,if_true]
 rfl
end Go.Proofs.YtchkcemlglpobaaGreat
namespace Go.Proofs.YtchkcemlglpobaaGreat
set_option linter.all false
open Go Go.Eng
def Cb(s:Scm):Nat→ByteArray→Val→Val
 |0,_,v=>v
 |k+1,n,v=>Ii s (Cb s k) n v
section
variable {s:Scm} (hs:s.messages.length≤1048576) (hl:∀n,(As s n).length≤1048576) (hd:∀n,Di (As s n))
include hs hl hd
theorem qS:∀(a:Nat) (n:ByteArray) (v:Val),AZ v→Ax (Ag v)<a→EH a s n v=some (Cb s a n v)
 |0,n,v,b,h=>by omega
 |a+1,n,v,b,h=>x2 s n v a (Cb s a) hs (hl n) (hd n) (by have:=(BY b).s;omega) (fun x c _=>El b c) fun x c=>by
  obtain⟨e,f,g⟩:=Qx c b h (P:=fun y=>EH a s (AN (As s n) x.num).type.name y=some (Cb s a (AN (As s n) x.num).type.name y)) fun y hy d=>qS a _ y hy d
  exact⟨e,f,fun _=>g⟩
end
theorem Qp{s:Scm}:∀(k:Nat) (n:ByteArray) (v:Val),AZ v→Ax (Ag v)<k→FN (2*Ax (Ag v)+1048580) (Cb s k n v)
 |0,n,v,a,h=>by omega
 |k+1,n,v,a,h=>by
  have d:AZ v→Ax (Ag v)≤1048576:=id
  have d:=d a
  show FN _ (Ii s (Cb s k) n v)
  unfold Ii
  refine zi (c:=2*Ax (Ag v)+1048579) a (by omega) ?_ fun x f=>?_
  ·rw[JO]
   have i:=NE (fun x=>!BP (As s n) x) v.slots
   have:=(BY a).s
   omega
  ·unfold AR at f
   obtain⟨y,hy,rfl⟩:=Yy.1 f
   have hy:=(YW.1 hy).1
   have i:=Iz hy
   have b:=El a hy
   refine zE (c:=2*Ax (Ag v)+1048578) b (by omega) fun _=>⟨fun z g=>?_,fun p e=>?_,?_⟩
   ·have:=IA g
    exact(Qp k _ z (G3 b g) (by omega)).mono (by omega)
   ·have:=(Fq e).2
    exact(Qp k _ p.val (D0 b e).2 (by omega)).mono (by omega)
   ·exact(Qp k _ y.val b (by omega)).mono (by omega)
theorem ZMX{v:Val}{x:Raw}(h:AZ v)(b:x∈v.raws):x.data.size≤1048576:=by
 have a:=CF (e:=Az) b
 unfold AZ at h
 conv at h=>unfold Ag
 simp only[Ax,bk,Az]at h a
 omega
theorem H4(v:Val)(h:SzV v):Ok Tr (Pf v):=by
 obtain⟨_,_,_,_,_⟩:=h
 dsimp only[Pf,Rl,br,vz,vy,vw,lr,Ah,br]
 (repeat' (first|with_reducible refine Ok.br (fun _=>?_) (fun _=>?_)|with_reducible refine Ok.pure ?_|with_reducible refine Ok.if ?_ ?_))<;>(first|trivial|assumption|contradiction|omega|grind|(simp only[Bd.c,Bd.vl,ByteArray.size_append,ByteArray.size_extract,AE]at*;grind))
theorem pH(v:Val)(n:Int)(h:SzV v):Ok Tr (ZA v n):=by
 have a:=h.s
 have q:Ok Ts (Am (QZ v n) Ai 0):=by
  refine Ok.loop (fun i:Nat=>i≤v.slots.length) (fun i:Nat=>v.slots.length-i) (by omega) (AW (by omega)) fun i hi=>?_
  dsimp only[QZ,bL,br,ix,vz,vw,vs,Ay,ln,Al,wa,Ah,br]
  (repeat' (first|with_reducible refine Ok.br (fun _=>?_) (fun _=>?_)|with_reducible refine Ok.pure ?_|with_reducible refine Ok.idx ?_ (fun _ _ _=>?_)|with_reducible refine Ok.if ?_ ?_))<;>(first|trivial|assumption|contradiction|omega|grind|(simp only[Bd.c,Bd.vl,ByteArray.size_append,ByteArray.size_extract,AE]at*;grind))
 dsimp only[ZA,da,fO,dY,lr,lc]
 (repeat' (first|with_reducible refine Ok.br (fun _=>?_) (fun _=>?_)|with_reducible refine Ok.pure ?_|(with_reducible apply Ok.lb;(exact q);all_goals(intro _ _;try dsimp only))|with_reducible refine Ok.if ?_ ?_))<;>(first|trivial|assumption|contradiction|omega|grind|(simp only[Bd.c,Bd.vl,ByteArray.size_append,ByteArray.size_extract,AE]at*;grind))
theorem OX(e:Enm)(n:Int)(h:e.items.length≤1048576):Ok Tr (Zs e n):=by
 have q:Ok Ts (Am (Qs e n) Ai 0):=by
  refine Ok.loop (fun i:Nat=>i≤e.items.length) (fun i:Nat=>e.items.length-i) (by omega) (AW (by omega)) fun i hi=>?_
  dsimp only[Qs,bJ,br,ix,A8,vz,vy,vw,vs,Ay,ln,Al,wa,Ah,br]
  (repeat' (first|with_reducible refine Ok.br (fun _=>?_) (fun _=>?_)|with_reducible refine Ok.pure ?_|with_reducible refine Ok.idx ?_ (fun _ _ _=>?_)|with_reducible refine Ok.idxg ?_ (fun _=>?_)|with_reducible refine Ok.if ?_ ?_))<;>(first|trivial|assumption|contradiction|omega|grind|(simp only[Bd.c,Bd.vl,ByteArray.size_append,ByteArray.size_extract,AE]at*;grind))
 dsimp only[Zs,hX,fI,gq,lr,lc]
 (repeat' (first|with_reducible refine Ok.br (fun _=>?_) (fun _=>?_)|with_reducible refine Ok.pure ?_|(with_reducible apply Ok.lb;(exact q);all_goals(intro _ _;try dsimp only))|with_reducible refine Ok.if ?_ ?_))<;>(first|trivial|assumption|contradiction|omega|grind|(simp only[Bd.c,Bd.vl,ByteArray.size_append,ByteArray.size_extract,AE]at*;grind))
theorem OA(s:Scm)(n:ByteArray)(h:SzS s):Ok (fun y:Enm×Bool=>y.1.items.length≤1048576) (Zr s n):=by
 have a:=h.el
 have he:∀y∈s.enums,y.items.length≤1048576:=fun y hy=>(h.e y hy).il
 have q:Ok (Sum.elim Tr (fun y:Enm×Bool=>y.1.items.length≤1048576)) (Am (Qz s n) Ai 0):=by
  refine Ok.loop (fun i:Nat=>i≤s.enums.length) (fun i:Nat=>s.enums.length-i) (by omega) (AW (by omega)) fun i hi=>?_
  dsimp only[Qz,gu,br,ix,vz,vw,vs,Ay,ln,Al,wa,Ah,br]
  (repeat' (first|with_reducible refine Ok.br (fun _=>?_) (fun _=>?_)|with_reducible refine Ok.pure ?_|with_reducible refine Ok.idx ?_ (fun _ _ _=>?_)|with_reducible refine Ok.if ?_ ?_))<;>first|exact he _ (by assumption)|(first|trivial|assumption|contradiction|omega|grind|(simp only[Bd.c,Bd.vl,ByteArray.size_append,ByteArray.size_extract,AE]at*;grind))
 dsimp only[Zr,fc,fD,fY,vw,lr,lc]
 (repeat' (first|with_reducible refine Ok.br (fun _=>?_) (fun _=>?_)|with_reducible refine Ok.pure ?_|(with_reducible apply Ok.lb;(exact q);all_goals(intro _ _;try dsimp only))|with_reducible refine Ok.if ?_ ?_))<;>first|(show(0:Nat)≤1048576;omega)|assumption|(first|trivial|assumption|contradiction|omega|grind|(simp only[Bd.c,Bd.vl,ByteArray.size_append,ByteArray.size_extract,AE]at*;grind))
theorem Xl(n:Int)(v:Val)(h:SzV v):Ok Tr (GN n v):=by
 have a:=h.t
 dsimp only[GN,MD,br,vz,vw,lr,cl,clg,A3,br]
 (repeat' (first|with_reducible refine Ok.br (fun _=>?_) (fun _=>?_)|with_reducible refine Ok.pure ?_|(with_reducible apply Ok.bind;(exact H4 _ h);intro _ _)|(with_reducible apply Ok.bind;(exact I8 _ _ h);intro _ _)|(with_reducible apply Ok.clg;(exact fun _=>H4 _ h);intro _)|(with_reducible apply Ok.clg;(exact fun _=>I8 _ _ h);intro _)|with_reducible refine Ok.if ?_ ?_))<;>(first|trivial|assumption|contradiction|omega|grind|(simp only[Bd.c,Bd.vl,ByteArray.size_append,ByteArray.size_extract,AE]at*;grind))
theorem iJ(m:Msg)(k:Int)(h:m.fields.length≤1048576):Ok Tr (Pj m k):=⟨_,x4 m k h,trivial⟩
theorem ZR5(s:Scm)(m:Msg)(x:Raw)(h:SzS s)(hm:m.fields.length≤1048576)(a:x.data.size≤1048576):Ok Tr (ZB s m x):=by
 dsimp only[ZB,fm,ax,br,vy,vw,lr,cl,clg,A3,br]
 (repeat' (first|with_reducible refine Ok.br (fun _=>?_) (fun _=>?_)|with_reducible refine Ok.pure ?_|(with_reducible apply Ok.bind;(exact iJ _ _ hm);intro _ _)|(with_reducible apply Ok.bind;(exact OA _ _ h);intro _ _)|(with_reducible apply Ok.bind;(exact OX _ _ (by solve_by_elim));intro _ _)|(with_reducible apply Ok.clg;(exact fun _=>iJ _ _ hm);intro _)|(with_reducible apply Ok.clg;(exact fun _=>OA _ _ h);intro _)|(with_reducible apply Ok.clg;(exact fun _=>OX _ _ (by solve_by_elim));intro _)|with_reducible refine Ok.if ?_ ?_))<;>(first|trivial|assumption|contradiction|omega|grind|(simp only[Bd.c,Bd.vl,ByteArray.size_append,ByteArray.size_extract,AE]at*;grind))
theorem aJ:∀a b:List (List D),Bh (a++b)=Bh a+Bh b
 |[],b=>by rw[FO,Bh,YD]
 |x::a,b=>by rw[K2,Bh,Bh,aJ a b];omega
theorem ak{α:Type}(e:α→List D){l:List α}{i:Nat}{x:α}(h:l[i]?=some x):Bh ((l.take (i+1)).map e)=Bh ((l.take i).map e)+Ax (e x)+1:=by
 obtain⟨a,rfl⟩:=Yd.1 h
 rw[Y0 a,HQ,aJ]
 simp only[YS,TD,Bh]
 omega
theorem JP{α:Type}(e:α→List D)(l:List α)(i:Nat):Bh ((l.take i).map e)≤Bh (l.map e):=by
 conv=>rhs;rw[←Y1 i l,HQ,aJ]
 omega
theorem M9:∀(c:Nat) (v:Val),Ax (Ag v)<c→AZ v→Ok (fun y:Int=>0≤y∧y≤2*(Ax (Ag v):Int)+1) (GO c v)
 |0,v,h,_=>by omega
 |c+1,v,h,k=>by
  obtain⟨s1,s2,O,P,Q⟩:=BY k
  have M:Ax (Ag v)≤1048576:=k
  have C:Ax (Ag v)=Ax [.int .i64 v.kind,.int .u64 v.bits,.str v.text,.list (v.list.map Aq),.list (v.pairs.map Au),.list (v.slots.map Aj),.list (v.raws.map Az)]:=rfl
  have N:=C2 (e:=Az) v.raws
  have L:Bh (v.list.map Aq)+Bh (v.pairs.map Au)+Bh (v.slots.map Aj)+v.raws.length≤Ax (Ag v):=by
   rw[C]
   simp only[Ax,bk]
   omega
  have F:Ok (Sum.elim (fun y:Int=>0≤y∧y≤1+v.raws.length+2*Bh (v.list.map Aq)) No) (Am (Rm v (GO c)) Ai (((1+v.raws.length:Nat):Int),0)):=by
   refine Ok.loop (fun z:Int×Nat=>z.2≤v.list.length∧0≤z.1∧z.1≤1+v.raws.length+2*Bh ((v.list.take z.2).map Aq)) (fun z:Int×Nat=>v.list.length-z.2) ⟨EG _,by show(0:Int)≤((1+v.raws.length:Nat):Int);omega,by show((1+v.raws.length:Nat):Int)≤_;omega⟩ (AW (by omega)) fun z r=>?_
   obtain⟨n,i⟩:=z
   obtain⟨s,j,z3⟩:=r
   dsimp only at s j z3
   have z4:=JP Aq v.list i
   dsimp only[Rm,Wn,br,ix,vz,vw,vs,v2,ln,Al,cs,wa,wi,Ah,br]
   cases a:v.list[i]? with
   |none=>
    have q:=Tw.1 a
    have g:¬((i:Int)<(v.list.length:Int)):=by omega
    simp only[g,decide_false,YB,if_false]
    exact Ok.pure ⟨j,by omega⟩
   |some x=>
    have o:=DH a
    have p:i+1<9223372036854775808:=by have:=(Yd.1 a).1;omega
    have hm:=Yi a
    obtain⟨y,e,d,f⟩:=M9 c x (by have:=IA hm;omega) (G3 k hm)
    have t1:=ak Aq a
    have t2:=JP Aq v.list (i+1)
    rw[FZ]at t1
    have l: -9223372036854775808≤n+y∧n+y<9223372036854775808:=by omega
    simp only[o,decide_true,if_true,e,Yg,l,and_self,p]
    exact Ok.pure ⟨⟨by show i+1≤_;omega,by show 0≤n+y;omega,by show n+y≤1+v.raws.length+2*Bh ((v.list.take (i+1)).map Aq);omega⟩,by show v.list.length-(i+1)<v.list.length-i;omega⟩
  have G:∀b:Int,0≤b→b≤1+v.raws.length+2*Bh (v.list.map Aq)→Ok (Sum.elim (fun y:Int=>0≤y∧y≤b+2*Bh (v.pairs.map Au)) No) (Am (Si v (GO c)) Ai (b,0)):=by
   intro b a1 a2
   refine Ok.loop (fun z:Int×Nat=>z.2≤v.pairs.length∧0≤z.1∧z.1≤b+2*Bh ((v.pairs.take z.2).map Au)) (fun z:Int×Nat=>v.pairs.length-z.2) ⟨EG _,a1,by show b≤_;omega⟩ (AW (by omega)) fun z r=>?_
   obtain⟨n,i⟩:=z
   obtain⟨s,j,z3⟩:=r
   dsimp only at s j z3
   have z4:=JP Au v.pairs i
   dsimp only[Si,TQ,br,ix,vz,vw,vs,ln,Al,cs,wa,wi,Ah,br]
   cases a:v.pairs[i]? with
   |none=>
    have q:=Tw.1 a
    have g:¬((i:Int)<(v.pairs.length:Int)):=by omega
    simp only[g,decide_false,YB,if_false]
    exact Ok.pure ⟨j,by omega⟩
   |some x=>
    have o:=DH a
    have p:i+1<9223372036854775808:=by have:=(Yd.1 a).1;omega
    have hm:=Yi a
    obtain⟨y,e,d,f⟩:=M9 c x.key (by have:=(Fq hm).1;omega) (D0 k hm).1
    obtain⟨m,e',I,J⟩:=M9 c x.val (by have:=(Fq hm).2;omega) (D0 k hm).2
    have t1:=ak Au a
    have t2:=JP Au v.pairs (i+1)
    have t3:Au x=Ag x.key++Ag x.val:=by rw[Ix];rfl
    rw[t3,Mn]at t1
    have l: -9223372036854775808≤y+m∧y+m<9223372036854775808:=by omega
    have w2: -9223372036854775808≤n+(y+m)∧n+(y+m)<9223372036854775808:=by omega
    simp only[o,decide_true,if_true,e,e',Yg,l,w2,and_self,p]
    exact Ok.pure ⟨⟨by show i+1≤_;omega,by show 0≤n+(y+m);omega,by show n+(y+m)≤b+2*Bh ((v.pairs.take (i+1)).map Au);omega⟩,by show v.pairs.length-(i+1)<v.pairs.length-i;omega⟩
  have H:∀b:Int,0≤b→b≤1+v.raws.length+2*Bh (v.list.map Aq)+2*Bh (v.pairs.map Au)→Ok (Sum.elim (fun y:Int=>0≤y∧y≤b+2*Bh (v.slots.map Aj)) No) (Am (Sg v (GO c)) Ai (b,0)):=by
   intro b a1 a2
   refine Ok.loop (fun z:Int×Nat=>z.2≤v.slots.length∧0≤z.1∧z.1≤b+2*Bh ((v.slots.take z.2).map Aj)) (fun z:Int×Nat=>v.slots.length-z.2) ⟨EG _,a1,by show b≤_;omega⟩ (AW (by omega)) fun z r=>?_
   obtain⟨n,i⟩:=z
   obtain⟨s,j,z3⟩:=r
   dsimp only at s j z3
   have z4:=JP Aj v.slots i
   dsimp only[Sg,Vu,br,ix,vz,vw,vs,ln,Al,cs,wa,wi,Ah,br]
   cases a:v.slots[i]? with
   |none=>
    have q:=Tw.1 a
    have g:¬((i:Int)<(v.slots.length:Int)):=by omega
    simp only[g,decide_false,YB,if_false]
    exact Ok.pure ⟨j,by omega⟩
   |some x=>
    have o:=DH a
    have p:i+1<9223372036854775808:=by have:=(Yd.1 a).1;omega
    have hm:=Yi a
    obtain⟨y,e,d,f⟩:=M9 c x.val (by have:=Iz hm;omega) (El k hm)
    have t1:=ak Aj a
    have t2:=JP Aj v.slots (i+1)
    have t3:Aj x=D.int .i64 x.num::Ag x.val:=by rw[F0];rfl
    rw[t3,Ax]at t1
    have l: -9223372036854775808≤n+y∧n+y<9223372036854775808:=by omega
    simp only[o,decide_true,if_true,e,Yg,l,and_self,p]
    exact Ok.pure ⟨⟨by show i+1≤_;omega,by show 0≤n+y;omega,by show n+y≤b+2*Bh ((v.slots.take (i+1)).map Aj);omega⟩,by show v.slots.length-(i+1)<v.slots.length-i;omega⟩
  obtain⟨d,B,a1⟩:=F
  cases d with
  |inr _=>exact a1.elim
  |inl d=>
  obtain⟨f,w,a2⟩:=G d a1.1 a1.2
  cases f with
  |inr _=>exact a2.elim
  |inl f=>
  have a3:f≤d+2*Bh (v.pairs.map Au):=a2.2
  have a4:d≤1+v.raws.length+2*Bh (v.list.map Aq):=a1.2
  obtain⟨t,E,u⟩:=H f a2.1 (by omega)
  cases t with
  |inr _=>exact u.elim
  |inl t=>
  have K:t≤f+2*Bh (v.slots.map Aj):=u.2
  have A:0≤t:=u.1
  have l:1+v.raws.length<9223372036854775808:=by omega
  show Ok _ (Ox (GO c) v)
  dsimp only[Ox,UC,Uc,Wr,WK,Wu,vz,vw,vs,lr,lc,wa,Ah]
  simp only[l,if_true,B,Yg,Sum.elim_inl,w,E]
  exact Ok.pure ⟨A,by omega⟩
theorem yq(s:Scm)(n:ByteArray)(h:SzS s):Ok (fun y:Msg×Bool=>y.1.fields.length≤1048576) (Js s n):=⟨_,iv s n h.ml,bA h n⟩
theorem Zwa{F:List Fld}{k:Int}(h:(B2 F k).2=true):(AN F k).num=k:=by
 unfold AN B2 BC at*
 cases e:F.find? fun f=>decide (f.num=k)with
 |none=>rw[e]at h;cases h
 |some f=>exact of_decide_eq_true (p:=f.num=k) (TN (p:=fun f:Fld=>decide (f.num=k)) e)
abbrev IC:=Scm→Fld→Val→Int→Bool→Option Int
abbrev Tn:=Fld→Val→Prop
def HG(P:Tn)(F:List Fld)(l:List Slt)(i:Nat)(x:Slt):Prop:=(∀(j:Nat) (y:Slt),j<i→l[j]?=some y→y.num≠x.num)∧P (AN F x.num) x.val
theorem ZST(P:Tn)(R:IC)(s:Scm)(m:Msg)(v:Val)(i:Nat)(lv:Int)(k:Bool)(hm:m.fields.length≤1048576)(u:AZ v)(g:(i:Int)<v.slots.length)(l:1≤lv)(L:lv≤16)(E:∀(f:Fld) (x:Val),AZ x→Ok (fun y=>y=0→P f x) (R s f x (lv+1) k)):Ok (fun y=>y=0→∀x,v.slots[i]?=some x→HG P m.fields v.slots i x) (Pm R s m v i lv k):=by
 obtain⟨s1,s2,M,N,O⟩:=BY u
 have G:∀y:Fld×Bool,Ok (Sum.elim (fun _=>∀(j:Nat) (z:Slt),j<i→v.slots[j]?=some z→z.num≠y.1.num) (fun e:Int=>e≠0)) (Am (QF s m v i lv k R y) Ai 0):=by
  intro y
  refine Ok.loop (fun j:Nat=>(j:Int)≤i∧∀(c:Nat) (z:Slt),c<j→v.slots[c]?=some z→z.num≠y.1.num) (fun j:Nat=>((i:Int)-j).toNat) ⟨by omega,fun j z a=>absurd a (by omega)⟩ (B0 (by omega)) fun j a=>?_
  obtain⟨a,o⟩:=a
  dsimp only[QF,eD,br,ix,vw,vs,Ay,ln,Al,wa,br]
  by_cases b:(j:Int)<i
  ·have r:j<v.slots.length:=by omega
   have d:v.slots[j]?=some v.slots[j]:=Yb r
   have p:(j:Int)<v.slots.length:=by omega
   have q:j+1<9223372036854775808:=by omega
   by_cases t:v.slots[j].num=y.1.num
   ·simp[b,d,p,t]
    exact⟨_,rfl,by simp⟩
   ·simp[b,d,p,t,q]
    refine⟨_,rfl,⟨⟨by omega,fun c z g l=>?_⟩,by omega⟩⟩
    by_cases e:c=j
    ·subst e
     rw[d]at l
     cases l
     exact t
    ·exact o c z (by omega) l
  ·simp[b]
   exact⟨_,rfl,fun c z g l=>o c z (by omega) l⟩
 have H:∀y:Fld×Bool,Ok (Sum.elim Tr (fun e:Int=>e≠0)) (Am (Rg s m v i lv k R y) Ai 0):=by
  intro y
  refine Ok.loop (fun j:Nat=>(j:Int)≤i) (fun j:Nat=>((i:Int)-j).toNat) (by omega) (B0 (by omega)) fun j a=>?_
  dsimp only[Rg,g8,eh,fU,dB,br,ix,vw,vs,Ay,ln,Al,lc,cl,wa,du,br]
  (repeat' (first|with_reducible refine Ok.br (fun _=>?_) (fun _=>?_)|with_reducible refine Ok.pure ?_|with_reducible refine Ok.idx ?_ (fun _ _ _=>?_)|(with_reducible apply Ok.bind;(exact iJ _ _ hm);intro _ _)|with_reducible refine Ok.if ?_ ?_))<;>first|(show(_:Int)≠0;omega)|(first|trivial|assumption|contradiction|omega|grind|(simp only[Bd.c,Bd.vl,ByteArray.size_append,ByteArray.size_extract,AE]at*;grind))
 have n:i<v.slots.length:=by omega
 have d:v.slots[i]?=some v.slots[i]:=Yb n
 dsimp only[Pm,bj,bq,bY,fe,eb,gC,br,CL,vw,vs,lr,lc,cl,cs,wi,du,br]
 obtain⟨A,p,a1⟩:=G (B2 m.fields v.slots[i].num)
 obtain⟨B,q,C⟩:=H (B2 m.fields v.slots[i].num)
 obtain⟨K,D,a3⟩:=E (AN m.fields v.slots[i].num) v.slots[i].val (El u (I0 n))
 have I:(B2 m.fields v.slots[i].num).1=AN m.fields v.slots[i].num:=rfl
 have w2:lv+1<9223372036854775808:=by omega
 have w: -9223372036854775808≤lv+1:=by omega
 have J:(B2 m.fields v.slots[i].num).2=true→(AN m.fields v.slots[i].num).num=v.slots[i].num:=fun h=>Zwa h
 simp only[HN,d,x4 _ _ hm,Yg,g,p,q,I,w2,w]
 cases F:(B2 m.fields v.slots[i].num).2 with
 |false=>simp;exact⟨_,rfl,by simp⟩
 |true=>
  cases A with
  |inr e=>simp[g];exact⟨_,rfl,fun h=>absurd h a1⟩
  |inl A=>
  cases B with
  |inr e=>simp[g];exact⟨_,rfl,fun h=>absurd h C⟩
  |inl B=>
  simp[g,D,d,w2,w]
  refine⟨K,rfl,fun h=>⟨fun j y a hy=>?_,a3 h⟩⟩
  have a4:y.num≠(AN m.fields v.slots[i].num).num:=a1 j y a hy
  rw[J F]at a4
  exact a4
theorem yr(P:Tn)(R:IC)(s:Scm)(m:Msg)(v:Val)(lv:Int)(k:Bool)(h:SzS s)(hm:m.fields.length≤1048576)(l:AZ v)(d:1≤lv)(r:lv≤16→∀(f:Fld) (x:Val),AZ x→Ok (fun y=>y=0→P f x) (R s f x (lv+1) k)):Ok (fun y=>y=0→∀(i:Nat) (x:Slt),v.slots[i]?=some x→HG P m.fields v.slots i x) (LV R s m v lv k):=by
 have n:=BY l
 obtain⟨s1,s2,z,A,B⟩:=BY l
 have t:lv≤16→Ok (Sum.elim (fun _=>∀(i:Nat) (x:Slt),v.slots[i]?=some x→HG P m.fields v.slots i x) (fun e:Int=>e≠0)) (Am (RK s m v lv k R) Ai 0):=by
  intro hl
  refine Ok.loop (fun j:Nat=>j≤v.slots.length∧∀(i:Nat) (x:Slt),i<j→v.slots[i]?=some x→HG P m.fields v.slots i x) (fun j:Nat=>v.slots.length-j) ⟨by omega,fun i x hi=>absurd hi (by omega)⟩ (AW (by omega)) fun j g=>?_
  obtain⟨g,c⟩:=g
  dsimp only[RK,UO,br,vz,vw,vs,v2,Ay,ln,Al,cs,wa,Ah,br]
  by_cases b:(j:Int)<v.slots.length
  ·obtain⟨y,e,a⟩:=ZST P R s m v j lv k hm l b d hl (r hl)
   have p:j+1<9223372036854775808:=by omega
   by_cases hy:y=0
   ·subst hy
    simp[b,e,p]
    refine⟨_,rfl,⟨⟨by show j+1≤_;omega,fun i x o d=>?_⟩,by show v.slots.length-(j+1)<_;omega⟩⟩
    by_cases q:i=j
    ·subst q
     exact a rfl x d
    ·exact c i x (by omega) d
   ·simp[b,e,hy]
    exact⟨_,rfl,hy⟩
  ·simp[b]
   exact⟨_,rfl,fun i x o=>c i x (by have:=(Yd.1 o).1;omega) o⟩
 have u:Ok (Sum.elim Tr (fun e:Int=>e≠0)) (Am (RF s m v R) Ai 0):=by
  refine Ok.loop (fun j:Nat=>j≤m.fields.length) (fun j:Nat=>m.fields.length-j) (by omega) (AW (by omega)) fun j g=>?_
  dsimp only[RF,T9,br,ix,A8,vz,vw,vs,Ay,ln,Al,clg,wa,Ah,br]
  (repeat' (first|with_reducible refine Ok.br (fun _=>?_) (fun _=>?_)|with_reducible refine Ok.pure ?_|with_reducible refine Ok.idx ?_ (fun _ _ _=>?_)|(with_reducible apply Ok.bind;(exact pH _ _ n);intro _ _)|(with_reducible apply Ok.clg;(exact fun _=>pH _ _ n);intro _)|with_reducible refine Ok.idxg ?_ (fun _=>?_)|with_reducible refine Ok.if ?_ ?_))<;>first|(show(_:Int)≠0;omega)|(first|trivial|assumption|contradiction|omega|grind|(simp only[Bd.c,Bd.vl,ByteArray.size_append,ByteArray.size_extract,AE]at*;grind))
 have w:Ok (Sum.elim Tr (fun e:Int=>e≠0)) (Am (RL s m v R) Ai 0):=by
  refine Ok.loop (fun j:Nat=>j≤v.raws.length) (fun j:Nat=>v.raws.length-j) (by omega) (AW (by omega)) fun j g=>?_
  dsimp only[RL,UD,br,ix,vz,vw,vs,Ay,ln,Al,cl,wa,Ah,br]
  (repeat' (first|with_reducible refine Ok.br (fun _=>?_) (fun _=>?_)|with_reducible refine Ok.pure ?_|with_reducible refine Ok.idx ?_ (fun _ _ _=>?_)|(with_reducible apply Ok.bind;(exact ZR5 _ _ _ h hm (ZMX l (by assumption)));intro _ _)|with_reducible refine Ok.if ?_ ?_))<;>first|(intro h;simp_all)|(first|trivial|assumption|contradiction|omega|grind|(simp only[Bd.c,Bd.vl,ByteArray.size_append,ByteArray.size_extract,AE]at*;grind))
 dsimp only[LV,UT,Vm,Ua,Wz,VP,br,vw,lr,lc,clg,br]
 (repeat' (first|with_reducible refine Ok.br (fun _=>?_) (fun _=>?_)|with_reducible refine Ok.pure ?_|(with_reducible apply Ok.lb;(exact t (by(first|trivial|assumption|contradiction|omega|solve_by_elim|(simp only[Bool.and_eq_true,Bool.or_eq_true,Bool.not_eq_true',Bool.and_eq_false_iff,Bool.or_eq_false_iff,decide_eq_true_eq,decide_eq_false_iff_not]at*;omega)|grind)));all_goals(intro _ _;try dsimp only))|(with_reducible apply Ok.lb;(exact u);all_goals(intro _ _;try dsimp only))|(with_reducible apply Ok.lb;(exact w);all_goals(intro _ _;try dsimp only))|(with_reducible apply Ok.bind;(exact H4 _ n);intro _ _)|(with_reducible apply Ok.clg;(exact fun _=>H4 _ n);intro _)|with_reducible refine Ok.if ?_ ?_))<;>first|(intro _;assumption)|(intro h;exact absurd h (by first|assumption|omega))|(first|trivial|assumption|contradiction|omega|grind|(simp only[Bd.c,Bd.vl,ByteArray.size_append,ByteArray.size_extract,AE]at*;grind))
theorem pu(R:IC)(s:Scm)(m:Msg)(v:Val)(lv:Int)(k:Bool)(h:SzS s)(hm:m.fields.length≤1048576)(c:AZ v)(a:1≤lv)(b:lv≤16→∀(f:Fld) (x:Val),AZ x→Ok Tr (R s f x (lv+1) k)):Ok Tr (LV R s m v lv k):=by
 obtain⟨y,e,_⟩:=yr (fun _ _=>True) R s m v lv k h hm c a fun hl f x d=>by
  obtain⟨y,e,_⟩:=b hl f x d
  exact⟨y,e,fun _=>trivial⟩
 exact⟨y,e,trivial⟩
theorem OE(R:IC)(s:Scm)(t:Typ)(v:Val)(lv:Int)(k:Bool)(h:SzS s)(a:AZ v)(b:1≤lv)(c:lv≤16→∀(f:Fld) (x:Val),AZ x→Ok Tr (R s f x (lv+1) k)):Ok Tr (GM R s t v lv k):=by
 dsimp only[GM,Rf,br,vw,lr,cl,clg,cs,br]
 (repeat' (first|with_reducible refine Ok.br (fun _=>?_) (fun _=>?_)|with_reducible refine Ok.pure ?_|(with_reducible apply Ok.bind;(exact yq _ _ h);intro _ _)|(with_reducible apply Ok.bind;(exact pu _ _ _ _ _ _ h (by assumption) a b c);intro _ _)|(with_reducible apply Ok.bind;(exact Xl _ _ (BY a));intro _ _)|(with_reducible apply Ok.bind;(exact OA _ _ h);intro _ _)|(with_reducible apply Ok.bind;(exact OX _ _ (by assumption));intro _ _)|(with_reducible apply Ok.clg;(exact fun _=>yq _ _ h);intro _)|(with_reducible apply Ok.clg;(exact fun _=>pu _ _ _ _ _ _ h (by assumption) a b c);intro _)|(with_reducible apply Ok.clg;(exact fun _=>Xl _ _ (BY a));intro _)|(with_reducible apply Ok.clg;(exact fun _=>OA _ _ h);intro _)|(with_reducible apply Ok.clg;(exact fun _=>OX _ _ (by assumption));intro _)|with_reducible refine Ok.if ?_ ?_))<;>(first|trivial|assumption|contradiction|omega|grind|(simp only[Bd.c,Bd.vl,ByteArray.size_append,ByteArray.size_extract,AE]at*;grind))
theorem ZSv(R:IC)(s:Scm)(f:Fld)(v:Val)(lv:Int)(k:Bool)(h:SzS s)(a:AZ v)(b:1≤lv)(c:lv≤16→∀(f:Fld) (x:Val),AZ x→Ok Tr (R s f x (lv+1) k)):Ok Tr (Ks R s f v lv k):=by
 have e:=BY a
 obtain⟨s1,s2,n,o,p⟩:=BY a
 have g:Ok (Sum.elim Tr Tr) (Am (QH s f v lv k R) Ai 0):=by
  refine Ok.loop (fun j:Nat=>j≤v.list.length) (fun j:Nat=>v.list.length-j) (by omega) (AW (by omega)) fun j d=>?_
  dsimp only[QH,gJ,br,ix,vz,vw,vs,v2,Ay,ln,Al,cs,wa,Ah,br]
  (repeat' (first|with_reducible refine Ok.br (fun _=>?_) (fun _=>?_)|with_reducible refine Ok.pure ?_|with_reducible refine Ok.idx ?_ (fun _ _ _=>?_)|(with_reducible apply Ok.bind;(exact OE _ _ _ _ _ _ h (G3 a (by assumption)) b c);intro _ _)|with_reducible refine Ok.if ?_ ?_))<;>(first|trivial|assumption|contradiction|omega|grind|(simp only[Bd.c,Bd.vl,ByteArray.size_append,ByteArray.size_extract,AE]at*;grind))
 have m:∀i:Nat,i<v.pairs.length→Ok (Sum.elim Tr Tr) (Am (Re s f v lv k R i) Ai 0):=by
  intro i hi
  refine Ok.loop (fun j:Nat=>j≤i) (fun j:Nat=>i-j) (by omega) (B0 (by omega)) fun j d=>?_
  dsimp only[Re,fp,br,ix,A8,vw,vs,Ay,ln,Al,wa,br]
  (repeat' (first|with_reducible refine Ok.br (fun _=>?_) (fun _=>?_)|with_reducible refine Ok.pure ?_|with_reducible refine Ok.idx ?_ (fun _ _ _=>?_)|with_reducible refine Ok.idxg ?_ (fun _=>?_)|with_reducible refine Ok.if ?_ ?_))<;>(first|trivial|assumption|contradiction|omega|grind|(simp only[Bd.c,Bd.vl,ByteArray.size_append,ByteArray.size_extract,AE]at*;grind))
 have l:Ok (Sum.elim Tr Tr) (Am (Q3 s f v lv k R) Ai 0):=by
  refine Ok.loop (fun j:Nat=>j≤v.pairs.length) (fun j:Nat=>v.pairs.length-j) (by omega) (AW (by omega)) fun j d=>?_
  dsimp only[Q3,bC,cH,gV,cD,ge,br,ix,vz,vw,vs,Ay,ln,Al,lc,cl,cs,wa,Ah,br]
  (repeat' (first|with_reducible refine Ok.br (fun _=>?_) (fun _=>?_)|with_reducible refine Ok.pure ?_|with_reducible refine Ok.idx ?_ (fun _ _ _=>?_)|(with_reducible apply Ok.lb;(exact m _ (by(first|trivial|assumption|contradiction|omega|solve_by_elim|(simp only[Bool.and_eq_true,Bool.or_eq_true,Bool.not_eq_true',Bool.and_eq_false_iff,Bool.or_eq_false_iff,decide_eq_true_eq,decide_eq_false_iff_not]at*;omega)|grind)));all_goals(intro _ _;try dsimp only))|(with_reducible apply Ok.bind;(exact Xl _ _ (BY (D0 a (by assumption)).1));intro _ _)|(with_reducible apply Ok.bind;(exact OE _ _ _ _ _ _ h (D0 a (by assumption)).2 b c);intro _ _)|with_reducible refine Ok.if ?_ ?_))<;>(first|trivial|assumption|contradiction|omega|grind|(simp only[Bd.c,Bd.vl,ByteArray.size_append,ByteArray.size_extract,AE]at*;grind))
 dsimp only[Ks,P4,Qh,Qm,Rc,P7,Q6,Qg,Qf,QE,Ql,Qi,P1,br,vw,lr,lc,clg,cs,br]
 (repeat' (first|with_reducible refine Ok.br (fun _=>?_) (fun _=>?_)|with_reducible refine Ok.pure ?_|(with_reducible apply Ok.lb;(exact g);all_goals(intro _ _;try dsimp only))|(with_reducible apply Ok.lb;(exact l);all_goals(intro _ _;try dsimp only))|(with_reducible apply Ok.bind;(exact H4 _ e);intro _ _)|(with_reducible apply Ok.bind;(exact OE _ _ _ _ _ _ h a b c);intro _ _)|(with_reducible apply Ok.clg;(exact fun _=>H4 _ e);intro _)|(with_reducible apply Ok.clg;(exact fun _=>OE _ _ _ _ _ _ h a b c);intro _)|with_reducible refine Ok.if ?_ ?_))<;>(first|trivial|assumption|contradiction|omega|grind|(simp only[Bd.c,Bd.vl,ByteArray.size_append,ByteArray.size_extract,AE]at*;grind))
theorem mK(s:Scm)(h:SzS s)(k:Bool):∀(a:Nat) (f:Fld) (v:Val) (lv:Int),AZ v→1≤lv→lv≤17→18-lv<a→Ok Tr (FU a s f v lv k)
 |0,f,v,lv,c,b,d,e=>by omega
 |a+1,f,v,lv,c,b,d,e=>ZSv (FU a) s f v lv k h c b fun hl g x i=>mK s h k a g x (lv+1) i (by omega) (by omega) (by omega)
def IV(f:Fld)(x:Val):Prop:=f.card≠4→f.card≠5→1≤f.type.kind→f.type.kind≤9→x.kind=f.type.kind∧GG x
theorem ZOd{n:Int}{v:Val}(h:SzV v)(t:1≤n)(u:n≤9)(e:GN n v=some 0):v.kind=n∧GG v:=by
 obtain⟨t1,t2,t3,t4,t5⟩:=h
 have l:v.list.length<4611686018427387904:=by omega
 have m:v.pairs.length<4611686018427387904:=by omega
 have o:v.slots.length<4611686018427387904:=by omega
 have p:v.raws.length<4611686018427387904:=by omega
 by_cases f:v.kind=n
 ·obtain⟨b,a,_⟩:=H4 v ⟨t1,t2,t3,t4,t5⟩
  have g:b=false:=by
   cases b with
   |false=>rfl
   |true=>
    dsimp only[GN,MD,br,vz,vw,lr,cl,clg,A3,br]at e
    rw[a]at e
    simp[f]at e
  subst g
  dsimp only[Pf,Rl,br,vz,vy,vw,lr,Ah,br]at a
  have i:v.kind≠10:=by omega
  have j:v.kind≠11:=by omega
  have k:v.kind≠12:=by omega
  refine⟨f,?_⟩
  unfold GG
  simp[i,j,k,l,m,o,p]at a
  split at a
  ·cases a
  ·rename_i c
   have q:v.list=[]:=YI (by omega)
   have r:v.pairs=[]:=YI (by omega)
   have z3:v.slots=[]:=YI (by omega)
   have z4:v.raws=[]:=YI (by omega)
   split at a
   ·cases a
   ·rename_i s
    exact⟨q,r,z3,z4,fun d=>by rcases d with d|d<;>simp_all,fun d=>by simp_all⟩
 ·dsimp only[GN,MD,br,vz,vw,lr,cl,clg,A3,br]at e
  simp[f]at e
theorem ZOQ{R:IC}{s:Scm}{t:Typ}{v:Val}{lv:Int}{k:Bool}(f:1≤t.kind)(g:t.kind≤9)(e:GM R s t v lv k=some 0):GN t.kind v=some 0:=by
 have b:¬t.kind=10:=by omega
 have c:¬t.kind<1:=by omega
 have d:¬9<t.kind:=by omega
 dsimp only[GM,Rf,br,vw,lr,cl,clg,cs,br]at e
 cases a:GN t.kind v with
 |none=>simp[b,c,d,a]at e
 |some y=>
  by_cases hy:y=0
  ·rw[hy]
  ·simp[b,c,d,a,hy]at e
theorem ZO9{R:IC}{s:Scm}{f:Fld}{v:Val}{lv:Int}{k:Bool}(h:SzV v)(e:Ks R s f v lv k=some 0):IV f v:=fun c d a b=>by
 refine ZOd h a b (ZOQ (R:=R) (s:=s) (lv:=lv) (k:=k) a b ?_)
 dsimp only[Ks,P4,Qh,Qm,Rc,P7,Q6,Qg,Qf,QE,Ql,Qi,P1,br,vw,lr,lc,clg,cs,br]at e
 simp[c,d]at e
 exact e
theorem u12(s:Scm)(n:ByteArray)(v:Val)(h:SzS s)(j:AZ v):Ok (fun y=>y=0→∀(i:Nat) (x:Slt),v.slots[i]?=some x→HG IV (As s n) v.slots i x) (X5 s n v):=by
 have t:Ax (Ag v)<Ai:=by
  have:Ax (Ag v)≤1048576:=j
  exact AW (by omega)
 have c:=M9 Ai v t j
 have Ar:(18:Int)-2<(Ai:Nat):=by
  have:=B0 (n:=20) (by omega)
  omega
 obtain⟨o,g⟩:∃b,Ai=b+1:=⟨Ai-1,by have:=B0 (n:=20) (by omega);omega⟩
 have r:(1:Int)≤16→∀(f:Fld) (x:Val),AZ x→Ok (fun y=>y=0→IV f x) (FU Ai s f x (1+1) true):=fun _ f x l=>by
  obtain⟨y,e,_⟩:=mK s h true Ai f x (1+1) l (by omega) (by omega) (by omega)
  refine⟨y,e,fun hy=>?_⟩
  subst hy
  rw[g]at e
  exact ZO9 (R:=FU o) (BY l) e
 have d:Js s n=some (BC s.messages zM fun m=>decide (m.name=n)):=iv s n h.ml
 have q:Ok (fun y=>y=0→∀(i:Nat) (x:Slt),v.slots[i]?=some x→HG IV (As s n) v.slots i x) (Zc s n v true):=by
  obtain⟨u,p,a1⟩:=yr IV (FU Ai) s (BC s.messages zM fun m=>decide (m.name=n)).1 v 1 true h (bA h n) j (by omega) r
  obtain⟨w,k,_⟩:=c
  dsimp only[Zc,Un,br,vw,lr,cl,br]
  rw[d,Yg,p]
  cases hm:(BC s.messages zM fun m=>decide (m.name=n)).2 with
  |false=>simp;exact⟨_,rfl,by simp⟩
  |true=>
   by_cases hy:u=0
   ·subst hy
    by_cases c:(4096:Int)<w
    ·simp[k,c]
     exact⟨_,rfl,by simp⟩
    ·simp[k,c]
     exact⟨_,rfl,fun _=>a1 rfl⟩
   ·simp[hy]
    exact⟨_,rfl,fun h=>absurd h hy⟩
 obtain⟨y,e,a⟩:=q
 dsimp only[X5,VJ,vw,lr,cl]
 rw[e]
 exact⟨_,rfl,a⟩
def zV:Val:=.mk 0 0 ⟨#[]⟩ [] [] [] []
def Gw(f:Fld):Val:=if f.hasDefault=true then f.dflt else if f.card=4 then .mk 11 0 ⟨#[]⟩ [] [] [] []else if f.card=5 then .mk 12 0 ⟨#[]⟩ [] [] [] []else if f.type.kind=10 then .mk 10 0 ⟨#[]⟩ [] [] [] []else if 1≤f.type.kind∧f.type.kind≤9 then .mk f.type.kind 0 ⟨#[]⟩ [] [] [] []else zV
def A7(l:List Slt)(k:Int):Option Slt:=l.find? fun x=>decide (x.num=k)
theorem P5{l:List Slt}{k:Int}{x:Slt}(h:A7 l k=some x):x.num=k:=of_decide_eq_true (p:=x.num=k) (TN (p:=fun x:Slt=>decide (x.num=k)) h)
theorem Mp{l:List Slt}{k:Int}{x:Slt}(h:A7 l k=some x):x∈l:=La h
theorem P0(l:List Slt)(k:Int):Cv l k=(A7 l k).isSome:=by
 unfold Cv A7
 cases e:l.find? fun x=>decide (x.num=k)with
 |none=>exact List.any_eq_false.2 (TH.1 e)
 |some x=>refine YL.2 ?_;exact⟨x,La e,TN (p:=fun x:Slt=>decide (x.num=k)) e⟩
theorem GS(a b:List Slt)(k:Int):A7 (a++b) k=(A7 a k).or (A7 b k):=List.find?_append
theorem ZnX(l:List Slt)(x:Slt)(k:Int)(h:x.num≠k):A7 (Dn l x) k=A7 l k:=by
 have e:A7 [x] k=none:=by simp[A7,h]
 unfold Dn
 cases l.findIdx? fun y=>decide (x.num<y.num)with
 |none=>show A7 (l++[x]) k=_;rw[GS,e,Option.or_none]
 |some i=>
  show A7 (l.take i++[x]++l.drop i) k=_
  rw[GS,GS,e,Option.or_none,←GS,Y1]
theorem Zoq(l:List Slt)(x:Slt)(h:A7 l x.num=none):A7 (Dn l x) x.num=some x:=by
 have e:A7 [x] x.num=some x:=by simp[A7]
 unfold Dn
 cases l.findIdx? fun y=>decide (x.num<y.num)with
 |none=>show A7 (l++[x]) _=_;rw[GS,e,h];rfl
 |some i=>
  show A7 (l.take i++[x]++l.drop i) _=_
  have a:A7 (l.take i) x.num=none:=by
   rw[←Y1 i l,GS]at h
   cases b:A7 (l.take i) x.num with
   |none=>rfl
   |some y=>rw[b]at h;cases h
  rw[GS,GS,e,a]
  rfl
theorem bB(R:ByteArray→Val→Val)(F:List Fld)(l:List Slt)(k:Int):A7 (AR R F l) k=(A7 l k).map fun x=>.mk x.num (Br R (AN F x.num) x.val):=by
 unfold A7 AR
 rw[List.find?_map]
 rfl
def E1(v:List Slt)(f:Fld):Bool:=f.hasDefault&&decide (f.union=⟨#[]⟩)&&!(Cv v f.num)
theorem Ra(v l:List Slt)(f:Fld):DQ v l f=if E1 v f=true then Dn l (.mk f.num f.dflt)else l:=rfl
theorem L8(v:List Slt)(k:Int):∀(P:List Fld) (l:List Slt),(∀g∈P,g.num=k→E1 v g=false)→A7 (Bq v P l) k=A7 l k
 |[],l,h=>rfl
 |g::P,l,h=>by
  show A7 (Bq v P (DQ v l g)) k=_
  rw[L8 v k P _ fun x b=>h x (Yu _ b),Ra]
  cases a:E1 v g with
  |false=>rfl
  |true=>
   rw[if_pos rfl,ZnX]
   intro e
   have:=h g YC e
   rw[a]at this
   cases this
theorem Zwj(v:List Slt)(P Q:List Fld)(l:List Slt):Bq v (P++Q) l=Bq v Q (Bq v P l):=List.foldl_append
theorem am{F:List Fld}(h:CJ F F.length){i:Nat}{f:Fld}(a:F[i]?=some f):F=F.take i++f::F.drop (i+1)∧(∀g∈F.take i,g.num≠f.num)∧∀g∈F.drop (i+1),g.num≠f.num:=by
 obtain⟨hi,e⟩:=Yd.1 a
 refine⟨?_,wS h a,fun g c=>?_⟩
 ·rw[←e,List.getElem_cons_drop,Y1]
 ·obtain⟨d,b⟩:=Yv.1 c
  rw[YF]at b
  have:=fs h d i f g a b
  omega
theorem Fl{F:List Fld}(h:CJ F F.length){i:Nat}{f:Fld}(c:F[i]?=some f):B2 F f.num=(f,true):=by
 obtain⟨e,b,j⟩:=am h c
 have a:F.find? (fun g=>decide (g.num=f.num))=some f:=by
  rw[e,List.find?_append,TH.2 fun g d=>by simpa using b g d]
  simp
 unfold B2 BC
 rw[a]
 rfl
theorem ZkT{F:List Fld}(h:CJ F F.length){i:Nat}{f:Fld}(j:F[i]?=some f)(v l:List Slt)(d:E1 v f=true)(hl:A7 l f.num=none):A7 (Bq v F l) f.num=some (.mk f.num f.dflt):=by
 obtain⟨e,b,c⟩:=am h j
 rw[e,Zwj]
 show A7 (Bq v (F.drop (i+1)) (DQ v (Bq v (F.take i) l) f)) f.num=_
 rw[L8 v _ _ _ fun g a e=>absurd e (c g a),Ra,if_pos d]
 refine Zoq _ (.mk f.num f.dflt) ?_
 show A7 _ f.num=none
 rw[L8 v _ _ _ fun g a e=>absurd e (b g a),hl]
def Df(l:List Slt)(f:Fld):Val:=(A7 l f.num).elim (Gw f) fun x=>x.val
theorem MC(R:ByteArray→Val→Val){f:Fld}(h:f.type.kind≠10)(x:Val):Br R f x=x:=by
 unfold Br
 rw[if_neg h]
theorem ZJk{F:List Fld}(R:ByteArray→Val→Val)(h:CJ F F.length)(p:Di F){i:Nat}{f:Fld}(j:F[i]?=some f)(q:f.type.kind≠10)(l:List Slt):Df (Bq l F (AR R F l)) f=Df l f∧(f.hasDefault=true→Cv (Bq l F (AR R F l)) f.num=true):=by
 have r:AN F f.num=f:=by unfold AN;rw[Fl h j]
 have s:∀g∈F,g.num=f.num→g=f:=fun g d e=>by
  obtain⟨c,n,o⟩:=am h j
  rw[c]at d
  rcases FP.1 d with a|a
  ·exact absurd e (n g a)
  ·rcases Yw.1 a with a|a
   ·exact a
   ·exact absurd e (o g a)
 rw[P0]
 unfold Df
 cases e:A7 l f.num with
 |some x=>
  have t:=P5 e
  have c:A7 (Bq l F (AR R F l)) f.num=some (.mk x.num (Br R (AN F x.num) x.val)):=by
   rw[L8 l _ _ _ fun g d k=>by unfold E1;rw[k,P0,e];simp,bB,e]
   rfl
  rw[c]
  refine⟨?_,fun _=>rfl⟩
  show Br R (AN F x.num) x.val=x.val
  rw[t,r,MC R q]
 |none=>
  have m:A7 (AR R F l) f.num=none:=by rw[bB,e];rfl
  cases b:f.hasDefault with
  |true=>
   have a:=((p f (Yi j)).1 b).2.2
   have c:=ZkT h j l (AR R F l) (by unfold E1;rw[P0,e,b,a];rfl) m
   rw[c]
   refine⟨?_,fun _=>rfl⟩
   show f.dflt=Gw f
   unfold Gw
   rw[if_pos b]
  |false=>
   have c:A7 (Bq l F (AR R F l)) f.num=none:=by
    rw[L8 l _ _ _ fun g d k=>by rw[s g d k];unfold E1;rw[b];rfl,m]
   rw[c]
   exact⟨rfl,fun h=>by cases h⟩
theorem ZNJ{d x:Val}(b:GG d)(c:GG x)(a:d.kind≠6)(h:Gt d x=true):x=d:=by
 cases d
 cases x
 simp only[GG,Gt,Val.kind,Val.bits,Val.text,Val.list,Val.pairs,Val.slots,Val.raws]at*
 simp only[a,if_false,Bool.and_eq_true,decide_eq_true_eq]at h
 grind
theorem ZK9{F:List Fld}(R:ByteArray→Val→Val)(h:CJ F F.length)(t:Di F){i:Nat}{f:Fld}(q:F[i]?=some f)(u:f.type.kind≠10)(B:f.type.kind≠6)(l:List Slt)(hs:∀(i:Nat) (x:Slt),l[i]?=some x→HG IV F l i x):Df (AR R F (l.filter fun x=>!BP F x)) f=Df l f:=by
 have o:AN F f.num=f:=by unfold AN;rw[Fl h q]
 unfold Df
 rw[bB]
 cases e:A7 l f.num with
 |none=>
  have g:A7 (l.filter fun x=>!BP F x) f.num=none:=by
   unfold A7 at*
   rw[TH]at*
   exact fun x c=>e x (YW.1 c).1
  rw[g]
  rfl
 |some x=>
  have c:=P5 e
  obtain⟨j,n⟩:=Yv.1 (Mp e)
  obtain⟨s1,s2⟩:=hs j x n
  have r:∀(b:Nat) (y:Slt),l[b]?=some y→y.num=f.num→y=x:=fun b y hy k=>by
   rcases K1 b j with a|a|a
   ·exact absurd (k.trans c.symm) (s1 b y a hy)
   ·subst a
    rw[n]at hy
    cases hy
    rfl
   ·exact absurd (c.trans k.symm) ((hs b y hy).1 j x a n)
  cases m:BP F x with
  |false=>
   have g:A7 (l.filter fun x=>!BP F x) f.num=some x:=by
    have a:(A7 (l.filter fun x=>!BP F x) f.num).isSome=true:=by
     rw[←P0]
     unfold Cv
     rw[YL]
     exact⟨x,YW.2 ⟨Mp e,by rw[m];rfl⟩,by simpa using c⟩
    obtain⟨y,hy⟩:=YP.1 a
    obtain⟨b,d⟩:=Yv.1 (YW.1 (Mp hy)).1
    rw[hy,r b y d (P5 hy)]
   rw[g]
   show Br R (AN F x.num) x.val=x.val
   rw[c,o,MC R u]
  |true=>
   have g:A7 (l.filter fun x=>!BP F x) f.num=none:=by
    cases k:A7 (l.filter fun x=>!BP F x) f.num with
    |none=>rfl
    |some y=>
     obtain⟨a,p⟩:=YW.1 (Mp k)
     obtain⟨b,d⟩:=Yv.1 a
     rw[r b y d (P5 k),m]at p
     cases p
   rw[g]
   show Gw f=x.val
   unfold BP at m
   rw[c,o,Bool.and_eq_true]at m
   obtain⟨s,v⟩:=m
   obtain⟨⟨f1,f2,f3,f4⟩,z,A⟩:=(t f (Yi q)).1 s
   rw[c,o]at s2
   obtain⟨C,w⟩:=s2 (by omega) (by omega) f1 f2
   rw[ZNJ f4 w (by omega) v]
   unfold Gw
   rw[if_pos s]
def ED(s:Scm):Nat→ByteArray→Val→Prop
 |0,_,_=>False
 |k+1,n,v=>v.slots.length≤4194304∧∀x∈v.slots,x.val.list.length≤1048576∧x.val.pairs.length≤1048576∧((AN (As s n) x.num).hasDefault=true→AZ x.val)∧((AN (As s n) x.num).type.kind=10→GD (ED s k (AN (As s n) x.num).type.name) x.val)
theorem NT{s:Scm}(hs:s.messages.length≤1048576)(hl:∀n,(As s n).length≤1048576)(f:∀n,Di (As s n)):∀(d:Nat) (n:ByteArray) (v:Val),ED s d n v→EH d s n v=some (Cb s d n v)
 |0,n,v,h=>h.elim
 |d+1,n,v,h=>x2 s n v d (Cb s d) hs (hl n) (f n) h.1 (fun x e=>(h.2 x e).2.2.1) fun x e=>⟨(h.2 x e).1,(h.2 x e).2.1,fun g=>by
  obtain⟨a,b,c⟩:=(h.2 x e).2.2.2 g
  exact⟨fun y hy=>NT hs hl f d _ y (a y hy),fun p i=>NT hs hl f d _ p.val (b p i),NT hs hl f d _ _ c⟩⟩
theorem lQ(s:Scm):∀(k:Nat) (n:ByteArray) (v:Val),AZ v→Ax (Ag v)<k→ED s k n v
 |0,n,v,a,h=>by omega
 |k+1,n,v,a,h=>⟨by have:=(BY a).s;omega,fun x c=>by
  have b:=El a c
  have d:=BY b
  exact⟨d.l,d.p,fun _=>b,fun _=>(Qx c a h (P:=fun y=>ED s k (AN (As s n) x.num).type.name y) fun y hy e=>lQ s k _ y hy e).2.2⟩⟩
theorem tG(v:List Slt):∀(P:List Fld) (l:List Slt) (x:Slt),x∈Bq v P l→x∈l∨∃f∈P,f.hasDefault=true∧x=.mk f.num f.dflt
 |[],l,x,h=>.inl h
 |g::P,l,x,h=>by
  have h:x∈Bq v P (DQ v l g):=h
  rcases tG v P _ x h with a|⟨f,a,b⟩
  ·rw[Ra]at a
   cases c:E1 v g with
   |false=>rw[c]at a;exact .inl a
   |true=>
    rw[c,if_pos rfl]at a
    have b:x∈l∨x=.mk g.num g.dflt:=by
     unfold Dn at a
     split at a
     ·simp only[FP,HJ]at a
      rcases a with(a|a)|a
      ·exact .inl (TB a)
      ·exact .inr a
      ·exact .inl (Lb a)
     ·simpa using a
    rcases b with b|b
    ·exact .inl b
    ·refine .inr ⟨g,YC,?_,b⟩
     unfold E1 at c
     simp_all
  ·exact .inr ⟨f,Yu _ a,b⟩
theorem tu{s:Scm}{k:Nat}{n:ByteArray}{v w:Val}(e:w.slots=v.slots)(h:ED s k n v):ED s k n w:=by
 cases k with
 |zero=>exact h
 |succ k=>
  unfold ED at*
  rw[e]
  exact h
theorem gY{s:Scm}(hl:∀n,(As s n).length≤1048576)(m:∀n,Di (As s n))(D:∀n,CJ (As s n) (As s n).length):∀(k:Nat) (n:ByteArray) (v:Val),AZ v→Ax (Ag v)<k→ED s k n (BS s k n v)
 |0,n,v,o,h=>by omega
 |k+1,n,v,o,h=>by
  have H:=(BY o).s
  refine⟨?_,fun x t=>?_⟩
  ·show(Bq v.slots (As s n) (AR (BS s k) (As s n) v.slots)).length≤_
   have d:=ah v.slots (As s n) (AR (BS s k) (As s n) v.slots)
   have C:=hl n
   rw[JO]at d
   omega
  ·have t:x∈Bq v.slots (As s n) (AR (BS s k) (As s n) v.slots):=t
   rcases tG _ _ _ x t with d|⟨f,d,C,rfl⟩
   ·unfold AR at d
    obtain⟨y,hy,rfl⟩:=Yy.1 d
    have E:=El o hy
    have F:=BY E
    obtain⟨u,A,B⟩:=(Qx hy o h (P:=fun z=>AZ z∧Ax (Ag z)<k) fun z a l=>⟨a,l⟩).2.2
    have b:∀z,(AZ z∧Ax (Ag z)<k)→ED s k (AN (As s n) y.num).type.name z:=fun z a=>lQ s k _ z a.1 a.2
    have e:∀z,(AZ z∧Ax (Ag z)<k)→ED s k (AN (As s n) y.num).type.name (BS s k (AN (As s n) y.num).type.name z):=fun z a=>gY hl m D k _ z a.1 a.2
    have c:∀(z:Val) (n:ByteArray),(BS s k n z).list=z.list∧(BS s k n z).pairs=z.pairs:=fun z n=>by cases k<;>exact⟨rfl,rfl⟩
    show(Br (BS s k) (AN (As s n) y.num) y.val).list.length≤_∧(Br (BS s k) (AN (As s n) y.num) y.val).pairs.length≤_∧((AN (As s n) y.num).hasDefault=true→AZ (Br (BS s k) (AN (As s n) y.num) y.val))∧((AN (As s n) y.num).type.kind=10→GD (ED s k (AN (As s n) y.num).type.name) (Br (BS s k) (AN (As s n) y.num) y.val))
    refine⟨?_,?_,fun q=>by rw[fu (m n) q];exact E,fun j=>?_⟩
    ·unfold Br
     have:=F.l
     repeat' split
     ·show(y.val.list.map _).length≤_
      rw[Yp]
      exact this
     ·exact this
     ·rw[(c _ _).1];exact this
     ·exact this
    ·unfold Br
     have:=F.p
     repeat' split
     ·exact this
     ·show(y.val.pairs.map _).length≤_
      rw[Yp]
      exact this
     ·rw[(c _ _).2];exact this
     ·exact this
    ·unfold Br
     rw[if_pos j]
     repeat' split
     ·refine⟨fun z a=>?_,fun p g=>b _ (A p g),tu (v:=y.val) rfl (b _ B)⟩
      obtain⟨w,r,rfl⟩:=Yy.1 a
      exact e w (u w r)
     ·refine⟨fun z a=>b _ (u z a),fun p g=>?_,tu (v:=y.val) rfl (b _ B)⟩
      obtain⟨w,r,rfl⟩:=Yy.1 g
      exact e w.val (A w r)
     ·refine⟨fun z a=>b _ (u z ?_),fun p g=>b _ (A p ?_),e _ B⟩
      ·rw[(c _ _).1]at a;exact a
      ·rw[(c _ _).2]at g;exact g
   ·obtain⟨i,hi⟩:=Yv.1 d
    have G:AN (As s n) f.num=f:=by unfold AN;rw[Fl (D n) hi]
    obtain⟨⟨f1,f2,f3,f4⟩,I,J⟩:=(m n f d).1 C
    have l:=(m n f d).2
    have a:=BY l
    refine⟨a.l,a.p,fun _=>l,fun j=>?_⟩
    have j:(AN (As s n) f.num).type.kind=10:=j
    rw[G]at j
    omega
theorem si{F:List Fld}(d:Di F)(b:CJ F F.length)(v:List Slt):∀(P:List Fld) (l:List Slt),(∀g∈P,g∈F)→(Bq v P l).filter (fun x=>!BP F x)=l.filter fun x=>!BP F x
 |[],l,h=>rfl
 |g::P,l,h=>by
  show(Bq v P (DQ v l g)).filter _=_
  rw[si d b v P _ fun x j=>h x (Yu _ j),Ra]
  cases c:E1 v g with
  |false=>rfl
  |true=>
   rw[if_pos rfl]
   obtain⟨i,hi⟩:=Yv.1 (h g YC)
   have f:AN F g.num=g:=by unfold AN;rw[Fl b hi]
   have e:g.hasDefault=true:=by unfold E1 at c;simp_all
   have hs:(!BP F (.mk g.num g.dflt))=false:=by
    unfold BP
    show(!((AN F g.num).hasDefault&&Gt (AN F g.num).dflt g.dflt))=false
    rw[f,e]
    unfold Gt
    simp
   have a:([.mk g.num g.dflt]:List Slt).filter (fun x=>!BP F x)=[]:=by rw[NK (by rw[hs];decide)];rfl
   unfold Dn
   cases l.findIdx? fun y=>decide ((Slt.mk g.num g.dflt).num<y.num)with
   |none=>show(l++[_]).filter _=_;rw[Y5,a,HP]
   |some i=>
    show(l.take i++[_]++l.drop i).filter _=_
    rw[Y5,Y5,a,HP,←Y5,Y1]
theorem y8{R S T:ByteArray→Val→Val}{f:Fld}{x:Val}(h:f.type.kind=10→GD (fun y=>R f.type.name (S f.type.name y)=T f.type.name y) x):Br R f (Br S f x)=Br T f x:=by
 by_cases d:f.type.kind=10
 ·obtain⟨a,b,c⟩:=h d
  by_cases g:f.card=4
  ·have e:∀(R:ByteArray→Val→Val) (x:Val),Br R f x=.mk x.kind x.bits x.text (x.list.map (R f.type.name)) x.pairs x.slots x.raws:=fun R x=>by unfold Br;rw[if_pos d,if_pos g]
   rw[e,e,e]
   show Val.mk x.kind x.bits x.text ((x.list.map _).map _) x.pairs x.slots x.raws=_
   rw[EF]
   congr 1
   exact YR fun y hy=>a y hy
  ·by_cases i:f.card=5
   ·have e:∀(R:ByteArray→Val→Val) (x:Val),Br R f x=.mk x.kind x.bits x.text x.list (x.pairs.map fun p=>.mk p.key (R f.type.name p.val)) x.slots x.raws:=fun R x=>by unfold Br;rw[if_pos d,if_neg g,if_pos i]
    rw[e,e,e]
    show Val.mk x.kind x.bits x.text x.list ((x.pairs.map _).map _) x.slots x.raws=_
    rw[EF]
    congr 1
    exact YR fun p j=>by show Pr.mk p.key (R f.type.name (S f.type.name p.val))=_;rw[b p j]
   ·have e:∀(R:ByteArray→Val→Val) (x:Val),Br R f x=R f.type.name x:=fun R x=>by unfold Br;rw[if_pos d,if_neg g,if_neg i]
    rw[e,e,e]
    exact c
 ·rw[MC _ d,MC _ d,MC _ d]
theorem uR{s:Scm}(a:∀n,Di (As s n))(b:∀n,CJ (As s n) (As s n).length):∀(k:Nat) (n:ByteArray) (v:Val),Ax (Ag v)<k→Cb s k n (BS s k n v)=Cb s k n v
 |0,n,v,h=>rfl
 |k+1,n,v,h=>by
  show Ii s (Cb s k) n (Ou s (BS s k) n v)=Ii s (Cb s k) n v
  unfold Ii Ou
  show Val.mk v.kind v.bits v.text v.list v.pairs (AR (Cb s k) (As s n) ((Bq v.slots (As s n) (AR (BS s k) (As s n) v.slots)).filter fun x=>!BP (As s n) x)) v.raws=_
  rw[si (a n) (b n) _ _ _ fun g c=>c,sE (a n)]
  congr 1
  conv=>lhs;unfold AR
  unfold AR
  rw[EF]
  refine YR fun x d=>?_
  show Slt.mk x.num (Br (Cb s k) (AN (As s n) x.num) (Br (BS s k) (AN (As s n) x.num) x.val))=_
  rw[y8 fun _=>ZNd (YW.1 d).1 (P:=fun y=>Cb s k _ (BS s k _ y)=Cb s k _ y) h fun y hy=>uR a b k _ y hy]
theorem g48(f:Fld):ZL f=some (Gw f):=by
 dsimp only[ZL,Uw,br,vw,lr,cl,br,r9,TW,br,vw,lr,cl,br,PG,MV,lr]
 unfold Gw zV
 simp only[Yg,decide_eq_true_eq,Bool.not_eq_true',Bool.and_eq_false_iff,decide_eq_false_iff_not]
 grind
theorem ZDz(l:List Slt)(k:Int):match A7 l k with|some x=>∃i:Nat,Ds l (fun x=>decide (x.num=k))=(i:Int)∧l[i]?=some x|none=>Ds l (fun x=>decide (x.num=k))= -1:=by
 unfold A7 Ds
 rw[PX]
 cases e:l.findIdx? fun x=>decide (x.num=k)with
 |none=>rfl
 |some i=>
  have a:=(Y4.1 e).1
  simp[a]
  exact⟨i,rfl,Yb a⟩
theorem ig(s:Scm)(n:ByteArray)(v:Val)(f:Fld)(hs:s.messages.length≤1048576)(j:(As s n).length≤1048576)(o:v.slots.length≤4194304)(hm:(BC s.messages zM fun m=>decide (m.name=n)).2=true)(k:B2 (As s n) f.num=(f,true)):ZT s n v f.num=some (Df v.slots f,0):=by
 have b:ZJ s n f.num=some (.mk (BC s.messages zM fun m=>decide (m.name=n)).1 s,f,0):=by
  dsimp only[ZJ,V2,TY,VI,br,vw,lr,lc,cl,br]
  rw[iA _ _ hs,Yg,hm]
  simp only[HH,YB,if_false,if_true]
  rw[SZ _ _ j,Yg]
  rw[show(BC s.messages zM fun m=>decide (m.name=n)).1.fields=As s n from rfl,k]
  rfl
 have c:Pu v.slots f.num=some (Ds v.slots fun x=>decide (x.num=f.num)):=by
  dsimp only[Pu,RC,lr,cs]
  rw[iB v.slots (fun z=>L0 z f.num) (fun x=>decide (x.num=f.num)) (fun x _=>rfl) (by omega)]
  rfl
 have h:=ZDz v.slots f.num
 unfold Df
 dsimp only[ZT,VZ,br,CL,vw,lr,cl,br]
 rw[b,Yg,c,Yg]
 cases e:A7 v.slots f.num with
 |none=>
  rw[e]at h
  simp only at h
  rw[h,g48]
  rfl
 |some x=>
  rw[e]at h
  obtain⟨i,d,a⟩:=h
  rw[d]
  have l:=(Yd.1 a).1
  have g:=DH a
  simp[a,g]
theorem bm{s:Scm}(h:∀(i:Nat) (m:Msg),s.messages[i]?=some m→GdM m)(hs:Ax (AF s)≤1048576)(n:ByteArray):CJ (As s n) (As s n).length∧Di (As s n)∧(As s n).length≤1048576:=by
 have hl:=bA (yk hs) n
 unfold As BC at*
 cases e:s.messages.find? fun m=>decide (m.name=n)with
 |none=>exact⟨fun i a b hi=>by simp[zM]at hi,fun f c=>by simp[zM]at c,by simp[zM]⟩
 |some m=>
  rw[e]at hl
  have hm:=La e
  obtain⟨i,hi⟩:=Yv.1 hm
  have g:=h i m hi
  refine⟨g.asc,fun f c=>?_,hl⟩
  obtain⟨j,k⟩:=Yv.1 c
  refine⟨g.df j f k,?_⟩
  have d:=CF (e:=AA) hm
  have l:=CF (e:=Ap) (show f∈m.fields from c)
  simp only[AF,Ax,bk]at hs
  simp only[AA,Ax,bk]at d
  have e:Ax (Ag f.dflt)≤Ax (Ap f):=by
   simp only[Ap,Ag,Ax,bk]
   omega
  show Ax (Ag f.dflt)≤1048576
  omega
theorem o6g(s:Scm)(n:ByteArray)(h:SzS s):Ok (fun b=>b=true→∀(i:Nat) (m:Msg),s.messages[i]?=some m→GdM m) (Zp s n):=by
 dsimp only[Zp,W8,vz,vw,lr,clg,A3]
 have a:=o15 _ h
 have c:∀k:Few s,Ok (fun b=>b=true→∀(i:Nat) (m:Msg),s.messages[i]?=some m→GdM m) (Ph s):=fun k=>o16 _ h k
 (repeat' (first|with_reducible refine Ok.br (fun _=>?_) (fun _=>?_)|with_reducible refine Ok.pure ?_|(with_reducible apply Ok.bind;(exact a);intro _ _)|(with_reducible apply Ok.bind;(exact c (by simp_all));intro _ _)|(with_reducible apply Ok.clg;(exact fun _=>a);intro _)|(with_reducible apply Ok.clg;(exact fun _=>c (by simp_all));intro _)|with_reducible refine Ok.if ?_ ?_))<;>(simp_all<;>(rename_i q;exact q))
theorem ZSH(k:Int)(c:0≤k)(d:k≤12):AZ (.mk k 0 ⟨#[]⟩ [] [] [] []):=by
 show Ax (Ag (.mk k 0 ⟨#[]⟩ [] [] [] []))≤1048576
 have e:Ag (.mk k 0 ⟨#[]⟩ [] [] [] [])=[.int .i64 k,.int .u64 0,.str ⟨#[]⟩,.list [],.list [],.list [],.list []]:=rfl
 have a:rk .i64 k=0:=by
  have:k=0∨k=1∨k=2∨k=3∨k=4∨k=5∨k=6∨k=7∨k=8∨k=9∨k=10∨k=11∨k=12:=by omega
  rcases this with rfl|rfl|rfl|rfl|rfl|rfl|rfl|rfl|rfl|rfl|rfl|rfl|rfl<;>rfl
 have b:rk .u64 0=0:=rfl
 rw[e]
 simp only[Ax,bk,Bh,AE,a,b]
 decide
theorem ZKY{f:Fld}(h:AZ f.dflt):AZ (Gw f):=by
 unfold Gw zV
 repeat' split
 all_goals first|exact h|exact ZSH _ (by omega) (by omega)
theorem ZOt{f:Fld}{v:Val}(h:AZ f.dflt)(a:AZ v):AZ (Df v.slots f):=by
 unfold Df
 cases e:A7 v.slots f.num with
 |none=>exact ZKY h
 |some x=>exact El a (Mp e)
theorem Zg2{s:Scm}{n:ByteArray}{v:Val}(hs:Ax (AF s)≤1048576)(_:(0:Nat)≤1)(c:Ax (Ag v)≤1048576):XM s n v=some true:=by
 have h:=yk hs
 have o:Ax (Ag v)<Ai:=AW (by omega)
 have Ar:2*Ax (Ag v)+1048580≤Ai:=by
  have:=B0 (n:=4194304) (by omega)
  omega
 obtain⟨b,P,u⟩:=o6g s n h
 obtain⟨N,r,_⟩:=o6 v c
 obtain⟨O,t,Q⟩:=u12 s n v h c
 dsimp only[XM,Xw,W9,WX,br,vw,lr,lc,cl,clg,br]
 rw[P,Yg,r,t,aw]
 cases b with
 |false=>simp
 |true=>
  have C:=u rfl
  have hl:∀n,(As s n).length≤1048576:=fun n=>(bm C hs n).2.2
  have g:∀n,CJ (As s n) (As s n).length:=fun n=>(bm C hs n).1
  have d:∀n,Di (As s n):=fun n=>(bm C hs n).2.1
  cases N with
  |false=>simp
  |true=>
   by_cases A:O=0
   ·have f1:=py h.ml hl g Ai n v c o
    have t1:=qS h.ml hl d Ai n v c o
    have t2:=NT h.ml hl d Ai n _ (gY hl d g Ai n v c o)
    rw[uR d g Ai n v o]at t2
    obtain⟨Y,t4,t5⟩:=Qp (s:=s) Ai n v c o Ai Ar
    subst t5
    have U:Js s n=some (BC s.messages zM fun m=>decide (m.name=n)):=iv s n h.ml
    have J:=BY c
    obtain⟨p,a⟩:∃b,Ai=b+1:=⟨Ai-1,by have:=B0 (n:=20) (by omega);omega⟩
    have q:Ok (Sum.elim Tr No) (Am (O9 s n v (BS s Ai n v) (Cb s Ai n v) (BC s.messages zM fun m=>decide (m.name=n))) Ai 0):=by
     have z:=hl n
     refine Ok.loop (fun j:Nat=>j≤(As s n).length) (fun j:Nat=>(As s n).length-j) (by omega) (AW (by omega)) fun j X=>?_
     have F:(As s n).length<4611686018427387904:=by omega
     dsimp only[O9,Xm,br,ix,vz,vw,vs,Ay,ln,Al,cl,clg,wa,Ah,br]
     rw[show(BC s.messages zM fun m=>decide (m.name=n)).1.fields=As s n from rfl]
     by_cases k:(j:Int)<(As s n).length
     ·have l:j<(As s n).length:=by omega
      have i:(As s n)[j]?=some (As s n)[j]:=Yb l
      have L:j+1<9223372036854775808:=by omega
      generalize (As s n)[j]=f at i
      by_cases D:f.type.kind=10∨f.type.kind=6
      ·simp[F,k,i,D,L]
       exact⟨_,rfl,⟨by show j+1≤_;omega,by show(As s n).length-(j+1)<_;omega⟩⟩
      ·have E:f.type.kind≠10:=fun e=>D (.inl e)
       have K:f.type.kind≠6:=fun e=>D (.inr e)
       have hm:(BC s.messages zM fun m=>decide (m.name=n)).2=true:=by
        cases e:(BC s.messages zM fun m=>decide (m.name=n)).2 with
        |true=>rfl
        |false=>
         have r:As s n=[]:=by
          unfold As BC at*
          cases t:s.messages.find? fun m=>decide (m.name=n)with
          |none=>rfl
          |some m=>rw[t]at e;cases e
         rw[r]at l
         exact absurd l (by simp)
       have w:=Fl (g n) i
       have S:(BS s Ai n v).slots.length≤4194304:=by
        have:=gY hl d g Ai n v c o
        rw[a]at this⊢
        exact this.1
       have T:(Cb s Ai n v).slots.length≤4194304:=by
        rw[a]
        show(AR (Cb s p) (As s n) (v.slots.filter fun x=>!BP (As s n) x)).length≤_
        rw[JO]
        have:=NE (fun x=>!BP (As s n) x) v.slots
        have:=J.s
        omega
       have u:=ig s n v f h.ml z (by have:=J.s;omega) hm w
       have G:=ig s n (BS s Ai n v) f h.ml z S hm w
       have H:=ig s n (Cb s Ai n v) f h.ml z T hm w
       have a1:=ZJk (BS s p) (g n) (d n) i E v.slots
       have M:=ZK9 (Cb s p) (g n) (d n) i E K v.slots (Q A)
       have a3:Df (BS s Ai n v).slots f=Df v.slots f:=by rw[a];exact a1.1
       have a4:Df (Cb s Ai n v).slots f=Df v.slots f:=by rw[a];exact M
       have a5:f.hasDefault=true→Cv (BS s Ai n v).slots f.num=true:=by rw[a];exact a1.2
       have I:=ZOt ((d n) f (Yi i)).2 c
       obtain⟨y,s1,s2⟩:=Du Ai (Df v.slots f) (by have:Ax (Ag (Df v.slots f))≤1048576:=I;exact AW (by omega)) I
       subst s2
       rw[a3]at G
       rw[a4]at H
       have R:=x3 (BS s Ai n v) f.num (by omega)
       simp[F,k,i,E,K,u,G,H,s1,R,L]
       cases B:f.hasDefault with
       |false=>
        simp
        exact⟨_,rfl,⟨by show j+1≤_;omega,by show(As s n).length-(j+1)<_;omega⟩⟩
       |true=>
        simp[a5 B]
        exact⟨_,rfl,⟨by show j+1≤_;omega,by show(As s n).length-(j+1)<_;omega⟩⟩
     ·simp[F,k]
      exact⟨_,rfl,trivial⟩
    obtain⟨y,V,W⟩:=q
    cases y with
    |inr y=>exact W.elim
    |inl y=>simp[A,f1,t1,U,V,t2,t4]
   ·simp[A]
end Go.Proofs.YtchkcemlglpobaaGreat
