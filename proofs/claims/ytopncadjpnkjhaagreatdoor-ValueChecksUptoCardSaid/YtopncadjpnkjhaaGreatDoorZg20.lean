import Derived.Test.YtopncadjpnkjhaaGreatDoorZg19
import Derived.Test.YtopncadjpnkjhaaGreatDoorZg00
namespace Go.Proofs.YtopncadjpnkjhaaGreatDoor
set_option linter.all false
open Go Go.Eng
theorem Wp:∀a b:List (List D),Bp (a++b)=Bp a+Bp b
 |[],b=>by rw[FZ,Bp,YS]
 |x::a,b=>by rw[G5,Bp,Bp,Wp a b];omega
theorem V7{α:Type}(e:α→List D){l:List α}{i:Nat}{x:α}(h:l[i]?=some x):Bp ((l.take (i+1)).map e)=Bp ((l.take i).map e)+Ap (e x)+1:=by
 obtain⟨a,rfl⟩:=Yd.1 h
 rw[YZ a,Jj,Wp]
 simp only[Y4,List.map_nil,Bp]
 omega
theorem Kd{α:Type}(e:α→List D)(l:List α)(i:Nat):Bp ((l.take i).map e)≤Bp (l.map e):=by
 conv=>rhs;rw[←Hd i l,Jj,Wp]
 omega
structure SzV (v:Val):Prop where
 t:v.text.size≤1048576
 l:v.list.length≤1048576
 p:v.pairs.length≤1048576
 s:v.slots.length≤1048576
 r:v.raws.length≤1048576
structure SzN (x:Nt):Prop where
 n:x.name.size≤1048576
 v:SzV x.val
abbrev Gx(l:List Nt):Prop:=l.length≤1048576∧∀x∈l,SzN x
structure SzF (x:Fld):Prop where
 n:x.name.size≤1048576
 t:x.type.name.size≤1048576
 u:x.union.size≤1048576
 d:SzV x.dflt
 o:Gx x.notes
structure SzM (x:Msg):Prop where
 n:x.name.size≤1048576
 fl:x.fields.length≤1048576
 f:∀y∈x.fields,SzF y
 r:x.reserved.length≤1048576
 gl:x.gone.length≤1048576
 g:∀y∈x.gone,y.size≤1048576
 o:Gx x.notes
structure SzI (x:Itm):Prop where
 n:x.name.size≤1048576
 o:Gx x.notes
structure SzE (x:Enm):Prop where
 n:x.name.size≤1048576
 il:x.items.length≤1048576
 i:∀y∈x.items,SzI y
 r:x.reserved.length≤1048576
 o:Gx x.notes
structure SzT (x:Mth):Prop where
 n:x.name.size≤1048576
 o:Gx x.notes
structure SzW (x:Svc):Prop where
 n:x.name.size≤1048576
 ml:x.methods.length≤1048576
 m:∀y∈x.methods,SzT y
 o:Gx x.notes
structure SzS (x:Scm):Prop where
 ml:x.messages.length≤1048576
 m:∀y∈x.messages,SzM y
 el:x.enums.length≤1048576
 e:∀y∈x.enums,SzE y
 wl:x.services.length≤1048576
 w:∀y∈x.services,SzW y
theorem Dk{v:Val}(h:Ap (Ae v)≤1048576):SzV v:=by
 have a:=B9 (e:=AF) v.list
 have b:=B9 (e:=Ay) v.pairs
 have c:=B9 (e:=At) v.slots
 have d:=B9 (e:=A4) v.raws
 simp only[Ae,Ap,bk]at h
 constructor<;>omega
theorem Re{v:Val}(h:Ap (Ae v)≤1048576):0≤v.bits∧v.bits≤18446744073709551615:=by
 simp only[Ae,Ap,bk]at h
 have:=gx (k:=.u64) (n:=v.bits) (by omega)
 exact this
theorem szN{x:Nt}(h:Ap (BJ x)≤1048576):SzN x:=by
 have e:Ap (BJ x)=x.name.size+Ap (Ae x.val):=by simp only[BJ,Ae,Ap,bk]
 exact⟨by omega,Dk (by omega)⟩
theorem Jz{l:List Nt}(h:Bp (l.map BJ)≤1048576):Gx l:=⟨by have:=B9 (e:=BJ) l;omega,fun x a=>szN (by have:=Cs (e:=BJ) a;omega)⟩
theorem szF{x:Fld}(h:Ap (Am x)≤1048576):SzF x:=by
 have e:x.name.size+x.type.name.size+x.union.size+Ap (Ae x.dflt)+Bp (x.notes.map BJ)≤Ap (Am x):=by
  simp only[Am,Ae,Ap,bk]
  omega
 exact⟨by omega,by omega,by omega,Dk (by omega),Jz (by omega)⟩
theorem szM{x:Msg}(h:Ap (Au x)≤1048576):SzM x:=by
 simp only[Au,Ap,bk]at h
 have a:=B9 (e:=Am) x.fields
 have b:=B9 (e:=B7) x.reserved
 have c:=B9 (e:=AQ) x.gone
 exact⟨by omega,by omega,fun y hy=>szF (by have:=Cs (e:=Am) hy;omega),by omega,by omega,fun y hy=>by have:=Cs (e:=AQ) hy;simp only[AQ,Ap,bk]at this;omega,Jz (by omega)⟩
theorem szI{x:Itm}(h:Ap (B5 x)≤1048576):SzI x:=by
 simp only[B5,Ap,bk]at h
 exact⟨by omega,Jz (by omega)⟩
theorem szE{x:Enm}(h:Ap (Bi x)≤1048576):SzE x:=by
 simp only[Bi,Ap,bk]at h
 have a:=B9 (e:=B5) x.items
 have b:=B9 (e:=B7) x.reserved
 exact⟨by omega,by omega,fun y hy=>szI (by have:=Cs (e:=B5) hy;omega),by omega,Jz (by omega)⟩
theorem szT{x:Mth}(h:Ap (FO x)≤1048576):SzT x:=by
 simp only[FO,Ap,bk]at h
 exact⟨by omega,Jz (by omega)⟩
theorem szW{x:Svc}(h:Ap (CK x)≤1048576):SzW x:=by
 simp only[CK,Ap,bk]at h
 have a:=B9 (e:=FO) x.methods
 exact⟨by omega,by omega,fun y hy=>szT (by have:=Cs (e:=FO) hy;omega),Jz (by omega)⟩
theorem Ef{x:Scm}(h:Ap (Ak x)≤1048576):SzS x:=by
 simp only[Ak,Ap,bk]at h
 have a:=B9 (e:=Au) x.messages
 have b:=B9 (e:=Bi) x.enums
 have c:=B9 (e:=CK) x.services
 exact⟨by omega,fun y hy=>szM (by have:=Cs (e:=Au) hy;omega),by omega,fun y hy=>szE (by have:=Cs (e:=Bi) hy;omega),by omega,fun y hy=>szW (by have:=Cs (e:=CK) hy;omega)⟩
end Go.Proofs.YtopncadjpnkjhaaGreatDoor
namespace Go.Proofs.YtopncadjpnkjhaaGreatDoor
set_option linter.all false
open Go Go.Eng
theorem W7(x:ByteArray):x.data.toList.length=x.size:=by rw[ES];rfl
theorem Bx{n:Nat}(h:n≤2097152):n<Ai:=by unfold Ai;omega
theorem ZQe(x:ByteArray)(h:x.size≤1048576):Ok Tr (O9 x):=by
 have q:Ok Ts (Al (Kr x) Ai 0):=by
  refine Bh (fun v:Int=>0≤v∧v≤x.size+4) (fun v:Int=>(x.size+4-v).toNat) ⟨by omega,by omega⟩ (Bx (by omega)) fun v a=>?_
  dsimp only[Kr,Xr,br,vz,vs,An,ln,Ah,cl,wi,AR,br]
  (repeat' (first|with_reducible (first|refine AC (fun _=>?_) fun _=>?_|refine AB ?_)|(with_reducible apply Ax;(exact ZQQ _ _ a.1 BN h);intro _ _)|with_reducible refine AD ?_ ?_))<;>exact AK
 dsimp only[O9,Xt,XZ,Xi,lr,lc]
 (repeat' (first|with_reducible (first|refine AC (fun _=>?_) fun _=>?_|refine AB ?_)|(with_reducible apply Bo;(exact q);all_goals(intro _ _;try dsimp only))|with_reducible refine AD ?_ ?_))<;>exact BN
theorem ZZ(x:ByteArray)(h:x.size≤1048576):Ok Tr (JY x):=by
 dsimp only[JY,Tc,lr,cl]
 (repeat' (first|with_reducible (first|refine AC (fun _=>?_) fun _=>?_|refine AB ?_)|(with_reducible apply Ax;(exact ZQe _ h);intro _ _)|with_reducible refine AD ?_ ?_))<;>exact BN
theorem OR(x:ByteArray)(h:x.size≤1048576):Ok Tr (U8 x):=by
 have hl:=W7 x
 have q:Ok Ts (Al (Qi x) Ai 1):=by
  refine Bh (fun v:Nat=>v≤1048577) (fun v:Nat=>1048577-v) (by omega) (Bx (by omega)) fun v a=>?_
  dsimp only[Qi,rM,br,vz,vs,An,ln,Ah,cl,Aw,wa,AR,br,ib,EO]
  (repeat' (first|with_reducible (first|refine AC (fun _=>?_) fun _=>?_|refine AB ?_|refine Bu ?_ fun _ _ _=>?_)|(with_reducible apply Ax;(exact OT _);intro _ _)|(with_reducible apply Ax;(exact N9 _);intro _ _)|(with_reducible apply Bb;(exact fun _=>OT _);intro _)|(with_reducible apply Bb;(exact fun _=>N9 _);intro _)|with_reducible refine AD ?_ ?_))<;>exact AK
 dsimp only[U8,qh,rl,qe,br,vz,vy,lr,lc,Aw,AR,br,EO]
 (repeat' (first|with_reducible (first|refine AC (fun _=>?_) fun _=>?_|refine AB ?_)|(with_reducible apply Bo;(exact q);all_goals(intro _ _;try dsimp only))|(with_reducible apply Ax;(exact OT _);intro _ _)|(with_reducible apply Ax;(exact N9 _);intro _ _)|(with_reducible apply Bb;(exact fun _=>OT _);intro _)|(with_reducible apply Bb;(exact fun _=>N9 _);intro _)|with_reducible refine AD ?_ ?_))<;>exact BN
theorem ZQy(x:ByteArray)(h:x.size≤1048576):Ok Tr (U7 x):=by
 have hl:=W7 x
 have q:Ok (Sum.elim (fun b:ByteArray=>b.size≤1048576) Tr) (Al (Qu x) Ai (⟨#[]⟩,0)):=by
  refine Bh (fun v:ByteArray×Nat=>v.1.size≤v.2∧v.2≤x.size) (fun v:ByteArray×Nat=>x.size-v.2) ⟨by rw[uJ];omega,by omega⟩ (Bx (by omega)) fun v a=>?_
  obtain⟨v,i⟩:=v
  obtain⟨a,hi⟩:=a
  dsimp only at a hi
  dsimp only[Qu,rX,br,vz,vs,v2,An,ln,Ah,ad,cl,wa,ss,AR,br,ib]
  (repeat' (first|with_reducible (first|refine AC (fun _=>?_) fun _=>?_|refine AB ?_|refine Bu ?_ fun _ _ _=>?_)|(with_reducible apply Ax;(exact OR _ (by omega));intro _ _)|with_reducible (first|refine fB ?_ ?_|refine AD ?_ ?_)))<;>exact AK
 dsimp only[U7,rJ,ti,tD,br,vz,lr,lc,cl,AR,br]
 (repeat' (first|with_reducible (first|refine AC (fun _=>?_) fun _=>?_|refine AB ?_)|(with_reducible apply Bo;(exact q);all_goals(intro _ _;try dsimp only))|(with_reducible apply Ax;(exact OR _ (by assumption));intro _ _)|with_reducible refine AD ?_ ?_))<;>exact BN
set_option maxRecDepth 20000 in
theorem ZQw(x:ByteArray)(h:x.size≤1048576):Ok (fun y=>y.1.size≤1048576∧y.2.size≤1048576) (UM x):=by
 have hl:=W7 x
 have q:Ok (Sum.elim Tr (fun y:ByteArray×ByteArray=>y.1.size≤1048576∧y.2.size≤1048576)) (Al (Qz x) Ai ((x.size:Int)-1)):=by
  refine Bh (fun v:Int=>-1≤v∧v<x.size) (fun v:Int=>(v+1).toNat) ⟨by omega,by omega⟩ (Bx (by omega)) fun v hv=>?_
  dsimp only[Qz,ua,br,vs,An,ln,Ah,wi,ss,br,Nl]
  (repeat' (first|with_reducible (first|refine AC (fun _=>?_) fun _=>?_|refine AB ?_|refine Bu ?_ fun _ _ _=>?_|refine fB ?_ ?_|refine AD ?_ ?_)))<;>exact AK
 dsimp only[UM,qF,sd,py,vz,vs,lr,lc,wi,AR]
 (repeat' (first|with_reducible (first|refine AC (fun _=>?_) fun _=>?_|refine AB ?_)|(with_reducible apply Bo;(exact q);all_goals(intro _ _;try dsimp only))|with_reducible refine AD ?_ ?_))<;>exact AK
set_option maxRecDepth 20000 in
theorem ZX(x:ByteArray)(h:x.size≤1048576):Ok Tr (Va x):=by
 have q:Ok Ts (Al QP Ai (x,0)):=by
  refine Bh (fun v:ByteArray×Nat=>v.1.size≤1048576∧v.2≤120) (fun v:ByteArray×Nat=>120-v.2) ⟨h,by omega⟩ (Bx (by omega)) fun v hv=>?_
  obtain⟨v,i⟩:=v
  obtain⟨hv,hi⟩:=hv
  dsimp only at hv hi
  dsimp only[QP,iM,br,vs,v2,An,ln,Ah,cl,wa,br]
  (repeat' (first|with_reducible (first|refine AC (fun _=>?_) fun _=>?_|refine AB ?_)|(with_reducible apply Ax;(exact ZQw _ hv);intro _ _)|(with_reducible apply Ax;(exact TM _);intro _ _)|with_reducible refine AD ?_ ?_))<;>exact AK
 dsimp only[Va,dk,fv,ew,br,lr,lc,cl,br]
 (repeat' (first|with_reducible (first|refine AC (fun _=>?_) fun _=>?_|refine AB ?_)|(with_reducible apply Bo;(exact q);all_goals(intro _ _;try dsimp only))|(with_reducible apply Ax;(exact ZQy _ h);intro _ _)|with_reducible refine AD ?_ ?_))<;>exact AK
set_option maxRecDepth 20000 in
theorem I4(x:ByteArray)(h:x.size≤1048576):Ok Tr (UC x):=by
 dsimp only[UC,eb,lr,cl,Aw]
 (repeat' (first|with_reducible (first|refine AC (fun _=>?_) fun _=>?_|refine AB ?_)|(with_reducible apply Ax;(exact OR _ h);intro _ _)|(with_reducible apply Ax;(exact TM _);intro _ _)|(with_reducible apply Bb;(exact fun _=>OR _ h);intro _)|(with_reducible apply Bb;(exact fun _=>TM _);intro _)|with_reducible refine AD ?_ ?_))<;>exact AK
theorem uA(l:List ByteArray)(x:ByteArray)(h:l.length≤1048576):Ok Tr (Mb l x):=by
 have q:Ok Ts (Al (KI l x) Ai 0):=by
  refine Bh (fun v:Nat=>v≤l.length) (fun v:Nat=>l.length-v) (by omega) (Bx (by omega)) fun v a=>?_
  dsimp only[KI,Ze,br,ix,vz,vs,An,ln,Ah,wa,Ag,br]
  (repeat' (first|with_reducible (first|refine AC (fun _=>?_) fun _=>?_|refine AB ?_|refine Bu ?_ fun _ _ _=>?_|refine AD ?_ ?_)))<;>exact AK
 dsimp only[Mb,Zz,Zn,ZB,lr,lc]
 (repeat' (first|with_reducible (first|refine AC (fun _=>?_) fun _=>?_|refine AB ?_)|(with_reducible apply Bo;(exact q);all_goals(intro _ _;try dsimp only))|with_reducible refine AD ?_ ?_))<;>exact AK
theorem ZY(l:List Spn)(x:Int)(h:l.length≤1048576):Ok Tr (U3 l x):=by
 have q:Ok Ts (Al (Q9 l x) Ai 0):=by
  refine Bh (fun v:Nat=>v≤l.length) (fun v:Nat=>l.length-v) (by omega) (Bx (by omega)) fun v a=>?_
  dsimp only[Q9,iR,br,ix,A8,vz,vs,An,ln,Ah,wa,Ag,br]
  (repeat' (first|with_reducible (first|refine AC (fun _=>?_) fun _=>?_|refine AB ?_|refine Bu ?_ fun _ _ _=>?_|refine EY ?_ fun _=>?_|refine AD ?_ ?_)))<;>exact AK
 dsimp only[U3,eu,ej,gY,lr,lc]
 (repeat' (first|with_reducible (first|refine AC (fun _=>?_) fun _=>?_|refine AB ?_)|(with_reducible apply Bo;(exact q);all_goals(intro _ _;try dsimp only))|with_reducible refine AD ?_ ?_))<;>exact AK
theorem Nm(s:Scm)(x:ByteArray)(h:SzS s):Ok (fun y:Int=>y<s.messages.length∧(0≤y→∃m∈s.messages,m.name=x)) (UF s x):=by
 have hm:=h.ml
 have q:Ok (Sum.elim Tr fun y:Int=>y<s.messages.length∧(0≤y→∃m∈s.messages,m.name=x)) (Al (QT s x) Ai 0):=by
  refine Bh (fun v:Nat=>v≤s.messages.length) (fun v:Nat=>s.messages.length-v) (by omega) (Bx (by omega)) fun v a=>?_
  dsimp only[QT,dN,br,ix,vz,wg,vs,An,ln,Ah,wa,Ag,br]
  (repeat' (first|with_reducible (first|refine AC (fun _=>?_) fun _=>?_|refine AB ?_|refine Bu ?_ fun _ _ _=>?_|refine AD ?_ ?_)))<;>first|exact⟨by omega,fun _=>⟨_,by assumption,El (by assumption)⟩⟩|exact AK
 dsimp only[UF,ee,cZ,i2,lr,lc]
 (repeat' (first|with_reducible (first|refine AC (fun _=>?_) fun _=>?_|refine AB ?_)|(with_reducible apply Bo;(exact q);all_goals(intro _ _;try dsimp only))|with_reducible refine AD ?_ ?_))<;>first|exact⟨by omega,fun h=>absurd h (by decide)⟩|exact AK
theorem T3(s:Scm)(x:ByteArray)(h:SzS s):Ok (fun y:Int=>y<s.enums.length∧(0≤y→∃m∈s.enums,m.name=x)) (U6 s x):=by
 have hm:=h.el
 have q:Ok (Sum.elim Tr fun y:Int=>y<s.enums.length∧(0≤y→∃m∈s.enums,m.name=x)) (Al (Qx s x) Ai 0):=by
  refine Bh (fun v:Nat=>v≤s.enums.length) (fun v:Nat=>s.enums.length-v) (by omega) (Bx (by omega)) fun v a=>?_
  dsimp only[Qx,qK,br,ix,vz,wg,vs,An,ln,Ah,wa,Ag,br]
  (repeat' (first|with_reducible (first|refine AC (fun _=>?_) fun _=>?_|refine AB ?_|refine Bu ?_ fun _ _ _=>?_|refine AD ?_ ?_)))<;>first|exact⟨by omega,fun _=>⟨_,by assumption,El (by assumption)⟩⟩|exact AK
 dsimp only[U6,o8,tx,rz,lr,lc]
 (repeat' (first|with_reducible (first|refine AC (fun _=>?_) fun _=>?_|refine AB ?_)|(with_reducible apply Bo;(exact q);all_goals(intro _ _;try dsimp only))|with_reducible refine AD ?_ ?_))<;>first|exact⟨by omega,fun h=>absurd h (by decide)⟩|exact AK
theorem OI(v w:Val)(h:SzV v)(k:SzV w):Ok Tr (UG v w):=by
 obtain⟨_,_,_,_,_⟩:=h
 obtain⟨_,_,_,_,_⟩:=k
 dsimp only[UG,uf,vy,wg,vg,lr,wa,Ag]
 (repeat' (first|with_reducible (first|refine AC (fun _=>?_) fun _=>?_|refine AB ?_|refine AD ?_ ?_)))<;>exact AK
def aQ(v:Val):Prop:=v.list=[]∧v.pairs=[]∧v.slots=[]∧v.raws=[]∧(v.kind=7∨v.kind=8→v.bits=0)∧(¬(v.kind=7∨v.kind=8)→v.text=⟨#[]⟩)
def Lb(n:Int)(v:Val):Prop:=1≤n∧n≤9∧v.kind=n∧aQ v
theorem zq{n:Int}{v:Val}(h:SzV v)(e:Hi n v=some true):Lb n v:=by
 obtain⟨p,q,r,s,t⟩:=h
 have k:v.list.length<4611686018427387904:=by omega
 have l:v.pairs.length<4611686018427387904:=by omega
 have m:v.slots.length<4611686018427387904:=by omega
 have o:v.raws.length<4611686018427387904:=by omega
 have hi:Pb n=some (decide (1≤n)&&decide (n≤9)):=rfl
 dsimp only[Hi,QM,br,vz,vy,wg,lr,cl,Aw,AR,br,Ma,Xu,vz,vy,wg,lr,Ag,L7,XH,lr]at e
 rw[hi]at e
 unfold Lb aQ
 simp only[Yc]at e
 generalize JY v.text=w at e
 simp[k,l,m,o]at e
 split at e
 ·cases e
 ·rename_i c
  simp only[not_or,Decidable.not_not,Classical.not_imp,Int.not_lt]at c
  obtain⟨⟨⟨d,f⟩,b⟩,⟨⟨g,i⟩,j⟩,c6⟩:=c
  refine⟨d,f,b,g,i,j,c6,fun a=>?_,fun a=>?_⟩
  ·rw[b]at a
   simp only[a,Yv]at e
   split at e<;>simp_all
  ·rw[b]at a
   simp only[a,YL]at e
   split at e<;>simp_all
theorem Ot(n:Int)(v:Val)(h:SzV v):Ok (fun b=>b=true→Lb n v) (Hi n v):=by
 have a:=h.t
 have q:Ok Tr (Hi n v):=by
  have c:Ok Tr (Pb n):=⟨_,rfl,trivial⟩
  dsimp only[Hi,QM,br,vz,vy,wg,lr,cl,Aw,AR,br]
  (repeat' (first|with_reducible (first|refine AC (fun _=>?_) fun _=>?_|refine AB ?_)|(with_reducible apply Ax;(exact c);intro _ _)|(with_reducible apply Ax;(exact jD _);intro _ _)|(with_reducible apply Ax;(exact jR _);intro _ _)|(with_reducible apply Ax;(exact ZZ _ a);intro _ _)|(with_reducible apply Bb;(exact fun _=>c);intro _)|(with_reducible apply Bb;(exact fun _=>jD _);intro _)|(with_reducible apply Bb;(exact fun _=>jR _);intro _)|(with_reducible apply Bb;(exact fun _=>ZZ _ a);intro _)|with_reducible refine AD ?_ ?_))<;>exact AK
 obtain⟨b,e,_⟩:=q
 exact⟨b,e,fun d=>zq h (d▸e)⟩
theorem jc(v:Val)(h:SzV v):Ok SzV (UI v):=by
 dsimp only[UI,pq,br,wg,lr,Aw,br]
 (repeat' (first|with_reducible (first|refine AC (fun _=>?_) fun _=>?_|refine AB ?_)|(with_reducible apply Ax;(exact jI _);intro _ _)|(with_reducible apply Bb;(exact fun _=>jI _);intro _)|with_reducible refine AD ?_ ?_))<;>first|exact h|exact⟨h.t,h.l,h.p,h.s,h.r⟩
theorem ZQr(x:Nt)(h:SzN x):Ok Tr (UP x):=by
 dsimp only[UP,q7,wg,lr,cl,Aw]
 (repeat' (first|with_reducible (first|refine AC (fun _=>?_) fun _=>?_|refine AB ?_)|(with_reducible apply Ax;(exact TH _);intro _ _)|(with_reducible apply Ax;(exact Ot _ _ h.v);intro _ _)|(with_reducible apply Bb;(exact fun _=>TH _);intro _)|(with_reducible apply Bb;(exact fun _=>Ot _ _ h.v);intro _)|with_reducible refine AD ?_ ?_))<;>exact AK
theorem ZP6(l:List Nt)(n:Int)(h:Gx l):Ok Tr (UU l n):=by
 obtain⟨b,a⟩:=h
 have q:Ok Ts (Al (Qh l n) Ai 0):=by
  refine Bh (fun v:Nat=>v≤l.length) (fun v:Nat=>l.length-v) (by omega) (Bx (by omega)) fun v c=>?_
  dsimp only[Qh,pj,br,ix,A8,vz,vs,vg,An,ln,Ah,cl,wa,wi,Ag,br]
  (repeat' (first|with_reducible (first|refine AC (fun _=>?_) fun _=>?_|refine AB ?_|refine Bu ?_ fun _ _ _=>?_)|(with_reducible apply Ax;(exact TH _);intro _ _)|(with_reducible apply Ax;(exact ZP7 _ _);intro _ _)|(with_reducible apply Ax;(exact ZQr _ (a _ (by assumption)));intro _ _)|with_reducible (first|refine EY ?_ fun _=>?_|refine AD ?_ ?_)))<;>exact AK
 dsimp only[UU,sx,s3,qW,br,vz,lr,lc,Ag,br]
 (repeat' (first|with_reducible (first|refine AC (fun _=>?_) fun _=>?_|refine AB ?_)|(with_reducible apply Bo;(exact q);all_goals(intro _ _;try dsimp only))|with_reducible refine AD ?_ ?_))<;>exact AK
theorem Dx(d:ByteArray)(l:List Prb)(b:Bool)(n e:Int)(h:l.length<549755813887):Ok (fun y=>l.length≤y.length∧y.length≤l.length+1∧(b=true→l.length+1≤y.length)) (Be d l b n e):=by
 dsimp only[Be,ek,S1,gu,S7,vz,vw,wg,lr,lc,ap,I7,fl]
 (repeat' (first|with_reducible (first|refine AC (fun _=>?_) fun _=>?_|refine AB ?_|refine AD ?_ ?_)))<;>first|exact AK|simp_all
theorem H4(d:ByteArray)(l:List Prb)(x:List Nt)(t n:Int)(h:l.length<549755813887)(a:Gx x):Ok (fun y=>l.length≤y.length∧y.length≤l.length+1) (F5 d l x t n):=by
 dsimp only[F5,bD,gV,gM,SN,vz,lr,lc,cl,fl]
 (repeat' (first|with_reducible (first|refine AC (fun _=>?_) fun _=>?_|refine AB ?_)|(with_reducible apply Ax;(exact ZP6 _ _ a);intro _ _)|(with_reducible apply Ax;(exact Dx _ _ _ _ _ h);intro _ _)|with_reducible refine AD ?_ ?_))<;>exact AK
theorem uF(d:ByteArray)(l:List Prb)(x:List Spn)(t n:Int)(h:l.length<500000000000)(f:x.length≤1048576):Ok (fun y=>l.length≤y.length∧y.length≤l.length+2*x.length) (L4 d l x t n):=by
 have q:Ok (Sum.elim (fun y:List Prb=>l.length≤y.length∧y.length≤l.length+2*x.length) No) (Al (QW d x t n) Ai (0,l)):=by
  refine Bh (fun v:Nat×List Prb=>v.1≤x.length∧l.length≤v.2.length∧v.2.length≤l.length+2*v.1) (fun v:Nat×List Prb=>x.length-v.1) ⟨by omega,by simp,by simp⟩ (Bx (by omega)) fun v e=>?_
  obtain⟨i,r⟩:=v
  obtain⟨a,b,c⟩:=e
  dsimp only at a b c
  dsimp only[QW,iK,Zl,eC,SY,g9,cW,br,ix,A8,vz,vs,vg,ln,Ah,lc,wa,wi,fl,Ag,br]
  (repeat' (first|with_reducible (first|refine AC (fun _=>?_) fun _=>?_|refine AB ?_|refine Bu ?_ fun _ _ _=>?_)|(with_reducible apply Ax;(exact Dx _ _ _ _ _ (by omega));intro _ _)|with_reducible (first|refine EY ?_ fun _=>?_|refine AD ?_ ?_)))<;>exact AK
 dsimp only[L4,gS,Zb,vz,lr,lc,fl]
 (repeat' (first|with_reducible (first|refine AC (fun _=>?_) fun _=>?_|refine AB ?_)|(with_reducible apply Bo;(exact q);all_goals(intro _ _;try dsimp only))|with_reducible refine AD ?_ ?_))<;>exact AK
theorem ZW(s:Scm)(w:Int)(h:SzS s):Ok (fun y=>y.length≤3145728) (UR s w):=by
 have a:=h.ml
 have b:=h.el
 have j:=h.wl
 have e:Ok (Sum.elim (fun y:List ByteArray=>y.length≤1048576) No) (Al (Ri s w) Ai ([],0)):=by
  refine Bh (fun v:List ByteArray×Nat=>v.2≤s.messages.length∧v.1.length≤v.2) (fun v:List ByteArray×Nat=>s.messages.length-v.2) ⟨by omega,by simp⟩ (Bx (by omega)) fun v c=>?_
  obtain⟨r,i⟩:=v
  obtain⟨a,b⟩:=c
  dsimp only at a b
  dsimp only[Ri,g0,br,ix,vz,vy,vw,wg,vs,v2,ln,Ah,ap,wa,fl,Ag,br]
  (repeat' (first|with_reducible (first|refine AC (fun _=>?_) fun _=>?_|refine AB ?_|refine Bu ?_ fun _ _ _=>?_|refine AD ?_ ?_)))<;>exact AK
 have f:∀r:List ByteArray,r.length≤1048576→Ok (Sum.elim (fun y:List ByteArray=>y.length≤2097152) No) (Al (Rj s w) Ai (r,0)):=by
  intro r d
  refine Bh (fun v:List ByteArray×Nat=>v.2≤s.enums.length∧v.1.length≤1048576+v.2) (fun v:List ByteArray×Nat=>s.enums.length-v.2) ⟨by omega,by simpa using d⟩ (Bx (by omega)) fun v c=>?_
  obtain⟨r,i⟩:=v
  obtain⟨a,b⟩:=c
  dsimp only at a b
  dsimp only[Rj,fi,br,ix,vz,vy,vw,wg,vs,ln,Ah,ap,wa,fl,Ag,br]
  (repeat' (first|with_reducible (first|refine AC (fun _=>?_) fun _=>?_|refine AB ?_|refine Bu ?_ fun _ _ _=>?_|refine AD ?_ ?_)))<;>exact AK
 have g:∀r:List ByteArray,r.length≤2097152→Ok (Sum.elim (fun y:List ByteArray=>y.length≤3145728) No) (Al (Q8 s w) Ai (r,0)):=by
  intro r d
  refine Bh (fun v:List ByteArray×Nat=>v.2≤s.services.length∧v.1.length≤2097152+v.2) (fun v:List ByteArray×Nat=>s.services.length-v.2) ⟨by omega,by simpa using d⟩ (Bx (by omega)) fun v c=>?_
  obtain⟨r,i⟩:=v
  obtain⟨a,b⟩:=c
  dsimp only at a b
  dsimp only[Q8,dK,br,ix,vz,vy,vw,wg,vs,ln,Ah,ap,wa,fl,Ag,br]
  (repeat' (first|with_reducible (first|refine AC (fun _=>?_) fun _=>?_|refine AB ?_|refine Bu ?_ fun _ _ _=>?_|refine AD ?_ ?_)))<;>exact AK
 dsimp only[UR,eF,g6,b5,i7,g7,eI,vz,vw,lr,lc,fl,fr]
 (repeat' (first|with_reducible (first|refine AC (fun _=>?_) fun _=>?_|refine AB ?_)|(with_reducible apply Bo;(exact e);all_goals(intro _ _;try dsimp only))|(with_reducible apply Bo;(exact f _ (by assumption));all_goals(intro _ _;try dsimp only))|(with_reducible apply Bo;(exact g _ (by assumption));all_goals(intro _ _;try dsimp only))|with_reducible refine AD ?_ ?_))<;>exact AK
theorem o63(l:List ByteArray)(h:l.length≤3145728):Ok Tr (UD l):=by
 have q:Ok Ts (Al (Ra l) Ai 1):=by
  refine Bh (fun v:Nat=>1≤v∧v≤l.length+1) (fun v:Nat=>l.length+1-v) ⟨by omega,by omega⟩ (by unfold Ai;omega) fun v a=>?_
  dsimp only[Ra,bf,br,ix,CA,vz,vs,An,ln,Ah,wa,wi,Ag,br]
  (repeat' (first|with_reducible (first|refine AC (fun _=>?_) fun _=>?_|refine AB ?_|refine Bu ?_ fun _ _ _=>?_|refine AD ?_ ?_)))<;>exact AK
 dsimp only[UD,fd,hU,bU,lr,lc]
 (repeat' (first|with_reducible (first|refine AC (fun _=>?_) fun _=>?_|refine AB ?_)|(with_reducible apply Bo;(exact q);all_goals(intro _ _;try dsimp only))|with_reducible refine AD ?_ ?_))<;>exact AK
theorem ZQ3(l:List ByteArray)(x:ByteArray)(h:l.length≤3145728):Ok Tr (Mb l x):=by
 have q:Ok Ts (Al (KI l x) Ai 0):=by
  refine Bh (fun v:Nat=>v≤l.length) (fun v:Nat=>l.length-v) (by omega) (by unfold Ai;omega) fun v a=>?_
  dsimp only[KI,Ze,br,ix,vz,vs,An,ln,Ah,wa,Ag,br]
  (repeat' (first|with_reducible (first|refine AC (fun _=>?_) fun _=>?_|refine AB ?_|refine Bu ?_ fun _ _ _=>?_|refine AD ?_ ?_)))<;>exact AK
 dsimp only[Mb,Zz,Zn,ZB,lr,lc]
 (repeat' (first|with_reducible (first|refine AC (fun _=>?_) fun _=>?_|refine AB ?_)|(with_reducible apply Bo;(exact q);all_goals(intro _ _;try dsimp only))|with_reducible refine AD ?_ ?_))<;>exact AK
theorem uy(l k:List ByteArray)(h:l.length≤3145728)(a:k.length≤3145728):Ok Tr (UH l k):=by
 have q:Ok Ts (Al (Ro l k) Ai 0):=by
  refine Bh (fun v:Nat=>v≤l.length) (fun v:Nat=>l.length-v) (by omega) (by unfold Ai;omega) fun v b=>?_
  dsimp only[Ro,bE,br,ix,vz,vs,An,ln,Ah,cl,wa,Ag,br]
  (repeat' (first|with_reducible (first|refine AC (fun _=>?_) fun _=>?_|refine AB ?_|refine Bu ?_ fun _ _ _=>?_)|(with_reducible apply Ax;(exact ZQ3 _ _ a);intro _ _)|with_reducible refine AD ?_ ?_))<;>exact AK
 dsimp only[UH,fW,fL,fT,lr,lc]
 (repeat' (first|with_reducible (first|refine AC (fun _=>?_) fun _=>?_|refine AB ?_)|(with_reducible apply Bo;(exact q);all_goals(intro _ _;try dsimp only))|with_reducible refine AD ?_ ?_))<;>exact AK
def Jf(s:Scm)(f:Fld):Prop:=(f.type.kind=9→∃m∈s.enums,m.name=f.type.name)∧(f.type.kind=10→(∃m∈s.messages,m.name=f.type.name)∧f.card≠3)∧1≤f.type.kind∧f.type.kind≤10
theorem uC(s:Scm)(f:Fld)(h:SzS s):Ok (fun b=>b=true→Jf s f) (UJ s f):=by
 unfold Jf
 dsimp only[UJ,bh,br,wg,lr,cl,br]
 (repeat' (first|with_reducible (first|refine AC (fun _=>?_) fun _=>?_|refine AB ?_)|(with_reducible apply Ax;(exact T3 _ _ h);intro _ _)|(with_reducible apply Ax;(exact Nm _ _ h);intro _ _)|with_reducible refine AD ?_ ?_))
 ·intro a
  have d:f.type.kind=9:=El (by assumption)
  have e:=(show _<_∧(_→∃m∈s.enums,m.name=f.type.name)by assumption).2 (El a)
  exact⟨fun _=>e,fun k=>by omega,by omega,by omega⟩
 ·intro a
  have c:f.type.kind=10:=El (by assumption)
  rw[Yb]at a
  have e:=(show _<_∧(_→∃m∈s.messages,m.name=f.type.name)by assumption).2 (El a.1)
  exact⟨fun k=>by omega,fun _=>⟨e,by simpa using a.2⟩,by omega,by omega⟩
 ·intro a
  simp only[Yb,Yr]at a
  exact⟨fun k=>by omega,fun k=>by omega,by omega,by omega⟩
def Ld(f:Fld):Prop:=f.union≠⟨#[]⟩→f.card=2
theorem uD(m:Msg)(i:Nat)(h:SzM m)(hi:i<m.fields.length):Ok (fun b=>b=true→∀f,m.fields[i]?=some f→Ld f) (US m i):=by
 have hl:=h.fl
 have q:∀e,Ok (Sum.elim (fun b:Bool=>b=true→0<i) Tr) (Al (Rl m i e) Ai (false,0)):=by
  intro e
  refine Bh (fun v:Bool×Nat=>v.2≤m.fields.length∧(v.1=true→0<i)) (fun v:Bool×Nat=>m.fields.length-v.2) ⟨by omega,by simp⟩ (Bx (by omega)) fun v k=>?_
  obtain⟨b,j⟩:=v
  obtain⟨c,d⟩:=k
  dsimp only at c d
  dsimp only[Rl,iI,br,ix,A8,vz,wg,vs,An,ln,Ah,wa,Ag,br]
  (repeat' (first|with_reducible (first|refine AC (fun _=>?_) fun _=>?_|refine AB ?_|refine Bu ?_ fun _ _ _=>?_|refine EY ?_ fun _=>?_|refine AD ?_ ?_)))<;>exact AK
 dsimp only[US,gX,eK,dl,br,CA,A8,wg,vg,lr,lc,Aw,wi,br]
 (repeat' (first|with_reducible (first|refine AC (fun _=>?_) fun _=>?_|refine AB ?_|refine Bu ?_ fun _ _ _=>?_)|(with_reducible apply Bo;(exact q _);all_goals(intro _ _;try dsimp only))|(with_reducible apply Ax;(exact I4 _ ((h.f _ (by assumption)).u));intro _ _)|(with_reducible apply Bb;(exact fun _=>I4 _ ((h.f _ (by assumption)).u));intro _)|with_reducible (first|refine EY ?_ fun _=>?_|refine AD ?_ ?_)))<;>first|(intro h;cases h;done)|(have he:=‹m.fields[i]?=some _›;intro _ f a;rw[he]at a;cases a;intro g;first|exact absurd (El (by assumption)) g|(simp only[Yt,YF,F2,NZ,Yr,YC]at*;omega)|grind)|exact AK
def GY(f:Fld):Prop:=f.hasDefault=true→Lb f.type.kind f.dflt∧f.card=2∧f.union=⟨#[]⟩
theorem uE(s:Scm)(f:Fld)(h:SzS s)(a:SzF f):Ok (fun b=>b=true→GY f) (UW s f):=by
 have g:SzV (.mk 0 0 ⟨#[]⟩ [] [] [] []):=by constructor<;>decide
 have he:∀y,y∈s.enums→y.items.length≤1048576:=fun y hy=>(h.e y hy).il
 have q:∀y:Int,0≤y→y<s.enums.length→Ok Ts (Al (Q7 s f y) Ai 0):=by
  intro y hy k
  refine Bh (fun v:Nat=>v≤1048576) (fun v:Nat=>1048576-v) (by omega) (Bx (by omega)) fun v l=>?_
  dsimp only[Q7,dM,br,ix,CA,vz,wg,vs,An,ln,Ah,wa,Ag,br]
  (repeat' (first|with_reducible (first|refine AC (fun _=>?_) fun _=>?_|refine AB ?_|refine Bu ?_ fun _ _ _=>?_|refine AD ?_ ?_)))<;>exact AK
 have key:∀(c d:Bool),((!((!decide (f.card=2))||(!decide (f.union=⟨#[]⟩))))=true→c=true→Lb f.type.kind f.dflt)→((((!decide (f.card=2))||(!decide (f.union=⟨#[]⟩)))||!c)||!d)=false→GY f:=fun c d i j _=>by
  cases c<;>cases d<;>simp_all
 have e:(!f.hasDefault)=true→GY f:=fun i j=>by simp_all
 dsimp only[UW,eV,iD,i4,br,wg,lr,lc,cl,Aw,br]
 (repeat' (first|with_reducible (first|refine AC (fun _=>?_) fun _=>?_|refine AB ?_)|(with_reducible apply Bo;(exact q _ BN BN);all_goals(intro _ _;try dsimp only))|(with_reducible apply Ax;(exact OI _ _ a.d g);intro _ _)|(with_reducible apply Ax;(exact Ot _ _ a.d);intro _ _)|(with_reducible apply Ax;(exact jc _ a.d);intro _ _)|(with_reducible apply Ax;(exact OI _ _ a.d (by solve_by_elim));intro _ _)|(with_reducible apply Ax;(exact T3 _ _ h);intro _ _)|(with_reducible apply Bb;(exact fun _=>OI _ _ a.d g);intro _)|(with_reducible apply Bb;(exact fun _=>Ot _ _ a.d);intro _)|(with_reducible apply Bb;(exact fun _=>jc _ a.d);intro _)|(with_reducible apply Bb;(exact fun _=>OI _ _ a.d (by solve_by_elim));intro _)|(with_reducible apply Bb;(exact fun _=>T3 _ _ h);intro _)|with_reducible refine AD ?_ ?_))<;>first|(intro _;exact key _ _ (by assumption) (by assumption))|(intro _;exact e (by assumption))|exact AK
theorem o87(s:Scm)(m:Msg)(l:List Bool)(h:SzS s)(hm:SzM m)(hl:l.length=s.messages.length):Ok Tr (UV s m l):=by
 have a:=hm.fl
 have q:Ok Ts (Al (QR s m l) Ai 0):=by
  refine Bh (fun v:Nat=>v≤m.fields.length) (fun v:Nat=>m.fields.length-v) (by omega) (Bx (by omega)) fun v b=>?_
  dsimp only[QR,eQ,br,ix,A8,vz,wg,vs,An,ln,Ah,cl,wa,Ag,br]
  (repeat' (first|with_reducible (first|refine AC (fun _=>?_) fun _=>?_|refine AB ?_|refine Bu ?_ fun _ _ _=>?_)|(with_reducible apply Ax;(exact Nm _ _ h);intro _ _)|with_reducible (first|refine EY ?_ fun _=>?_|refine AD ?_ ?_)))<;>exact AK
 dsimp only[UV,gR,dG,dy,lr,lc]
 (repeat' (first|with_reducible (first|refine AC (fun _=>?_) fun _=>?_|refine AB ?_)|(with_reducible apply Bo;(exact q);all_goals(intro _ _;try dsimp only))|with_reducible refine AD ?_ ?_))<;>exact AK
theorem hX(s:Scm)(m:Msg)(l:List Bool)(h:SzS s)(hm:SzM m)(hl:l.length=s.messages.length):Ok Tr (O2 s m l):=by
 have a:=hm.fl
 have q:Ok Ts (Al (Qc s m l) Ai 0):=by
  refine Bh (fun v:Nat=>v≤m.fields.length) (fun v:Nat=>m.fields.length-v) (by omega) (Bx (by omega)) fun v b=>?_
  dsimp only[Qc,oX,br,ix,vz,wg,vs,vg,An,ln,Ah,cl,wa,CM,RI,fl,Ag,br,CM]
  (repeat' (first|with_reducible (first|refine AC (fun _=>?_) fun _=>?_|refine AB ?_|refine Bu ?_ fun _ _ _=>?_)|(with_reducible apply Ax;(exact Nm _ _ h);intro _ _)|with_reducible refine AD ?_ ?_))<;>exact AK
 dsimp only[O2,oO,oG,ou,vz,lr,lc,fl]
 (repeat' (first|with_reducible (first|refine AC (fun _=>?_) fun _=>?_|refine AB ?_)|(with_reducible apply Bo;(exact q);all_goals(intro _ _;try dsimp only))|with_reducible refine AD ?_ ?_))<;>exact AK
theorem uz(s:Scm)(h:SzS s):Ok (fun y=>y.length=s.messages.length) (U9 s):=by
 have g:=h.ml
 have q:∀(v:Nat) (r:List Bool),r.length=s.messages.length→Ok (Sum.elim (fun y:Bool×List Bool=>y.2.length=s.messages.length) No) (Al (Rb s v) Ai (false,0,r)):=by
  intro w r e
  refine Bh (fun v:Bool×Nat×List Bool=>v.2.1≤s.messages.length∧v.2.2.length=s.messages.length) (fun v:Bool×Nat×List Bool=>s.messages.length-v.2.1) ⟨by simp,e⟩ (Bx (by simp;omega)) fun v d=>?_
  obtain⟨b,i,r⟩:=v
  obtain⟨c,a⟩:=d
  dsimp only at c a
  dsimp only[Rb,fy,br,A8,vz,vw,wg,vs,v2,ln,Ah,DQ,wa,ir,ca,st,rn,fl,Ag,br]
  (repeat' (first|with_reducible (first|refine AC (fun _=>?_) fun _=>?_|refine AB ?_|refine Bu ?_ fun _ _ _=>?_)|(with_reducible apply Ax;(exact hX _ _ _ h (h.m _ (by grind)) a);intro _ _)|(with_reducible apply Bb;(exact fun _=>hX _ _ _ h (h.m _ (by grind)) a);intro _)|with_reducible (first|refine EY ?_ fun _=>?_|refine AD ?_ ?_)))<;>exact AK
 have f:Ok (Sum.elim (fun y:List Bool=>y.length=s.messages.length) No) (Al (Rk s) Ai (true,0,List.replicate s.messages.length false)):=by
  refine Bh (fun v:Bool×Nat×List Bool=>v.2.1≤s.messages.length∧v.2.2.length=s.messages.length) (fun v:Bool×Nat×List Bool=>s.messages.length-v.2.1) ⟨by simp,by simp⟩ (Bx (by simp;omega)) fun v d=>?_
  obtain⟨b,i,r⟩:=v
  obtain⟨c,a⟩:=d
  dsimp only at c a
  dsimp only[Rk,dQ,ip,cE,br,vz,wg,vs,v2,ln,Ah,lc,wa,fl,Ag,br]
  (repeat' (first|with_reducible (first|refine AC (fun _=>?_) fun _=>?_|refine AB ?_)|(with_reducible apply Bo;(exact q _ _ a);all_goals(intro _ _;try dsimp only))|with_reducible refine AD ?_ ?_))<;>exact AK
 dsimp only[U9,h9,ei,iX,vz,wg,lr,lc,ms,fl,fr,Ag]
 (repeat' (first|with_reducible (first|refine AC (fun _=>?_) fun _=>?_|refine AB ?_)|(with_reducible apply Bo;(exact f);all_goals(intro _ _;try dsimp only))|with_reducible refine AD ?_ ?_))<;>exact AK
def Dp(l:List Fld)(n:Nat):Prop:=∀(i:Nat) (a b:Fld),i+1<n→l[i]?=some a→l[i+1]?=some b→a.num<b.num
theorem Zsj{l:List Fld}{v:Nat}{a b:Fld}(h:Dp l v)(j:l[v]?=some a)(k:0<v→l[v-1]?=some b∧b.num<a.num):Dp l (v+1):=by
 intro i x y hi c hy
 by_cases e:i+1<v
 ·exact h i x y e c hy
 ·have f:i+1=v:=by omega
  have g:v-1=i:=by omega
  rw[f]at hy
  obtain⟨d,m⟩:=k (by omega)
  rw[g]at d
  rw[j]at hy
  rw[d]at c
  cases c
  cases hy
  exact m
structure GdM0 (s:Scm) (m:Msg):Prop where
 asc:Dp m.fields m.fields.length
 df:∀(j:Nat) (f:Fld),m.fields[j]?=some f→GY f∧I8 f∧Jf s f∧Ld f
def Je(e:Enm):Prop:=∃x,e.items[0]?=some x∧x.num=0
structure GdM (s:Scm) (m:Msg):Prop where
 asc:Dp m.fields m.fields.length
 df:∀(j:Nat) (f:Fld),m.fields[j]?=some f→GY f∧I8 f∧Jf s f∧Ld f
 en:∀(j:Nat) (e:Enm),s.enums[j]?=some e→Je e
theorem ZNI(x:Msg):x.fields.length+x.reserved.length+x.gone.length≤Ap (Au x):=by
 have a:=B9 (e:=Am) x.fields
 have b:=B9 (e:=B7) x.reserved
 have c:=B9 (e:=AQ) x.gone
 simp only[Au,Ap,bk]
 omega
theorem yP(x:Enm):x.items.length+x.reserved.length≤Ap (Bi x):=by
 have a:=B9 (e:=B5) x.items
 have b:=B9 (e:=B7) x.reserved
 simp only[Bi,Ap,bk]
 omega
theorem ym(x:Svc):x.methods.length≤Ap (CK x):=by
 have a:=B9 (e:=FO) x.methods
 simp only[CK,Ap,bk]
 omega
theorem jA(d:ByteArray)(b:Bool)(n e:Int):Ok (fun y=>y.length≤1) (Be d [] b n e):=(Dx d [] b n e (by simp)).mono fun y h=>by simpa using h.2.1
theorem o66(s:Scm)(m:Msg)(l:List Bool)(h:SzS s)(hm:SzM m)(hl:l.length=s.messages.length):Ok (fun y=>y.length≤20*(Ap (Au m)+1)∧(y.length=0→GdM0 s m)) (U4 s m l):=by
 have g:=ZNI m
 have H:=hm.fl
 have q:=hm.r
 have B:=hm.gl
 have F:∀(v:Nat) (r:List Prb) (e:Fld),v≤m.fields.length→Ok (Sum.elim Tr No) (Al (Rs s m l v r e) Ai (false,0)):=by
  intro w r e J
  refine Bh (fun v:Bool×Nat=>v.2≤w) (fun v:Bool×Nat=>w-v.2) (by simp) (Bx (by omega)) fun v k=>?_
  obtain⟨b,i⟩:=v
  dsimp only at k
  dsimp only[Rs,gf,br,ix,vz,wg,vs,ln,Ah,wa,fl,br]
  (repeat' (first|with_reducible (first|refine AC (fun _=>?_) fun _=>?_|refine AB ?_|refine Bu ?_ fun _ _ _=>?_|refine AD ?_ ?_)))<;>exact AK
 have E:∀a:List Prb,a.length≤9→Ok (Sum.elim (fun y:List Prb=>y.length≤9+10*m.fields.length∧(y.length=0→GdM0 s m)) No) (Al (Ry s m l) Ai (0,a)):=by
  intro a o
  refine Bh (fun v:Nat×List Prb=>v.1≤m.fields.length∧v.2.length≤9+10*v.1∧(v.2.length=0→Dp m.fields v.1∧∀(j:Nat) (f:Fld),j<v.1→m.fields[j]?=some f→GY f∧I8 f∧Jf s f∧Ld f)) (fun v:Nat×List Prb=>m.fields.length-v.1) ⟨by simp,by simpa using o,fun _=>⟨fun i x y hi=>by simp at hi,fun j f n=>by simp at n⟩⟩ (Bx (by omega)) fun v k=>?_
  obtain⟨v,r⟩:=v
  obtain⟨t,u,c⟩:=k
  dsimp only at t u c
  dsimp only[Ry,sD,px,qQ,qX,r7,Xn,tr,Xq,rE,sw,qS,W9,pL,XM,o2,Xl,eD,S5,cj,SX,gO,ey,eP,dF,br,ix,A8,vz,wg,vs,vg,ln,Ah,lc,cl,Aw,wa,wi,fl,Ag,br]
  (repeat' (first|with_reducible (first|refine AC (fun _=>?_) fun _=>?_|refine AB ?_|refine Bu ?_ fun _ _ _=>?_)|(with_reducible apply Bo;(exact F _ _ _ (by omega));all_goals(intro _ _;try dsimp only))|(with_reducible apply Ax;(exact Dx _ _ _ _ _ (by omega));intro _ _)|(with_reducible apply Ax;(exact I4 _ (hm.f _ (by assumption)).n);intro _ _)|(with_reducible apply Ax;(exact ZY _ _ q);intro _ _)|(with_reducible apply Ax;(exact uA _ _ B);intro _ _)|(with_reducible apply Ax;(exact uB _);intro _ _)|(with_reducible apply Ax;(exact uC _ _ h);intro _ _)|(with_reducible apply Ax;(exact uD _ _ hm BN);intro _ _)|(with_reducible apply Ax;(exact uE _ _ h (hm.f _ (by assumption)));intro _ _)|(with_reducible apply Ax;(exact H4 _ _ _ _ _ (by omega) (hm.f _ (by assumption)).o);intro _ _)|(with_reducible apply Bb;(exact fun _=>Dx _ _ _ _ _ (by omega));intro _)|(with_reducible apply Bb;(exact fun _=>I4 _ (hm.f _ (by assumption)).n);intro _)|(with_reducible apply Bb;(exact fun _=>ZY _ _ q);intro _)|(with_reducible apply Bb;(exact fun _=>uA _ _ B);intro _)|(with_reducible apply Bb;(exact fun _=>uB _);intro _)|(with_reducible apply Bb;(exact fun _=>uC _ _ h);intro _)|(with_reducible apply Bb;(exact fun _=>uD _ _ hm BN);intro _)|(with_reducible apply Bb;(exact fun _=>uE _ _ h (hm.f _ (by assumption)));intro _)|(with_reducible apply Bb;(exact fun _=>H4 _ _ _ _ _ (by omega) (hm.f _ (by assumption)).o);intro _)|with_reducible (first|refine EY ?_ fun _=>?_|refine AD ?_ ?_)))
  all_goals try exact BN
  have D:=‹decide (0<(v:Int))=true→m.fields[((v:Int)-1).toNat]?=some (m.fields.getD ((v:Int)-1).toNat Rw.z)∧_›
  have he:=‹m.fields[v]?=some _›
  dsimp only
  refine⟨⟨by exact BN,by omega,fun p=>⟨Zsj (b:=m.fields.getD ((v:Int)-1).toNat Rw.z) (c (by omega)).1 he fun k=>?_,fun j f n d=>?_⟩⟩,by exact BN⟩
  have ev:((v:Int)-1).toNat=v-1:=by omega
  refine⟨ev▸(D (Y6 (by omega))).1,?_⟩
  rcases Int.lt_or_le (m.fields.getD ((v:Int)-1).toNat Rw.z).num (Fld.num _)with A|z
  ·exact A
  ·exfalso
   have I:=Yb _ _▸And.intro (Y6 (show(0:Int)<v by omega)) (Y6 z)
   grind
  ·rcases Nat.lt_or_eq_of_le (Nat.le_of_lt_succ n)with n|rfl
   ·exact(c (by omega)).2 j f n d
   ·rw[he]at d
    cases d
    refine⟨(show _=true→GY _ by assumption) (Lj fun g=>?_),(show _=true→I8 _ by assumption) (Lj fun g=>?_),(show _=true→Jf s _ by assumption) (Lj fun g=>?_),(show _=true→∀f,m.fields[j]?=some f→Ld f by assumption) (Lj fun g=>?_) _ he⟩
    all_goals(
     rw[Bool.not_eq_true]at g
     subst g
     simp only[YW,Hc]at*
     omega)
  have C:v=m.fields.length:=by exact BN
  subst C
  exact⟨by exact BN,fun p=>⟨(c p).1,fun j f d=>(c p).2 j f (Yd.1 d).1 d⟩⟩
 have G:∀a:List Prb,a.length≤20000000→Ok (Sum.elim (fun y:List Prb=>a.length≤y.length∧y.length≤a.length+m.gone.length) No) (Al (Rc s m l) Ai (0,a)):=by
  intro a o
  refine Bh (fun v:Nat×List Prb=>v.1≤m.gone.length∧v.2.length≤a.length+v.1∧a.length≤v.2.length) (fun v:Nat×List Prb=>m.gone.length-v.1) ⟨by simp,by simp,by simp⟩ (Bx (by omega)) fun v k=>?_
  obtain⟨v,r⟩:=v
  obtain⟨t,u,c⟩:=k
  dsimp only at t u c
  dsimp only[Rc,pZ,to,sP,tj,br,ix,vz,wg,vs,ln,Ah,lc,cl,wa,fl,Ag,br]
  (repeat' (first|with_reducible (first|refine AC (fun _=>?_) fun _=>?_|refine AB ?_|refine Bu ?_ fun _ _ _=>?_)|(with_reducible apply Ax;(exact Dx _ _ _ _ _ (by omega));intro _ _)|(with_reducible apply Ax;(exact ZZ _ (hm.g _ (by assumption)));intro _ _)|with_reducible refine AD ?_ ?_))<;>exact AK
 dsimp only[U4,rP,td,sB,pQ,tO,th,q6,qB,pT,tc,rN,qO,si,sk,vz,vy,vw,wg,lr,lc,cl,fl,fr,Ag]
 (repeat' (first|with_reducible (first|refine AC (fun _=>?_) fun _=>?_|refine AB ?_)|(with_reducible apply Bo;(exact E _ BN);all_goals(intro _ _;try dsimp only))|(with_reducible apply Bo;(exact G _ (by omega));all_goals(intro _ _;try dsimp only))|(with_reducible apply Ax;(exact ZX _ hm.n);intro _ _)|(with_reducible apply Ax;(exact jA _ _ _ _);intro _ _)|(with_reducible apply Ax;(exact Dx _ _ _ _ _ (by omega));intro _ _)|(with_reducible apply Ax;(exact H4 _ _ _ _ _ (by omega) hm.o);intro _ _)|(with_reducible apply Ax;(exact uF _ _ _ _ _ (by omega) q);intro _ _)|(with_reducible apply Ax;(exact o87 _ _ _ h hm hl);intro _ _)|with_reducible refine AD ?_ ?_))<;>exact AK
theorem o67(e:Enm)(hm:SzE e):Ok (fun y=>y.length≤20*(Ap (Bi e)+1)∧(y.length=0→Je e)) (UZ e):=by
 have z:=yP e
 have u:=hm.il
 have g:=hm.r
 have q:∀(v:Nat) (r:List Prb) (x:Itm),v≤e.items.length→Ok (Sum.elim Tr No) (Al (QZ e v r x) Ai (false,0)):=by
  intro w r x A
  refine Bh (fun v:Bool×Nat=>v.2≤w) (fun v:Bool×Nat=>w-v.2) (by simp) (Bx (by omega)) fun v f=>?_
  obtain⟨b,i⟩:=v
  dsimp only at f
  dsimp only[QZ,dR,br,ix,vz,wg,vs,ln,Ah,wa,fl,br]
  (repeat' (first|with_reducible (first|refine AC (fun _=>?_) fun _=>?_|refine AB ?_|refine Bu ?_ fun _ _ _=>?_|refine AD ?_ ?_)))<;>exact AK
 have p:∀a:List Prb,a.length≤9→Ok (Sum.elim (fun y:List Prb=>a.length≤y.length∧y.length≤9+10*e.items.length) No) (Al (QU e) Ai (0,a)):=by
  intro a d
  refine Bh (fun v:Nat×List Prb=>v.1≤e.items.length∧a.length≤v.2.length∧v.2.length≤9+10*v.1) (fun v:Nat×List Prb=>e.items.length-v.1) ⟨by simp,by simp,by simpa using d⟩ (Bx (by omega)) fun v f=>?_
  obtain⟨v,r⟩:=v
  obtain⟨m,o,n⟩:=f
  dsimp only at m n o
  dsimp only[QU,s7,sn,sA,qf,pI,Xa,sp,XE,dc,fN,i3,Ta,iY,fm,io,gb,br,ix,A8,vz,wg,vs,vg,ln,Ah,lc,cl,wa,wi,fl,Ag,br]
  (repeat' (first|with_reducible (first|refine AC (fun _=>?_) fun _=>?_|refine AB ?_|refine Bu ?_ fun _ _ _=>?_)|(with_reducible apply Bo;(exact q _ _ _ (by omega));all_goals(intro _ _;try dsimp only))|(with_reducible apply Ax;(exact Dx _ _ _ _ _ (by omega));intro _ _)|(with_reducible apply Ax;(exact I4 _ (hm.i _ (by assumption)).n);intro _ _)|(with_reducible apply Ax;(exact ZY _ _ g);intro _ _)|(with_reducible apply Ax;(exact H4 _ _ _ _ _ (by omega) (hm.i _ (by assumption)).o);intro _ _)|with_reducible (first|refine EY ?_ fun _=>?_|refine AD ?_ ?_)))<;>exact AK
 dsimp only[UZ,qP,qs,pk,rp,po,pc,rH,rr,p9,sX,rS,ub,pn,A8,vz,vy,vw,wg,lr,lc,cl,fl,fr,Ag]
 (repeat' (first|with_reducible (first|refine AC (fun _=>?_) fun _=>?_|refine AB ?_)|(with_reducible apply Bo;(exact p _ BN);all_goals(intro _ _;try dsimp only))|(with_reducible apply Ax;(exact ZX _ hm.n);intro _ _)|(with_reducible apply Ax;(exact Dx _ _ _ _ _ BN);intro _ _)|(with_reducible apply Ax;(exact H4 _ _ _ _ _ (by omega) hm.o);intro _ _)|(with_reducible apply Ax;(exact uF _ _ _ _ _ (by omega) g);intro _ _)|with_reducible (first|refine EY ?_ fun _=>?_|refine AD ?_ ?_)))
 all_goals try exact AK
 rename_i B a0 C a1 D k x E a3 b a4 F a5 G s
 refine⟨by exact BN,fun t=>?_⟩
 have l:¬(e.items.length:Int)<1:=fun h=>by
  have:=k.2.2 (by simp only[h,Yq,Hb])
  omega
 have j:(0:Int)<e.items.length:=by omega
 refine⟨_,(x (Y6 j)).1,Decidable.not_not.1 fun c=>?_⟩
 have:=a3.2.2 (by simp only[j,c,Yq,YG,YW,Ii])
 omega
theorem o68(s:Scm)(e:Svc)(h:SzS s)(hm:SzW e):Ok (fun y=>y.length≤20*(Ap (CK e)+1)) (U5 s e):=by
 have j:=ym e
 have i:=hm.ml
 have g:∀b:List Prb,b.length≤9→Ok (Sum.elim (fun y:List Prb=>y.length≤9+10*e.methods.length) No) (Al (Rr s e) Ai (0,b)):=by
  intro b a
  refine Bh (fun v:Nat×List Prb=>v.1≤e.methods.length∧v.2.length≤9+10*v.1) (fun v:Nat×List Prb=>e.methods.length-v.1) ⟨by simp,by simpa using a⟩ (Bx (by omega)) fun v f=>?_
  obtain⟨v,r⟩:=v
  obtain⟨c,d⟩:=f
  dsimp only at c d
  dsimp only[Rr,qg,rU,sJ,qc,Zt,b7,cH,cI,cY,dg,ic,cV,fQ,br,ix,A8,vz,wg,vs,vg,ln,Ah,lc,cl,Aw,wa,wi,fl,Ag,br]
  (repeat' (first|with_reducible (first|refine AC (fun _=>?_) fun _=>?_|refine AB ?_|refine Bu ?_ fun _ _ _=>?_)|(with_reducible apply Ax;(exact Dx _ _ _ _ _ (by omega));intro _ _)|(with_reducible apply Ax;(exact Nm _ _ h);intro _ _)|(with_reducible apply Ax;(exact I4 _ (hm.m _ (by assumption)).n);intro _ _)|(with_reducible apply Ax;(exact H4 _ _ _ _ _ (by omega) (hm.m _ (by assumption)).o);intro _ _)|(with_reducible apply Bb;(exact fun _=>Dx _ _ _ _ _ (by omega));intro _)|(with_reducible apply Bb;(exact fun _=>Nm _ _ h);intro _)|(with_reducible apply Bb;(exact fun _=>I4 _ (hm.m _ (by assumption)).n);intro _)|(with_reducible apply Bb;(exact fun _=>H4 _ _ _ _ _ (by omega) (hm.m _ (by assumption)).o);intro _)|with_reducible (first|refine EY ?_ fun _=>?_|refine AD ?_ ?_)))<;>exact AK
 dsimp only[U5,pO,rR,rZ,sW,qA,tW,rQ,tg,pF,vz,vw,wg,lr,lc,cl,fl,fr,Ag]
 (repeat' (first|with_reducible (first|refine AC (fun _=>?_) fun _=>?_|refine AB ?_)|(with_reducible apply Bo;(exact g _ BN);all_goals(intro _ _;try dsimp only))|(with_reducible apply Ax;(exact ZX _ hm.n);intro _ _)|(with_reducible apply Ax;(exact jA _ _ _ _);intro _ _)|(with_reducible apply Ax;(exact Dx _ _ _ _ _ (by omega));intro _ _)|(with_reducible apply Ax;(exact H4 _ _ _ _ _ (by omega) hm.o);intro _ _)|with_reducible refine AD ?_ ?_))<;>exact AK
structure Few (s:Scm):Prop where
 m:s.messages.length≤150
 e:s.enums.length≤150
 w:s.services.length≤150
theorem o37{s:Scm}(hs:Ap (Ak s)≤1048576):Ok (fun y=>y.length=0→(∀(i:Nat) (m:Msg),s.messages[i]?=some m→GdM0 s m)∧∀(i:Nat) (e:Enm),s.enums[i]?=some e→Je e) (Vi s):=by
 have h:=Ef hs
 have u:=h.ml
 have w:=h.el
 have x:=h.wl
 have t:Bp (s.messages.map Au)+Bp (s.enums.map Bi)+Bp (s.services.map CK)≤1048576:=by
  simp only[Ak,Ap,bk]at hs
  omega
 have n:Ok (Sum.elim (fun y:List Prb=>y.length≤9) No) (Al (RF s) Ai (1,[])):=by
  refine Bh (fun v:Nat×List Prb=>1≤v.1∧v.1≤4∧v.2.length≤2*v.1) (fun v:Nat×List Prb=>4-v.1) ⟨by simp,by simp,by simp⟩ (Bx (by omega)) fun v g=>?_
  obtain⟨v,r⟩:=v
  obtain⟨c,d,f⟩:=g
  dsimp only at c d f
  dsimp only[RF,dV,iU,bS,bK,dB,et,i6,br,vz,wg,vs,ln,Ah,lc,cl,wa,fl,Ag,br]
  (repeat' (first|with_reducible (first|refine AC (fun _=>?_) fun _=>?_|refine AB ?_)|(with_reducible apply Ax;(exact ZW _ _ h);intro _ _)|(with_reducible apply Ax;(exact Dx _ _ _ _ _ (by omega));intro _ _)|(with_reducible apply Ax;(exact o63 _ (by assumption));intro _ _)|with_reducible refine AD ?_ ?_))<;>exact AK
 have o:∀(a:List Prb) (l:List Bool),a.length≤10→l.length=s.messages.length→Ok (Sum.elim (fun y:List Prb=>y.length≤20971540∧(y.length=0→∀(i:Nat) (m:Msg),s.messages[i]?=some m→GdM0 s m)) No) (Al (Q6 s l) Ai (0,a)):=by
  intro a l b hl
  refine Bh (fun v:Nat×List Prb=>v.1≤s.messages.length∧v.2.length≤10+20*Bp ((s.messages.take v.1).map Au)∧(v.2.length=0→∀(i:Nat) (m:Msg),i<v.1→s.messages[i]?=some m→GdM0 s m)) (fun v:Nat×List Prb=>s.messages.length-v.1) ⟨by simp,ER b (N1 _ _),fun _ i m hi=>by simp at hi⟩ (Bx (by omega)) fun v g=>?_
  obtain⟨v,r⟩:=v
  obtain⟨c,d,f⟩:=g
  dsimp only at c d f
  have a1:=Kd Au s.messages v
  have j:=Kd Au s.messages (v+1)
  dsimp only[Q6,sh,Te,SH,br,ix,vz,wg,vs,ln,Ah,lc,aq,cl,wa,tw,fl,Ag,br]
  (repeat' (first|with_reducible (first|refine AC (fun _=>?_) fun _=>?_|refine AB ?_|refine Bu ?_ fun _ _ _=>?_)|(with_reducible apply Ax;(exact o66 _ _ _ h (h.m _ (by assumption)) hl);intro _ _)|with_reducible refine AD ?_ ?_))<;>first|(have a3:=V7 Au ‹s.messages[v]?=some _›;exact AK)|exact AK
 have p:∀a:List Prb,a.length≤20971540→Ok (Sum.elim (fun y:List Prb=>a.length≤y.length∧y.length≤41943080∧(y.length=0→∀(i:Nat) (e:Enm),s.enums[i]?=some e→Je e)) No) (Al (Q1 s) Ai (0,a)):=by
  intro a b
  refine Bh (fun v:Nat×List Prb=>v.1≤s.enums.length∧v.2.length≤20971540+20*Bp ((s.enums.take v.1).map Bi)∧a.length≤v.2.length∧(v.2.length=0→∀(i:Nat) (e:Enm),i<v.1→s.enums[i]?=some e→Je e)) (fun v:Nat×List Prb=>s.enums.length-v.1) ⟨by simp,ER b (N1 _ _),by simp,fun _ i e hi=>by simp at hi⟩ (Bx (by omega)) fun v g=>?_
  obtain⟨v,r⟩:=v
  obtain⟨c,d,f,k⟩:=g
  dsimp only at c d f k
  have a1:=Kd Bi s.enums v
  have j:=Kd Bi s.enums (v+1)
  dsimp only[Q1,p5,XX,W8,br,ix,vz,wg,vs,ln,Ah,lc,aq,cl,wa,tw,fl,Ag,br]
  (repeat' (first|with_reducible (first|refine AC (fun _=>?_) fun _=>?_|refine AB ?_|refine Bu ?_ fun _ _ _=>?_)|(with_reducible apply Ax;(exact o67 _ (h.e _ (by assumption)));intro _ _)|with_reducible refine AD ?_ ?_))<;>first|(have a3:=V7 Bi ‹s.enums[v]?=some _›;exact AK)|exact AK
 have q:∀a:List Prb,a.length≤41943080→Ok (Sum.elim (fun y:List Prb=>a.length≤y.length) No) (Al (RA s) Ai (0,a)):=by
  intro a b
  refine Bh (fun v:Nat×List Prb=>v.1≤s.services.length∧v.2.length≤41943080+20*Bp ((s.services.take v.1).map CK)∧a.length≤v.2.length) (fun v:Nat×List Prb=>s.services.length-v.1) ⟨by simp,ER b (N1 _ _),by simp⟩ (Bx (by omega)) fun v g=>?_
  obtain⟨v,r⟩:=v
  obtain⟨c,d,f⟩:=g
  dsimp only at c d f
  have a1:=Kd CK s.services v
  have j:=Kd CK s.services (v+1)
  dsimp only[RA,sE,XQ,Xx,br,ix,vz,wg,vs,ln,Ah,lc,aq,cl,wa,tw,fl,Ag,br]
  (repeat' (first|with_reducible (first|refine AC (fun _=>?_) fun _=>?_|refine AB ?_|refine Bu ?_ fun _ _ _=>?_)|(with_reducible apply Ax;(exact o68 _ _ h (h.w _ (by assumption)));intro _ _)|with_reducible refine AD ?_ ?_))<;>first|(have a3:=V7 CK ‹s.services[v]?=some _›;exact AK)|exact AK
 dsimp only[Vi,ug,qb,sT,qT,sZ,sK,tP,tb,pP,pg,pJ,pX,vz,vw,wg,lr,lc,cl,Aw,fl,fr]
 (repeat' (first|with_reducible (first|refine AC (fun _=>?_) fun _=>?_|refine AB ?_)|(with_reducible apply Bo;(exact n);all_goals(intro _ _;try dsimp only))|(with_reducible apply Bo;(exact o _ _ (by omega) (by assumption));all_goals(intro _ _;try dsimp only))|(with_reducible apply Bo;(exact p _ (by omega));all_goals(intro _ _;try dsimp only))|(with_reducible apply Bo;(exact q _ (by omega));all_goals(intro _ _;try dsimp only))|(with_reducible apply Ax;(exact ZW _ _ h);intro _ _)|(with_reducible apply Ax;(exact uy _ _ (by assumption) (by assumption));intro _ _)|(with_reducible apply Ax;(exact uz _ h);intro _ _)|(with_reducible apply Ax;(exact Dx _ _ _ _ _ (by omega));intro _ _)|(with_reducible apply Bb;(exact fun _=>ZW _ _ h);intro _)|(with_reducible apply Bb;(exact fun _=>uy _ _ (by assumption) (by assumption));intro _)|(with_reducible apply Bb;(exact fun _=>uz _ h);intro _)|(with_reducible apply Bb;(exact fun _=>Dx _ _ _ _ _ (by omega));intro _)|with_reducible refine AD ?_ ?_))<;>exact AK
theorem o16{s:Scm}(hs:Ap (Ak s)≤1048576):Ok (fun b=>b=true→∀(i:Nat) (m:Msg),s.messages[i]?=some m→GdM s m) (O3 s):=by
 have k:Ok (fun b=>b=true→(∀(i:Nat) (m:Msg),s.messages[i]?=some m→GdM0 s m)∧∀(i:Nat) (e:Enm),s.enums[i]?=some e→Je e) (O3 s):=by
  dsimp only[O3,kM,vz,wg,lr,cl,Ag]
  (repeat' (first|with_reducible (first|refine AC (fun _=>?_) fun _=>?_|refine AB ?_)|(with_reducible apply Ax;(exact o37 hs);intro _ _)|with_reducible refine AD ?_ ?_))<;>exact AK
 exact k.mono fun b h a i m hm=>⟨((h a).1 i m hm).asc,((h a).1 i m hm).df,(h a).2⟩
abbrev A6(v:Val):Prop:=Ap (Ae v)≤1048576
theorem Q3{v x:Val}(h:A6 v)(b:x∈v.list):A6 x:=by
 have a:=Cs (e:=AF) b
 rw[Gb]at a
 unfold A6 at*
 conv at h=>unfold Ae
 simp only[Ap,bk]at h
 omega
theorem MS{v:Val}{x:Pr}(h:A6 v)(b:x∈v.pairs):A6 x.key∧A6 x.val:=by
 have a:=Cs (e:=Ay) b
 have e:Ay x=Ae x.key++Ae x.val:=by rw[Kj];rfl
 rw[e,MC]at a
 unfold A6 at*
 conv at h=>unfold Ae
 simp only[Ap,bk]at h
 omega
theorem QN{v:Val}{x:Slt}(h:A6 v)(b:x∈v.slots):A6 x.val:=by
 have a:=Cs (e:=At) b
 have e:At x=D.int .i64 x.num::Ae x.val:=by rw[Kh];rfl
 rw[e,Ap]at a
 unfold A6 at*
 conv at h=>unfold Ae
 simp only[Ap,bk]at h
 omega
theorem Wu{α:Type}(p:α→Bool):∀l:List α,l.find? p=(l.findIdx? p).bind fun i=>l[i]?
 |[]=>rfl
 |x::l=>by
  rw[List.find?_cons,List.findIdx?_cons]
  cases h:p x with
  |true=>simp
  |false=>
   rw[Wu p l]
   cases List.findIdx? p l<;>simp
def Cz{α:Type}[Inhabited α](l:List α)(z:α)(p:α→Bool):α×Bool:=(l.find? p).elim (z,false) fun x=>(x,true)
theorem Kg{α:Type}[Inhabited α](l:List α)(z:α)(p:α→Bool):Cz l z p=match l.findIdx? p with|some i=>(l.getD i default,true)|none=>(z,false):=by
 unfold Cz
 rw[Wu]
 cases h:l.findIdx? p with
 |none=>rfl
 |some i=>
  have:=(NP.1 h).1
  simp[this]
def zM:Msg:=.mk ⟨#[]⟩ [] [] [] []
def zF:Fld:=.mk 0 ⟨#[]⟩ 0 0 (.mk 0 ⟨#[]⟩) ⟨#[]⟩ false (.mk 0 0 ⟨#[]⟩ [] [] [] []) []
theorem uv(s:Scm)(n:ByteArray)(h:s.messages.length≤1048576):L5 s n=some (Cz s.messages zM fun m=>decide (m.name=n)):=by
 have d:=DE (B:=M8 s n) (N:=Ai) s.messages (fun m=>decide (m.name=n)) (fun i=>(s.messages.getD i default,true)) () (fun i x a=>by
  have b:=BF a
  have e:=(Yd.1 a).1
  have c:i+1<9223372036854775808:=by omega
  dsimp only[M8,Zk,br,ix,vz,wg,vs,An,ln,Ah,wa,Ag,br]
  simp only[b,c,a,Yq,Yv,Yc,Yu,YE]
  cases decide (x.name=n)<;>simp) (by simp[M8,Zk,br,ix,vz,wg,vs,An,ln,Ah,wa,Ag,br]) (A9 (by omega))
 dsimp only[L5,gm,eq,gK,wg,lr,lc]
 rw[d,Kg]
 cases s.messages.findIdx? fun m=>decide (m.name=n)<;>rfl
theorem m84(l:List Msg)(n:ByteArray)(h:l.length≤1048576):Pa l (fun z=>J3 z n)=some (Cz l zM fun m=>decide (m.name=n)):=by
 have d:=DE (B:=M0 l fun z=>J3 z n) (N:=Ai) l (fun m=>decide (m.name=n)) (fun i=>(l.getD i default,true)) () (fun i x a=>by
  have b:=BF a
  have f:=(Yd.1 a).1
  have c:i+1<9223372036854775808:=by omega
  have e:J3 x n=some (decide (x.name=n)):=rfl
  dsimp only[M0,SS,br,ix,wg,vs,An,ln,Ah,cf,wa,br]
  simp only[b,c,a,e,Yq,Yv,Yc,Yu,YE]
  cases decide (x.name=n)<;>simp) (by simp[M0,SS,br,ix,wg,vs,An,ln,Ah,cf,wa,br]) (A9 (by omega))
 dsimp only[Pa,ed,bg,gj,vz,wg,lr,lc,Ag]
 rw[d,Kg]
 cases l.findIdx? fun m=>decide (m.name=n)<;>rfl
theorem P9{s:Scm}(h:SzS s)(n:ByteArray):(Cz s.messages zM fun m=>decide (m.name=n)).1.fields.length≤1048576:=by
 unfold Cz
 cases e:s.messages.find? fun m=>decide (m.name=n)with
 |none=>simp[zM]
 |some m=>exact(h.m _ (Jo e)).fl
theorem fE{v x:Val}(b:x∈v.list):Ap (Ae x)<Ap (Ae v):=by
 have a:=Cs (e:=AF) b
 rw[Gb]at a
 conv=>rhs;unfold Ae
 simp only[Ap,bk]
 omega
theorem SP{v:Val}{x:Pr}(c:x∈v.pairs):Ap (Ae x.key)<Ap (Ae v)∧Ap (Ae x.val)<Ap (Ae v):=by
 have b:=Cs (e:=Ay) c
 have e:Ay x=Ae x.key++Ae x.val:=by rw[Kj];rfl
 rw[e,MC]at b
 have a:Ap (Ae v)=Ap [.int .i64 v.kind,.int .u64 v.bits,.str v.text,.list (v.list.map AF),.list (v.pairs.map Ay),.list (v.slots.map At),.list (v.raws.map A4)]:=rfl
 rw[a]
 simp only[Ap,bk]
 omega
theorem bV{v:Val}{x:Slt}(c:x∈v.slots):Ap (Ae x.val)<Ap (Ae v):=by
 have a:=Cs (e:=At) c
 have e:At x=D.int .i64 x.num::Ae x.val:=by rw[Kh];rfl
 rw[e,Ap]at a
 have b:Ap (Ae v)=Ap [.int .i64 v.kind,.int .u64 v.bits,.str v.text,.list (v.list.map AF),.list (v.pairs.map Ay),.list (v.slots.map At),.list (v.raws.map A4)]:=rfl
 rw[b]
 simp only[Ap,bk]at a⊢
 omega
def BG(F:List Fld)(k:Int):Fld×Bool:=Cz F zF fun f=>decide (f.num=k)
def A0(F:List Fld)(k:Int):Fld:=(BG F k).1
def GT(s:Scm)(n:ByteArray):List Fld:=(Cz s.messages zM fun m=>decide (m.name=n)).1.fields
theorem ux(s:Scm)(n:ByteArray)(h:s.messages.length≤1048576):Mi s n=some (Cz s.messages zM fun m=>decide (m.name=n)):=by
 dsimp only[Mi,iP,wg,lr,cs]
 rw[m84 _ _ h]
 rfl
theorem n74(l:List Fld)(k:Int)(h:l.length≤1048576):O5 l (fun z=>J2 z k)=some (BG l k):=by
 have d:=DE (B:=Na l fun z=>J2 z k) (N:=Ai) l (fun f=>decide (f.num=k)) (fun i=>(l.getD i default,true)) () (fun i x a=>by
  have b:=BF a
  have g:=(Yd.1 a).1
  have c:i+1<9223372036854775808:=by omega
  have e:J2 x k=some (decide (x.num=k)):=rfl
  dsimp only[Na,Zg,br,ix,wg,vs,An,ln,Ah,cf,wa,br]
  simp only[b,c,a,e,Yq,Yv,Yc,Yu,YE]
  cases decide (x.num=k)<;>simp) (by simp[Na,Zg,br,ix,wg,vs,An,ln,Ah,cf,wa,br]) (A9 (by omega))
 dsimp only[O5,cJ,gt,iE,vz,wg,lr,lc,Ag]
 unfold BG
 rw[d,Kg]
 cases l.findIdx? fun m=>decide (m.num=k)<;>rfl
theorem uw(m:Msg)(k:Int)(h:m.fields.length≤1048576):VM m k=some (BG m.fields k):=by
 dsimp only[VM,gc,wg,lr,cs]
 rw[n74 _ _ h]
 rfl
theorem ZT(m:Msg)(k:Int)(h:m.fields.length≤1048576):UN m k=some (BG m.fields k):=by
 have d:=DE (B:=Nb m k) (N:=Ai) m.fields (fun f=>decide (f.num=k)) (fun i=>(m.fields.getD i default,true)) () (fun i x a=>by
  have b:=BF a
  have e:=(Yd.1 a).1
  have c:i+1<9223372036854775808:=by omega
  dsimp only[Nb,SQ,br,ix,vz,wg,vs,An,ln,Ah,wa,Ag,br]
  simp only[b,c,a,Yq,Yv,Yc,Yu,YE]
  cases decide (x.num=k)<;>simp) (by simp[Nb,SQ,br,ix,vz,wg,vs,An,ln,Ah,wa,Ag,br]) (A9 (by omega))
 dsimp only[UN,dU,iv,b9,wg,lr,lc]
 unfold BG
 rw[d,Kg]
 cases m.fields.findIdx? fun f=>decide (f.num=k)<;>rfl
def FW{α:Type}(l:List α)(p:α→Bool):Int:=match l.findIdx? p with
 |some i=>(i:Int)
 |none=>-1
theorem vi{α:Type}(l:List α)(p:α→Bool):decide (0≤FW l p)=l.any p:=by
 unfold FW
 rw[←Jl]
 cases l.findIdx? p with
 |none=>rfl
 |some i=>simp
theorem n70(l:List Slt)(f:Slt→Option Bool)(p:Slt→Bool)(e:∀x∈l,f x=some (p x))(h:l.length<4611686018427387904):Pm l f=some (FW l p):=by
 have g:=DE (B:=MR l f) (N:=Ai) l p (fun i=>(i:Int)) () (fun i x a=>by
  have b:=BF a
  have j:=(Yd.1 a).1
  have c:i+1<9223372036854775808:=by omega
  have d:=e x (Yn a)
  dsimp only[MR,XP,br,ix,vs,An,ln,Ah,cf,wa,br]
  simp only[b,c,d,a,Yq,Yv,Yc]
  cases p x<;>simp) (by simp[MR,XP,br,ix,vs,An,ln,Ah,cf,wa,br]) (A9 h)
 dsimp only[Pm,qi,qL,sm,vz,lr,lc,Ag]
 rw[g]
 unfold FW
 cases l.findIdx? p<;>rfl
def CH(l:List Slt)(k:Int):Bool:=l.any fun x=>decide (x.num=k)
theorem b8{v:Val}{x:Raw}(h:A6 v)(b:x∈v.raws):x.data.size≤1048576:=by
 have a:=Cs (e:=A4) b
 unfold A6 at h
 conv at h=>unfold Ae
 simp only[Ap,bk,A4]at h a
 omega
theorem WG{F:List Fld}{k:Int}(h:(BG F k).2=true):(A0 F k).num=k:=by
 unfold A0 BG Cz at*
 cases e:F.find? fun f=>decide (f.num=k)with
 |none=>rw[e]at h;cases h
 |some f=>exact El (p:=f.num=k) (List.find?_some (p:=fun f:Fld=>decide (f.num=k)) e)
abbrev QV:=Scm→Fld→Val→Int→Bool→Option Int
end Go.Proofs.YtopncadjpnkjhaaGreatDoor
