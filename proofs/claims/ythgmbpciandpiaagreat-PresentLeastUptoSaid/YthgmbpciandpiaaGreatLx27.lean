import Derived.Test.YthgmbpciandpiaaGreatLx26
import Derived.Test.YthgmbpciandpiaaGreatLx25
import Derived.Test.YthgmbpciandpiaaGreatLx00
namespace Go.Proofs.YthgmbpciandpiaaGreat
set_option linter.all false
open Go Go.Eng
theorem KW(l:List ByteArray)(n:Int)(h:l.length≤1048576)(b:0≤n)(a:n≤400):Ok (fun y:Int=>0≤y∧y≤1048986∧(l.length≤10→(l.length:Int)≤y)) (eL l n):=by
 have q:Ok (Sum.elim Tr fun y:Int=>10≤y∧y≤410) (Am (VO l n) Ai 0):=by
  refine A8 (fun v:Nat=>v≤l.length) (fun v:Nat=>l.length-v) (by omega) (Bm (by omega)) fun v c=>?_
  dsimp only[VO,aR,br,ix,vz,vs,Au,ln,Aj,wa,wi,Ah,A7,br]
  (repeat' (first|with_reducible (first|refine AG (fun _=>?_) fun _=>?_|refine AD ?_|refine Bn ?_ fun _ _ _=>?_|refine AK ?_ ?_)))<;>exact AQ
 dsimp only[eL,bh,aP,bI,vz,lr,lc,Ah]
 (repeat' (first|with_reducible (first|refine AG (fun _=>?_) fun _=>?_|refine AD ?_)|(with_reducible apply Bh;(exact q);all_goals(intro _ _;try dsimp only))|with_reducible refine AK ?_ ?_))<;>exact AQ
theorem Ni(l:List Nt)(n:Int)(h:GU l)(e:0≤n)(c:n≤400):Ok (fun y:Int=>0≤y∧y≤1048986) (eI l n):=by
 obtain⟨d,b⟩:=h
 have g:∀x∈l,x.val.list.length≤1048576:=fun x a=>(b x a).v.l
 have i:∀x∈l,x.val.pairs.length≤1048576:=fun x a=>(b x a).v.p
 have j:∀x∈l,x.val.slots.length≤1048576:=fun x a=>(b x a).v.s
 have k:∀x∈l,x.val.raws.length≤1048576:=fun x a=>(b x a).v.r
 have q:Ok (Sum.elim Tr fun y:Int=>10≤y∧y≤410) (Am (Rl l n) Ai 0):=by
  refine A8 (fun v:Nat=>v≤l.length) (fun v:Nat=>l.length-v) (by omega) (Bm (by omega)) fun v f=>?_
  dsimp only[Rl,aD,br,ix,vz,vy,wg,vs,vg,Au,ln,Aj,wa,wi,Ah,A7,br]
  (repeat' (first|with_reducible (first|refine AG (fun _=>?_) fun _=>?_|refine AD ?_|refine Bn ?_ fun _ _ _=>?_|refine AK ?_ ?_)))<;>exact AQ
 dsimp only[eI,cu,bx,Z3,vz,lr,lc,Ah]
 (repeat' (first|with_reducible (first|refine AG (fun _=>?_) fun _=>?_|refine AD ?_)|(with_reducible apply Bh;(exact q);all_goals(intro _ _;try dsimp only))|with_reducible refine AK ?_ ?_))<;>exact AQ
theorem o15(s:Scm)(h:SzS s):Ok (fun b=>b=true→Few s) (eY s):=by
 have u:=h.ml
 have z:=h.el
 have A:=h.wl
 have l:∀(v:Nat) (m:Msg) (n:Int),SzM m→ -10000000≤n→n≤400→Ok (Sum.elim (fun y:Int=>-10000000≤y∧y≤400) No) (Am (Rn s v m) Ai (n,0)):=by
  intro w m n hm g f
  have j:=hm.fl
  refine A8 (fun v:Int×Nat=>v.2≤m.fields.length∧ -10000000≤v.1∧v.1≤400) (fun v:Int×Nat=>m.fields.length-v.2) ⟨by omega,by omega,by omega⟩ (Bm (by omega)) fun v e=>?_
  obtain⟨n,v⟩:=v
  obtain⟨c,d,a⟩:=e
  dsimp only at c d a
  dsimp only[Rn,aS,br,ix,vz,wg,vs,v2,ln,Aj,cl,wa,wi,Ah,A7,br]
  (repeat' (first|with_reducible (first|refine AG (fun _=>?_) fun _=>?_|refine AD ?_|refine Bn ?_ fun _ _ _=>?_)|(with_reducible apply AE;(exact Ni _ _ (hm.f _ (by assumption)).o A0 a);intro _ _)|(with_reducible apply AE;(exact KW _ _ (by simp) A0 a);intro _ _)|with_reducible refine AK ?_ ?_))<;>exact AQ
 have k:Ok (Sum.elim (fun y:Int=>-10000000≤y∧y≤400) No) (Am (VN s) Ai (400,0)):=by
  refine A8 (fun v:Int×Nat=>v.2≤s.messages.length∧ -10000000≤v.1∧v.1≤400) (fun v:Int×Nat=>s.messages.length-v.2) ⟨by omega,by omega,by omega⟩ (Bm (by omega)) fun v e=>?_
  obtain⟨n,v⟩:=v
  obtain⟨c,d,a⟩:=e
  dsimp only at c d a
  dsimp only[VN,ZL,aJ,Zo,br,ix,vz,wg,vs,v2,ln,Aj,lc,cl,wa,wi,Ah,br]
  have t:∀x∈s.messages,x.reserved.length≤1048576:=fun x i=>(h.m x i).r
  (repeat' (first|with_reducible (first|refine AG (fun _=>?_) fun _=>?_|refine AD ?_|refine Bn ?_ fun _ _ _=>?_)|(with_reducible apply Bh;(exact l _ _ _ (h.m _ (by assumption)) A0 A0);all_goals(intro _ _;try dsimp only))|(with_reducible apply AE;(exact Ni _ _ (h.m _ (by assumption)).o A0 a);intro _ _)|(with_reducible apply AE;(exact KW _ _ (h.m _ (by assumption)).gl A0 a);intro _ _)|(with_reducible apply AE;(exact KW _ _ (by simp) A0 a);intro _ _)|with_reducible refine AK ?_ ?_))<;>exact AQ
 have p:∀(v:Nat) (m:Enm) (n:Int),SzE m→ -10000000≤n→n≤400→Ok (Sum.elim (fun y:Int=>-10000000≤y∧y≤400) No) (Am (WO s v m) Ai (n,0)):=by
  intro w m n hm g f
  have j:=hm.il
  refine A8 (fun v:Int×Nat=>v.2≤m.items.length∧ -10000000≤v.1∧v.1≤400) (fun v:Int×Nat=>m.items.length-v.2) ⟨by omega,by omega,by omega⟩ (Bm (by omega)) fun v e=>?_
  obtain⟨n,v⟩:=v
  obtain⟨c,d,a⟩:=e
  dsimp only at c d a
  dsimp only[WO,bH,br,ix,vz,wg,vs,ln,Aj,cl,wa,wi,Ah,br]
  (repeat' (first|with_reducible (first|refine AG (fun _=>?_) fun _=>?_|refine AD ?_|refine Bn ?_ fun _ _ _=>?_)|(with_reducible apply AE;(exact Ni _ _ (hm.i _ (by assumption)).o A0 a);intro _ _)|(with_reducible apply AE;(exact KW _ _ (by simp) A0 a);intro _ _)|with_reducible refine AK ?_ ?_))<;>exact AQ
 have o:∀n:Int,-10000000≤n→n≤400→Ok (Sum.elim (fun y:Int=>-10000000≤y∧y≤400) No) (Am (WE s) Ai (n,0)):=by
  intro n g f
  refine A8 (fun v:Int×Nat=>v.2≤s.enums.length∧ -10000000≤v.1∧v.1≤400) (fun v:Int×Nat=>s.enums.length-v.2) ⟨by omega,by omega,by omega⟩ (Bm (by omega)) fun v e=>?_
  obtain⟨n,v⟩:=v
  obtain⟨c,d,a⟩:=e
  dsimp only at c d a
  dsimp only[WE,ZP,X2,ZJ,br,ix,vz,wg,vs,ln,Aj,lc,cl,wa,wi,Ah,br]
  have t:∀x∈s.enums,x.reserved.length≤1048576:=fun x i=>(h.e x i).r
  (repeat' (first|with_reducible (first|refine AG (fun _=>?_) fun _=>?_|refine AD ?_|refine Bn ?_ fun _ _ _=>?_)|(with_reducible apply Bh;(exact p _ _ _ (h.e _ (by assumption)) A0 A0);all_goals(intro _ _;try dsimp only))|(with_reducible apply AE;(exact Ni _ _ (h.e _ (by assumption)).o A0 a);intro _ _)|(with_reducible apply AE;(exact KW _ _ (by simp) A0 a);intro _ _)|with_reducible refine AK ?_ ?_))<;>exact AQ
 have r:∀(v:Nat) (m:Svc) (n:Int),SzW m→ -10000000≤n→n≤400→Ok (Sum.elim (fun y:Int=>-10000000≤y∧y≤400) No) (Am (Wu s v m) Ai (n,0)):=by
  intro w m n hm g f
  have j:=hm.ml
  refine A8 (fun v:Int×Nat=>v.2≤m.methods.length∧ -10000000≤v.1∧v.1≤400) (fun v:Int×Nat=>m.methods.length-v.2) ⟨by omega,by omega,by omega⟩ (Bm (by omega)) fun v e=>?_
  obtain⟨n,v⟩:=v
  obtain⟨c,d,a⟩:=e
  dsimp only at c d a
  dsimp only[Wu,bC,br,ix,vz,wg,vs,ln,Aj,cl,wa,wi,Ah,br]
  (repeat' (first|with_reducible (first|refine AG (fun _=>?_) fun _=>?_|refine AD ?_|refine Bn ?_ fun _ _ _=>?_)|(with_reducible apply AE;(exact Ni _ _ (hm.m _ (by assumption)).o A0 a);intro _ _)|(with_reducible apply AE;(exact KW _ _ (by simp) A0 a);intro _ _)|with_reducible refine AK ?_ ?_))<;>exact AQ
 have q:∀n:Int,-10000000≤n→n≤400→Ok (Sum.elim (fun y:Int=>-10000000≤y∧y≤400) No) (Am (Wz s) Ai (n,0)):=by
  intro n g f
  refine A8 (fun v:Int×Nat=>v.2≤s.services.length∧ -10000000≤v.1∧v.1≤400) (fun v:Int×Nat=>s.services.length-v.2) ⟨by omega,by omega,by omega⟩ (Bm (by omega)) fun v e=>?_
  obtain⟨n,v⟩:=v
  obtain⟨c,d,a⟩:=e
  dsimp only at c d a
  dsimp only[Wz,iL,ko,ki,br,ix,vz,wg,vs,ln,Aj,lc,cl,wa,wi,Ah,br]
  (repeat' (first|with_reducible (first|refine AG (fun _=>?_) fun _=>?_|refine AD ?_|refine Bn ?_ fun _ _ _=>?_)|(with_reducible apply Bh;(exact r _ _ _ (h.w _ (by assumption)) A0 A0);all_goals(intro _ _;try dsimp only))|(with_reducible apply AE;(exact Ni _ _ (h.w _ (by assumption)).o A0 a);intro _ _)|(with_reducible apply AE;(exact KW _ _ (by simp) A0 a);intro _ _)|with_reducible refine AK ?_ ?_))<;>exact AQ
 dsimp only[eY,mY,lO,jV,mG,j5,br,vz,vy,wg,vg,lr,lc,wa,Ah,br]
 (repeat' (first|with_reducible (first|refine AG (fun _=>?_) fun _=>?_|refine AD ?_)|(with_reducible apply Bh;(exact k);all_goals(intro _ _;try dsimp only))|(with_reducible apply Bh;(exact o _ A0 A0);all_goals(intro _ _;try dsimp only))|(with_reducible apply Bh;(exact q _ A0 A0);all_goals(intro _ _;try dsimp only))|with_reducible refine AK ?_ ?_))<;>first|exact AQ|exact fun _=>⟨by exact A0,by exact A0,by exact A0⟩
end Go.Proofs.YthgmbpciandpiaaGreat
namespace Go.Proofs.YthgmbpciandpiaaGreat
set_option linter.all false
open Go Go.Eng
abbrev Bk(v:Val):Prop:=Ar (Ag v)≤1048576
theorem MR{v x:Val}(h:Bk v)(b:x∈v.list):Bk x:=by
 have a:=CQ (e:=AM) b
 rw[F9]at a
 unfold Bk at*
 conv at h=>unfold Ag
 simp only[Ar,bk]at h
 omega
theorem FG{v:Val}{x:Pr}(h:Bk v)(b:x∈v.pairs):Bk x.key∧Bk x.val:=by
 have a:=CQ (e:=Ay) b
 have e:Ay x=Ag x.key++Ag x.val:=by rw[Kq];rfl
 rw[e,Mm]at a
 unfold Bk at*
 conv at h=>unfold Ag
 simp only[Ar,bk]at h
 omega
theorem KD{v:Val}{x:Slt}(h:Bk v)(b:x∈v.slots):Bk x.val:=by
 have a:=CQ (e:=Ap) b
 have e:Ap x=D.int .i64 x.num::Ag x.val:=by rw[GI];rfl
 rw[e,Ar]at a
 unfold Bk at*
 conv at h=>unfold Ag
 simp only[Ar,bk]at h
 omega
theorem TX{α:Type}(p:α→Bool):∀l:List α,l.find? p=(l.findIdx? p).bind fun i=>l[i]?
 |[]=>rfl
 |x::l=>by
  rw[List.find?_cons,List.findIdx?_cons]
  cases h:p x with
  |true=>simp
  |false=>
   rw[TX p l]
   cases List.findIdx? p l<;>simp
def Cp{α:Type}[Inhabited α](l:List α)(z:α)(p:α→Bool):α×Bool:=(l.find? p).elim (z,false) fun x=>(x,true)
theorem Uo{α:Type}[Inhabited α](l:List α)(z:α)(p:α→Bool):Cp l z p=match l.findIdx? p with|some i=>(l.getD i default,true)|none=>(z,false):=by
 unfold Cp
 rw[TX]
 cases h:l.findIdx? p with
 |none=>rfl
 |some i=>
  have:=(NG.1 h).1
  simp[this]
def zM:Msg:=.mk ⟨#[]⟩ [] [] [] []
def zF:Fld:=.mk 0 ⟨#[]⟩ 0 0 (.mk 0 ⟨#[]⟩) ⟨#[]⟩ false (.mk 0 0 ⟨#[]⟩ [] [] [] []) []
theorem nB(s:Scm)(n:ByteArray)(h:s.messages.length≤1048576):L3 s n=some (Cp s.messages zM fun m=>decide (m.name=n)):=by
 have d:=GE (B:=P5 s n) (N:=Ai) s.messages (fun m=>decide (m.name=n)) (fun i=>(s.messages.getD i default,true)) () (fun i x a=>by
  have b:=BP a
  have e:=(Yd.1 a).1
  have c:i+1<9223372036854775808:=by omega
  dsimp only[P5,V3,br,ix,vz,wg,vs,Au,ln,Aj,wa,Ah,br]
  simp only[b,c,a,Yv,Yx,Ye,Ym,YU]
  cases decide (x.name=n)<;>simp) (by simp[P5,V3,br,ix,vz,wg,vs,Au,ln,Aj,wa,Ah,br]) (A6 (by omega))
 dsimp only[L3,aE,X7,ZW,wg,lr,lc]
 rw[d,Uo]
 cases s.messages.findIdx? fun m=>decide (m.name=n)<;>rfl
theorem m84(l:List Msg)(n:ByteArray)(h:l.length≤1048576):Tj l (fun z=>L8 z n)=some (Cp l zM fun m=>decide (m.name=n)):=by
 have d:=GE (B:=Pp l fun z=>L8 z n) (N:=Ai) l (fun m=>decide (m.name=n)) (fun i=>(l.getD i default,true)) () (fun i x a=>by
  have b:=BP a
  have f:=(Yd.1 a).1
  have c:i+1<9223372036854775808:=by omega
  have e:L8 x n=some (decide (x.name=n)):=rfl
  dsimp only[Pp,Ux,br,ix,wg,vs,Au,ln,Aj,cf,wa,br]
  simp only[b,c,a,e,Yv,Yx,Ye,Ym,YU]
  cases decide (x.name=n)<;>simp) (by simp[Pp,Ux,br,ix,wg,vs,Au,ln,Aj,cf,wa,br]) (A6 (by omega))
 dsimp only[Tj,lP,kU,lL,vz,wg,lr,lc,Ah]
 rw[d,Uo]
 cases l.findIdx? fun m=>decide (m.name=n)<;>rfl
theorem Up{s:Scm}(h:SzS s)(n:ByteArray):(Cp s.messages zM fun m=>decide (m.name=n)).1.fields.length≤1048576:=by
 unfold Cp
 cases e:s.messages.find? fun m=>decide (m.name=n)with
 |none=>simp[zM]
 |some m=>exact(h.m _ (Y8 e)).fl
theorem Zp{v x:Val}(b:x∈v.list):Ar (Ag x)<Ar (Ag v):=by
 have a:=CQ (e:=AM) b
 rw[F9]at a
 conv=>rhs;unfold Ag
 simp only[Ar,bk]
 omega
theorem MU{v:Val}{x:Pr}(c:x∈v.pairs):Ar (Ag x.key)<Ar (Ag v)∧Ar (Ag x.val)<Ar (Ag v):=by
 have b:=CQ (e:=Ay) c
 have e:Ay x=Ag x.key++Ag x.val:=by rw[Kq];rfl
 rw[e,Mm]at b
 have a:Ar (Ag v)=Ar [.int .i64 v.kind,.int .u64 v.bits,.str v.text,.list (v.list.map AM),.list (v.pairs.map Ay),.list (v.slots.map Ap),.list (v.raws.map AZ)]:=rfl
 rw[a]
 simp only[Ar,bk]
 omega
theorem bM{v:Val}{x:Slt}(c:x∈v.slots):Ar (Ag x.val)<Ar (Ag v):=by
 have a:=CQ (e:=Ap) c
 have e:Ap x=D.int .i64 x.num::Ag x.val:=by rw[GI];rfl
 rw[e,Ar]at a
 have b:Ar (Ag v)=Ar [.int .i64 v.kind,.int .u64 v.bits,.str v.text,.list (v.list.map AM),.list (v.pairs.map Ay),.list (v.slots.map Ap),.list (v.raws.map AZ)]:=rfl
 rw[b]
 simp only[Ar,bk]at a⊢
 omega
theorem ID{α:Type}{l:List α}{i:Nat}(z:α)(h:i<l.length):l[i]?=some (l.getD ((i:Int)).toNat z):=by
 rw[YX,Ym,Ya h]
 rfl
theorem Qh:∀(a:Nat) (v:Val),Ar (Ag v)<a→Bk v→Ok (fun b=>b=true) (Dz a v v)
 |0,v,h,_=>by omega
 |a+1,v,h,k=>by
  obtain⟨s1,s2,n,o,p⟩:=Ex k
  have f:∀(i:Nat) (x y:Val),v.list[i]?=some x→v.list[i]?=some y→Ok (fun b=>b=true) (Dz a x y):=fun i x y c hy=>by
   rw[c]at hy
   cases hy
   have hm:=Yk c
   exact Qh a x (by have:=Zp hm;omega) (MR k hm)
  have d:∀(i:Nat) (x y:Pr),v.pairs[i]?=some x→v.pairs[i]?=some y→Ok (fun b=>b=true) (Dz a x.key y.key)∧Ok (fun b=>b=true) (Dz a x.val y.val):=fun i x y c hy=>by
   rw[c]at hy
   cases hy
   have hm:=Yk c
   exact⟨Qh a _ (by have:=(MU hm).1;omega) (FG k hm).1,Qh a _ (by have:=(MU hm).2;omega) (FG k hm).2⟩
  have e:∀(i:Nat) (x y:Slt),v.slots[i]?=some x→v.slots[i]?=some y→Ok (fun b=>b=true) (Dz a x.val y.val):=fun i x y c hy=>by
   rw[c]at hy
   cases hy
   have hm:=Yk c
   exact Qh a _ (by have:=bM hm;omega) (KD k hm)
  have g:Ok (Sum.elim Tr No) (Am (KQ v v (Dz a)) Ai 0):=by
   refine A8 (fun i:Nat=>i≤v.list.length) (fun i:Nat=>v.list.length-i) (by omega) (Bm (by omega)) fun i hi=>?_
   dsimp only[KQ,P4,br,ix,vz,wg,vs,Au,ln,Aj,cs,wa,Ah,br]
   (repeat' (first|with_reducible (first|refine AG (fun _=>?_) fun _=>?_|refine AD ?_|refine Bn ?_ fun _ _ _=>?_)|(with_reducible apply AE;(exact f i _ _ (by assumption) (by assumption));intro _ _)|with_reducible refine AK ?_ ?_))<;>exact AQ
  have j:Ok (Sum.elim Tr No) (Am (Ky v v (Dz a)) Ai 0):=by
   refine A8 (fun i:Nat=>i≤v.pairs.length) (fun i:Nat=>v.pairs.length-i) (by omega) (Bm (by omega)) fun i hi=>?_
   dsimp only[Ky,PH,br,ix,AS,vz,wg,vs,Au,ln,Aj,cs,ER,wa,Ah,br]
   (repeat' (first|with_reducible (first|refine AG (fun _=>?_) fun _=>?_|refine AD ?_|refine Bn ?_ fun _ _ _=>?_)|(with_reducible apply AE;(exact(d i _ _ (by assumption) (by assumption)).1);intro _ _)|(with_reducible apply AE;(exact(d i _ _ (ID _ A0) (ID _ A0)).2);intro _ _)|(with_reducible apply Bl;(exact fun _=>(d i _ _ (by assumption) (by assumption)).1);intro _)|(with_reducible apply Bl;(exact fun _=>(d i _ _ (ID _ A0) (ID _ A0)).2);intro _)|with_reducible (first|refine Fa ?_ fun _=>?_|refine AK ?_ ?_)))<;>exact AQ
  have l:Ok (Sum.elim Tr No) (Am (KH v v (Dz a)) Ai 0):=by
   refine A8 (fun i:Nat=>i≤v.slots.length) (fun i:Nat=>v.slots.length-i) (by omega) (Bm (by omega)) fun i hi=>?_
   dsimp only[KH,PE,br,ix,AS,vz,wg,vs,Au,ln,Aj,ER,wa,Ah,br]
   (repeat' (first|with_reducible (first|refine AG (fun _=>?_) fun _=>?_|refine AD ?_|refine Bn ?_ fun _ _ _=>?_)|(with_reducible apply AE;(exact e i _ _ (ID _ A0) (ID _ A0));intro _ _)|(with_reducible apply Bl;(exact fun _=>e i _ _ (ID _ A0) (ID _ A0));intro _)|with_reducible (first|refine Fa ?_ fun _=>?_|refine AK ?_ ?_)))<;>exact AQ
  have m:Ok (Sum.elim Tr No) (Am (Ku v v (Dz a)) Ai 0):=by
   refine A8 (fun i:Nat=>i≤v.raws.length) (fun i:Nat=>v.raws.length-i) (by omega) (Bm (by omega)) fun i hi=>?_
   dsimp only[Ku,P0,br,ix,vz,wg,vs,Au,ln,Aj,wa,Ah,br]
   (repeat' (first|with_reducible (first|refine AG (fun _=>?_) fun _=>?_|refine AD ?_|refine Bn ?_ fun _ _ _=>?_|refine AK ?_ ?_)))<;>exact AQ
  show Ok _ (Lu (Dz a) v v)
  dsimp only[Lu,Vs,RI,Rc,WM,Wh,VQ,br,vy,wg,lr,lc,Ah,br]
  (repeat' (first|with_reducible (first|refine AG (fun _=>?_) fun _=>?_|refine AD ?_)|(with_reducible apply Bh;(exact g);all_goals(intro _ _;try dsimp only))|(with_reducible apply Bh;(exact j);all_goals(intro _ _;try dsimp only))|(with_reducible apply Bh;(exact l);all_goals(intro _ _;try dsimp only))|(with_reducible apply Bh;(exact m);all_goals(intro _ _;try dsimp only))|with_reducible refine AK ?_ ?_))<;>first|rfl|contradiction|(simp at*;done)
theorem aw:Zc2=some true:=by kernel_rfl
def CB(F:List Fld)(k:Int):Fld×Bool:=Cp F zF fun f=>decide (f.num=k)
def BG(F:List Fld)(k:Int):Fld:=(CB F k).1
def BV(s:Scm)(n:ByteArray):List Fld:=(Cp s.messages zM fun m=>decide (m.name=n)).1.fields
theorem nD(m:Msg)(k:Int)(h:m.fields.length≤1048576):eW m k=some (CB m.fields k):=by
 have d:=GE (B:=Ps m k) (N:=Ai) m.fields (fun f=>decide (f.num=k)) (fun i=>(m.fields.getD i default,true)) () (fun i x a=>by
  have b:=BP a
  have e:=(Yd.1 a).1
  have c:i+1<9223372036854775808:=by omega
  dsimp only[Ps,VF,br,ix,vz,wg,vs,Au,ln,Aj,wa,Ah,br]
  simp only[b,c,a,Yv,Yx,Ye,Ym,YU]
  cases decide (x.num=k)<;>simp) (by simp[Ps,VF,br,ix,vz,wg,vs,Au,ln,Aj,wa,Ah,br]) (A6 (by omega))
 dsimp only[eW,lX,mV,lz,wg,lr,lc]
 unfold CB
 rw[d,Uo]
 cases m.fields.findIdx? fun f=>decide (f.num=k)<;>rfl
def nw{α:Type}(l:List α)(p:α→Bool):Int:=match l.findIdx? p with
 |some i=>(i:Int)
 |none=>-1
theorem n70(l:List Slt)(f:Slt→Option Bool)(p:Slt→Bool)(e:∀x∈l,f x=some (p x))(h:l.length<4611686018427387904):L9 l f=some (nw l p):=by
 have g:=GE (B:=Pv l f) (N:=Ai) l p (fun i=>(i:Int)) () (fun i x a=>by
  have b:=BP a
  have j:=(Yd.1 a).1
  have c:i+1<9223372036854775808:=by omega
  have d:=e x (Yk a)
  dsimp only[Pv,Ro,br,ix,vs,Au,ln,Aj,cf,wa,br]
  simp only[b,c,d,a,Yv,Yx,Ye]
  cases p x<;>simp) (by simp[Pv,Ro,br,ix,vs,Au,ln,Aj,cf,wa,br]) (A6 h)
 dsimp only[L9,Z5,b9,ZN,vz,lr,lc,Ah]
 rw[g]
 unfold nw
 cases l.findIdx? p<;>rfl
def Gl(l:List Slt)(k:Int):Bool:=l.any fun x=>decide (x.num=k)
def dl(l:List Slt)(x:Slt):List Slt:=match l.findIdx? fun y=>decide (x.num<y.num)with
 |some i=>l.take i++[x]++l.drop i
 |none=>l++[x]
theorem n57(l:List Slt)(h:l.length<549755813888):Kd l=some l:=by
 cases l with
 |nil=>rfl
 |cons x r=>
  dsimp only[Kd,Za,al,br,vw,lr,a0,mv,br]
  simp only[DW]at h
  simp
  omega
theorem n34(l:List Slt)(x:Slt)(h:l.length≤4194304):OD l x=some (dl l x):=by
 have e:=n70 l (fun z=>Tn z x) (fun y=>decide (x.num<y.num)) (fun y _=>rfl) (by omega)
 have b:=n57 l (by omega)
 have c:∀i:Nat,i≤l.length→Ma l (i:Int) [x]=some (l.take i++[x]++l.drop i):=fun i hi=>by
  unfold Ma
  rw[Yg ⟨by omega,by omega,by omega,rfl⟩,YX]
 have d:∀i:Nat,i≤l.length→(l.take i++[x]++l.drop i).length<549755813888:=fun i hi=>by
  simp only[Yo,Yy,YP,DW,EW]
  omega
 dsimp only[OD,ZZ,Ug,ZU,KN,br,vz,wg,v2,lr,lc,cs,tw,ch,fl,fr,Ah,br]
 rw[e]
 unfold nw dl
 simp only[Ye,b]
 cases hi:l.findIdx? fun y=>decide (x.num<y.num)with
 |none=>
  have g:=d l.length (Yf _)
  have a:=c l.length (Yf _)
  simp only[Lc,NP,Iq]at g a
  simp[a,b]
  try simpa using g
 |some i=>
  have j:=(NG.1 hi).1
  have g:=d i (by omega)
  have a:=c i (by omega)
  have f:¬(i:Int)<0:=by omega
  simp only[f,a,b,Y2,Yu,Y1,Ye]
  try rw[Yg g]
theorem ZV7{v:Val}{x:Raw}(h:Bk v)(b:x∈v.raws):x.data.size≤1048576:=by
 have a:=CQ (e:=AZ) b
 unfold Bk at h
 conv at h=>unfold Ag
 simp only[Ar,bk,AZ]at h a
 omega
theorem gL{F:List Fld}{k:Int}(h:(CB F k).2=true):(BG F k).num=k:=by
 unfold BG CB Cp at*
 cases e:F.find? fun f=>decide (f.num=k)with
 |none=>rw[e]at h;cases h
 |some f=>exact Y3 (p:=f.num=k) (List.find?_some (p:=fun f:Fld=>decide (f.num=k)) e)
abbrev Wc:=Scm→Fld→Val→Int→Bool→Option Int
def Ci{α:Type}(f:Nat→α→Int):List α→Nat→Int
 |[],_=>0
 |x::l,i=>if f i x=0 then Ci f l (i+1)else f i x
theorem Mr{α:Type}(f:Nat→α→Int):∀(l:List α) (i:Nat),Ci f l i=0↔∀(j:Nat) (x:α),l[j]?=some x→f (i+j) x=0
 |[],i=>by simp[Ci]
 |x::l,i=>by
  unfold Ci
  have a:=Mr f l (i+1)
  by_cases h:f i x=0
  ·rw[Yg h,a]
   constructor
   ·intro k j y hy
    cases j with
    |zero=>cases hy;exact h
    |succ j=>have:=k j y hy;rw[show i+(j+1)=i+1+j by omega];exact this
   ·intro k j y hy
    have:=k (j+1) y hy
    rw[show i+(j+1)=i+1+j by omega]at this
    exact this
  ·rw[Yj h]
   exact⟨fun e=>absurd e h,fun k=>k 0 x rfl⟩
theorem OP{α ξ ρ:Type}{B:Nat→Option (Lv Nat ξ ρ)}{N:Nat}(l:List α)(f:Nat→α→Int)(r:Int→ρ)(e:ξ)
  (hs:∀(i:Nat) (x:α),l[i]?=some x→(∀(j:Nat) (y:α),j<i→l[j]?=some y→f j y=0)→B i=some (if f i x=0 then .nx (i+1)else .rt (r (f i x))))
  (he:B l.length=some (.ex e)) (hN:l.length<N):Am B N 0=some (if Ci f l 0=0 then .inl e else .inr (r (Ci f l 0))):=by
 suffices H:∀k i N,i+k=l.length→(∀(j:Nat) (y:α),j<i→l[j]?=some y→f j y=0)→k<N→Am B N i=some (if Ci f (l.drop i) i=0 then .inl e else .inr (r (Ci f (l.drop i) i)))by
  have:=H l.length 0 N (by omega) (fun j y c=>absurd c (by omega)) hN
  rwa [Lk]at this
 intro k
 induction k with
 |zero=>
  intro i N hi _ hN
  obtain⟨N,rfl⟩:∃m,N=m+1:=⟨N-1,by omega⟩
  have:i=l.length:=by omega
  subst this
  rw[Am,he,NP]
  rfl
 |succ k d=>
  intro i N hi b hN
  obtain⟨N,rfl⟩:∃m,N=m+1:=⟨N-1,by omega⟩
  have a:i<l.length:=by omega
  rw[Am,hs i l[i] (Ya a) b,Jt a,Ci]
  by_cases h:f i l[i]=0
  ·rw[Yg h,Yg h]
   refine d (i+1) N (by omega) (fun j y c hy=>?_) (by omega)
   by_cases e:j=i
   ·subst e
    rw[Ya a]at hy
    cases hy
    exact h
   ·exact b j y (by omega) hy
  ·rw[Yj h,Yj h,Yj h]
def CA(v:Val):Bool:=decide ((v.kind≠11∧0<v.list.length)∨(v.kind≠12∧0<v.pairs.length)∨(v.kind≠10∧(0<v.slots.length∨0<v.raws.length))∨(v.text≠⟨#[]⟩∧¬(v.kind=7∨v.kind=8))∨(v.bits≠0∧(v.kind=7∨v.kind=8∨v.kind=10∨v.kind=11∨v.kind=12)))
def CE(x:ByteArray)(p:Nat)(lo hi:Nat):Bool:=decide (p<x.size)&&decide (lo≤(x.get! p).toNat)&&decide ((x.get! p).toNat≤hi)
def CM(x:ByteArray)(p:Nat):Nat:=
 let b:=(x.get! p).toNat
 if b<0x80 then 1
 else if 0xc2≤b∧b≤0xdf∧CE x (p+1) 0x80 0xbf=true then 2
 else if b=0xe0∧CE x (p+1) 0xa0 0xbf=true∧CE x (p+2) 0x80 0xbf=true then 3
 else if b=0xed∧CE x (p+1) 0x80 0x9f=true∧CE x (p+2) 0x80 0xbf=true then 3
 else if 0xe1≤b∧b≤0xef∧b≠0xed∧CE x (p+1) 0x80 0xbf=true∧CE x (p+2) 0x80 0xbf=true then 3
 else if b=0xf0∧CE x (p+1) 0x90 0xbf=true∧CE x (p+2) 0x80 0xbf=true∧CE x (p+3) 0x80 0xbf=true then 4
 else if 0xf1≤b∧b≤0xf3∧CE x (p+1) 0x80 0xbf=true∧CE x (p+2) 0x80 0xbf=true∧CE x (p+3) 0x80 0xbf=true then 4
 else if b=0xf4∧CE x (p+1) 0x80 0x8f=true∧CE x (p+2) 0x80 0xbf=true∧CE x (p+3) 0x80 0xbf=true then 4
 else 0
def FV(x:ByteArray):Nat→Nat→Bool
 |0,_=>true
 |n+1,p=>if p<x.size then(if CM x p=0 then false else FV x n (p+CM x p))else true
def J6(x:ByteArray):Bool:=FV x (x.size+1) 0
def Si(n b:Int):Bool:=if n=1 then decide (b≤1)else if n=2 then decide (-2147483648≤IntKind.i64.wrap b∧IntKind.i64.wrap b≤2147483647)else if n=4 then decide (b≤4294967295)else if n=9 then decide (b≤2147483647)else true
def LA(v:Val):Bool:=decide (v.list.length=0∧v.pairs.length=0∧v.slots.length=0∧v.raws.length=0)
def NY(n:Int):Bool:=decide (n=7∨n=8)
def IQ(n:Int)(v:Val):Bool:=decide (1≤n∧n≤9∧v.kind=n)&&LA v&&(if NY n then decide (v.bits=0∧v.text.size≤4096)&&(decide (n=8)||J6 v.text)else decide (v.text=⟨#[]⟩)&&Si n v.bits)
def Ej(n:Int)(v:Val):Int:=if v.kind≠n∨CA v=true then 12 else if 4096<v.text.size then 3 else if IQ n v=true then 0 else if n=7 then 7 else 12
def zE:Enm:=.mk ⟨#[]⟩ false [] [] []
def B1(s:Scm)(n:ByteArray):Msg×Bool:=Cp s.messages zM fun m=>decide (m.name=n)
def C2(s:Scm)(n:ByteArray):Enm×Bool:=Cp s.enums zE fun e=>decide (e.name=n)
def H9(e:Enm)(b:Int):Bool:=e.items.any fun x=>decide (IntKind.u64.wrap x.num=b)
def Dk(R:Msg→Val→Int)(s:Scm)(t:Typ)(v:Val):Int:=
 if t.kind=10 then(if(B1 s t.name).2=true then R (B1 s t.name).1 v else 10)
 else if t.kind<1∨9<t.kind then 12
 else if Ej t.kind v≠0∨t.kind≠9 then Ej t.kind v
 else if(C2 s t.name).2=false then 10
 else if(C2 s t.name).1.opn=false∧H9 (C2 s t.name).1 v.bits=false then 16 else 0
def JI(a b:Val):Bool:=decide (a.bits=b.bits)&&decide (a.text=b.text)
def Ly(E:Val→Int)(key:Int)(k:Bool)(l:List Pr)(i:Nat)(p:Pr):Int:=
 if Ej key p.key≠0 then Ej key p.key else if k=true∧((l.take i).any fun q=>JI q.key p.key)=true then 9 else E p.val
def CK(R:Msg→Val→Int)(s:Scm)(k:Bool)(f:Fld)(v:Val):Int:=
 if f.card=4 then(if v.kind≠11∨CA v=true then 12 else Ci (fun _ x=>Dk R s f.type x) v.list 0)
 else if f.card=5 then(if v.kind≠12∨CA v=true then 12 else Ci (Ly (Dk R s f.type) f.key k v.pairs) v.pairs 0)
 else Dk R s f.type v
def J5(F:List Fld)(l:List Slt)(u:ByteArray):Bool:=!decide (u=⟨#[]⟩)&&l.any fun y=>decide ((BG F y.num).union=u)
def FN(R:Fld→Val→Int)(F:List Fld)(l:List Slt)(i:Nat)(x:Slt):Int:=
 if(CB F x.num).2=false then 8 else if Gl (l.take i) x.num=true then 9 else if J5 F (l.take i) (BG F x.num).union=true then 15 else R (BG F x.num) x.val
def HW(l:List Slt)(f:Fld):Int:=if f.card=1∧Gl l f.num=false then 14 else 0
def uP(s:Scm)(f:Fld)(x:Raw):Bool:=decide (f.type.kind=9)&&(C2 s f.type.name).2&&!(C2 s f.type.name).1.opn&&!decide (f.card=5)&&decide (x.wire=0)&&decide (x.bits<2147483648)&&!H9 (C2 s f.type.name).1 x.bits
def JX(s:Scm)(F:List Fld)(x:Raw):Int:=
 if x.num<1∨65535<x.num∨x.wire<0∨6<x.wire∨(x.wire≤2∧x.data≠⟨#[]⟩)∨(2<x.wire∧x.bits≠0)then 1
 else if(CB F x.num).2=true∧uP s (BG F x.num) x=false then 1
 else if(x.wire=3∧4096<x.data.size)∨65536<x.data.size then 3 else 0
def Bc(s:Scm)(k:Bool):Nat→Msg→Val→Int
 |0,_,v=>if v.kind≠10∨CA v=true then 12 else 17
 |d+1,m,v=>
  if v.kind≠10∨CA v=true then 12
  else if Ci (FN (CK (Bc s k d) s k) m.fields v.slots) v.slots 0≠0 then Ci (FN (CK (Bc s k d) s k) m.fields v.slots) v.slots 0
  else if Ci (fun _ f=>HW v.slots f) m.fields 0≠0 then Ci (fun _ f=>HW v.slots f) m.fields 0
  else Ci (fun _ x=>JX s m.fields x) v.raws 0
mutual
def cnt:Val→Nat
 |.mk _ _ _ l p s r=>1+r.length+Br l+BM p+B7 s
def Br:List Val→Nat
 |[]=>0
 |v::l=>cnt v+Br l
def M9:Pr→Nat
 |.mk k v=>cnt k+cnt v
def BM:List Pr→Nat
 |[]=>0
 |p::l=>M9 p+BM l
def KI:Slt→Nat
 |.mk _ v=>cnt v
def B7:List Slt→Nat
 |[]=>0
 |x::l=>KI x+B7 l
end
def JS(s:Scm)(k:Bool)(n:ByteArray)(v:Val):Int:=
 if(B1 s n).2=false then 10 else if Bc s k 16 (B1 s n).1 v≠0 then Bc s k 16 (B1 s n).1 v else if 4096<cnt v then 3 else 0
theorem ql(x:ByteArray)(p:Nat):x.data.toList.getD p 0=x.get! p:=by
 cases x with
 |mk d=>
  show d.toList.getD p 0=d.getD p 0
  rw[Ym,Yr,Yz]
theorem ZlH(x:ByteArray)(i:Nat)(lo hi:Nat)(h:x.size≤1048576):L4 x (i:Int) (lo:Int) (hi:Int)=some (CE x i lo hi):=by
 have w:x.size<4611686018427387904:=by omega
 dsimp only[L4,UL,vz,lr,A7,F0]
 simp only[w,Yx,YX,ql]
 have a:∀b c:Bool,(b=true→decide ((i:Int)<x.size)=true)→(if(b=true→(0:Int)≤i∧(i:Int)<x.size)then(some c)else none)=some c:=fun b c d=>by
  rw[Yg]
  intro h
  have:=d h
  simp only[Yw]at this
  omega
 rw[a _ _ (fun h=>by rw[Yc]at h;exact h.1),a _ _ (fun h=>h)]
 unfold CE
 congr 1
 rw[QL]
 simp only[Yc,Yw]
 omega
theorem qO(x:ByteArray)(i n:Nat)(h:x.size≤1048576)(hi:i≤2097152)(p:n≤9):Kb x (i:Int) (n:Int)=some ((List.range n).all fun k=>CE x (i+k) 128 191):=by
 have o:=GE (B:=Ks x (i:Int) (n:Int)) (N:=Ai) (List.range n) (fun k=>!CE x (i+k) 128 191) (fun _=>false) () (fun k y a=>by
  have b:=(Yd.1 a).1
  rw[XE]at b
  have hy:y=k:=by rw[List.getElem?_range b]at a;cases a;rfl
  subst hy
  have e:=ZlH x (i+y) 128 191 h
  rw[Int.natCast_add]at e
  have d:(y:Int)<n:=by omega
  have f:y+1<9223372036854775808:=by omega
  have g: -9223372036854775808≤(i:Int)+y∧(i:Int)+y<9223372036854775808:=by omega
  dsimp only[Ks,Ph,br,vs,Au,ln,Aj,cl,wa,wi,br]
  simp only[d,f,g,Yv,Yx,Dx]
  rw[show((128:Int))=((128:Nat):Int)from rfl,show((191:Int))=((191:Nat):Int)from rfl,e,Ye]
  cases CE x (i+y) 128 191<;>rfl) (by rw[XE];dsimp only[Ks,Ph,br,vs,Au,ln,Aj,cl,wa,wi,br];simp) (by rw[XE];exact A6 (by omega))
 dsimp only[Kb,Vn,U3,VM,lr,lc]
 rw[o]
 cases c:(List.range n).findIdx? fun k=>!CE x (i+k) 128 191 with
 |none=>
  have:=XJ.1 c
  have e:((List.range n).all fun k=>CE x (i+k) 128 191)=true:=Yq.2 fun k a=>by simpa using this k a
  rw[e]
  rfl
 |some j=>
  obtain⟨l,m,_⟩:=NG.1 c
  have e:((List.range n).all fun k=>CE x (i+k) 128 191)=false:=by
   rw[List.all_eq_false]
   exact⟨_,Io l,by simpa using m⟩
  rw[e]
  rfl
theorem IH{c:Prop}[Decidable c]{b:Bool}(n:Nat)(h:b=true↔c){x:Option Int}{m:Nat}(k:x=some (m:Int)):(if b=true then some (n:Int)else x)=some ((if c then n else m:Nat):Int):=by
 by_cases a:c
 ·rw[Yg (h.2 a),Yg a]
 ·rw[Yj (fun e=>a (h.1 e)),Yj a,k]
theorem ZPZ(x:ByteArray)(p:Nat)(o:p<x.size)(h:x.size≤1048576):Ot x (p:Int)=some (CM x p:Int):=by
 have t1:∀n:Nat,n≤9→Kb x ((p:Int)+1) (n:Int)=_:=fun n c=>qO x (p+1) n h (by omega) c
 have t2:∀n:Nat,n≤9→Kb x ((p:Int)+2) (n:Int)=_:=fun n c=>qO x (p+2) n h (by omega) c
 have a:∀lo hi:Nat,L4 x ((p:Int)+1) lo hi=_:=fun lo hi=>ZlH x (p+1) lo hi h
 have a1:=t1 1 (by omega)
 have b:=t1 2 (by omega)
 have a3:=t1 3 (by omega)
 have a4:=t2 1 (by omega)
 have a5:=t2 2 (by omega)
 have d:=a 160 191
 have e:=a 128 159
 have g:=a 144 191
 have i:=a 128 143
 have w0:(0:Int)≤p∧(p:Int)<x.size:=by omega
 have m: -9223372036854775808≤(p:Int)+1∧(p:Int)+1<9223372036854775808:=by omega
 have w2: -9223372036854775808≤(p:Int)+2∧(p:Int)+2<9223372036854775808:=by omega
 have j:∀f:Nat→Bool,(List.range 1).all f=f 0:=fun f=>by simp[Xt]
 have k:∀f:Nat→Bool,(List.range 2).all f=(f 0&&f 1):=fun f=>by simp[Xt]
 have l:∀f:Nat→Bool,(List.range 3).all f=(f 0&&(f 1&&f 2)):=fun f=>by simp[Xt,Bool.and_assoc]
 rw[j]at a1 a4
 rw[k]at b a5
 rw[l]at a3
 simp only[EA,YE,Nat.reduceAdd,Int.cast_ofNat_Int]at a1 b a3 a4 a5 d e g i
 dsimp only[Ot,UF,br,vg,lr,AC,wi,br,Qf]
 simp only[w0,m,w2,Dx,Yx,YX,ql,a1,b,a3,a4,a5,d,e,g,i,Hl,YU,EY]
 unfold CM
 refine IH 1 (by simp only[Yw];omega) ?_
 refine IH 2 (by simp only[Yc,Yw];grind) ?_
 refine IH 3 (by simp only[Yc,Yw];grind) ?_
 refine IH 3 (by simp only[Yc,Yw];grind) ?_
 refine IH 3 (by simp only[Yc,YN,Yw,YM];grind) ?_
 refine IH 4 (by simp only[Yc,Yw];grind) ?_
 refine IH 4 (by simp only[Yc,Yw];grind) ?_
 refine IH 4 (by simp only[Yc,Yw];grind) ?_
 rfl
theorem ZQR(x:ByteArray)(p:Nat):CM x p≤4:=by
 unfold CM
 dsimp only
 repeat' (first|split|omega)
theorem ZJv(x:ByteArray):∀(k p n m:Nat),x.size-p=k→x.size-p<n→x.size-p<m→FV x n p=FV x m p:=by
 intro k
 induction k using Nat.strongRecOn with
 |_ k c=>
  intro p n m d e hm
  obtain⟨n,rfl⟩:∃j,n=j+1:=⟨n-1,by omega⟩
  obtain⟨m,rfl⟩:∃j,m=j+1:=⟨m-1,by omega⟩
  unfold FV
  by_cases a:p<x.size
  ·rw[Yg a,Yg a]
   by_cases b:CM x p=0
   ·rw[Yg b,Yg b]
   ·rw[Yj b,Yj b]
    exact c (x.size-(p+CM x p)) (by omega) _ _ _ rfl (by omega) (by omega)
  ·rw[Yj a,Yj a]
def J2(x:ByteArray)(p:Nat):Bool:=FV x (x.size+1-p) p
theorem Zzm{x:ByteArray}{p:Nat}(h:x.size≤p):J2 x p=true:=by
 unfold J2
 cases x.size+1-p with
 |zero=>rfl
 |succ n=>unfold FV;rw[Yj (by omega)]
theorem Zu7{x:ByteArray}{p:Nat}(h:p<x.size):J2 x p=if CM x p=0 then false else J2 x (p+CM x p):=by
 unfold J2
 obtain⟨n,e⟩:∃n,x.size+1-p=n+1:=⟨x.size-p,by omega⟩
 rw[e]
 conv=>lhs;unfold FV
 rw[Yg h]
 by_cases a:CM x p=0
 ·rw[Yg a,Yg a]
 ·rw[Yj a,Yj a]
  by_cases b:p+CM x p<x.size
  ·exact ZJv x _ _ _ _ rfl (by omega) (by omega)
  ·have c:FV x n (p+CM x p)=true:=by
    cases n with
    |zero=>rfl
    |succ n=>unfold FV;rw[Yj b]
   have d:FV x (x.size+1-(p+CM x p)) (p+CM x p)=true:=by
    cases x.size+1-(p+CM x p)with
    |zero=>rfl
    |succ n=>unfold FV;rw[Yj b]
   rw[c,d]
theorem ZQt(x:ByteArray):J6 x=J2 x 0:=rfl
theorem ZvO(x:ByteArray)(h:x.size≤1048576):L7 x=some (J6 x):=by
 have q:Ok (Sum.elim (fun _=>J6 x=true) (fun r:Int=>0≤r∧J6 x=false)) (Am (MG x) Ai 0):=by
  refine A8 (fun v:Int=>0≤v∧J6 x=J2 x v.toNat) (fun v:Int=>x.size-v.toNat) ⟨by omega,ZQt x⟩ (A6 (by omega)) fun v c=>?_
  obtain⟨v,rfl⟩:∃n:Nat,v=n:=⟨v.toNat,by omega⟩
  obtain⟨_,c⟩:=c
  rw[YX]at c
  have w:x.size<4611686018427387904:=by omega
  dsimp only[MG,Vi,br,vz,vs,Au,ln,Aj,cl,wi,A7,br]
  by_cases g:v<x.size
  ·have d:(v:Int)<x.size:=by omega
   have hs:=ZQR x v
   have b:=Zu7 g
   simp only[w,Yx,d,Yv,ZPZ x v g h,Ye]
   by_cases f:CM x v=0
   ·rw[Yg f]at b
    simp only[f,Int.ofNat_zero,Int.cast_ofNat_Int,Yv,Yx]
    exact⟨_,rfl,by omega,by rw[c,b]⟩
   ·rw[Yj f]at b
    have j:¬((CM x v:Int)=0):=by omega
    have k: -9223372036854775808≤(v:Int)+CM x v∧(v:Int)+CM x v<9223372036854775808:=by omega
    simp only[j,Y2,Yu,Y1,k,Dx,Yx]
    refine⟨_,rfl,⟨by omega,?_⟩,?_⟩
    ·rw[c,b,show((v:Int)+CM x v).toNat=v+CM x v by omega]
    ·show x.size-((v:Int)+CM x v).toNat<x.size-(v:Int).toNat
     omega
  ·have d:¬(v:Int)<x.size:=by omega
   simp only[w,Yx,d,Y2,Yu,Y1]
   exact⟨_,rfl,by rw[c,Zzm (by omega)]⟩
 obtain⟨y,e,a⟩:=q
 dsimp only[L7,Vf,lr,cl,Ti,U7,Vj,U9,lr,lc]
 rw[e]
 cases y with
 |inl y=>
  have a:J6 x=true:=a
  rw[a]
  rfl
 |inr r=>
  obtain⟨a1,i⟩:=a
  rw[i]
  simp only[Ye,Sum.elim_inr]
  rw[show decide (r<0)=false by simpa using a1]
def Xr(c:Nat)(x:Val):Prop:=∀a,c≤a→Ok (fun b=>b=true) (Dz a x x)
theorem Xr.mono{c d:Nat}{x:Val}(h:Xr c x)(k:c≤d):Xr d x:=fun a b=>h a (DI k b)
theorem gK{n:Nat}(h:n<18446744073709551616):IntKind.u64.wrap (n:Int)=n:=by
 unfold IntKind.wrap
 have:(IntKind.u64.bits)=64:=rfl
 simp only[this,show IntKind.u64.signed=false from rfl,Hg,Yu,Y1]
 omega
def Lr(n:Nat):Bool:=decide (9218868437227405312<n%9223372036854775808)
theorem ZXD{n:Nat}(b:n<18446744073709551616):Ok (fun y:Int=>decide (y=0)=Lr n) (Oo (n:Int)):=by
 have e:IP .u64 (n:Int) 9223372036854775808=((n%9223372036854775808:Nat):Int):=by
  unfold IP
  rw[Int.tmod_eq_emod_of_nonneg (by omega)]
  omega
 dsimp only[Oo,Vm,br,lr,br,rem]
 rw[e]
 unfold Lr
 have g:(9218868437227405312:Int)<((n%9223372036854775808:Nat):Int)↔9218868437227405312<n%9223372036854775808:=by omega
 simp only[g]
 by_cases h:9218868437227405312<n%9223372036854775808
 ·simp only[h];first|exact AD (by decide)|simp
 ·have a:decide (9218868437227405312<n%9223372036854775808)=false:=Fv h
  simp only[a,Yu,Y1]
  first
   |refine AG (fun _=>AD (by decide)) fun _=>AG (fun _=>AD (by decide)) fun _=>AG (fun _=>AD (by decide)) fun _=>AD (by decide)
   |simp
def Nk(n:Nat):Nat:=if Lr n=true then 18446744073709551615 else if 9223372036854775808≤n then 18446744073709551615-n else n+9223372036854775808
theorem ZYB{v:Val}{n:Nat}(i:n<18446744073709551616)(g:v.bits=(n:Int)):eZ v=some (if v.kind=2∨v.kind=3 then IntKind.u64.wrap ((n:Int)+9223372036854775808)else if v.kind=6 then(Nk n:Int)else(n:Int)):=by
 obtain⟨y,e,h⟩:=ZXD i
 dsimp only[eZ,jb,gh,br,vz,wg,lr,cl,br,ZcX,mr,lr]
 rw[g]
 by_cases a:v.kind=2∨v.kind=3
 ·have b:(decide (v.kind=2)||decide (v.kind=3))=true:=by simpa using a
  simp only[b,a,Yx]
  rfl
 ·have b:(decide (v.kind=2)||decide (v.kind=3))=false:=by simpa using a
  simp only[b,a,Yu,Y1]
  by_cases f:v.kind=6
  ·have j:=gK (n:=18446744073709551615-n) (by omega)
   simp only[f,Yv,Y5,Yu,Y1,e,Ye,h]
   unfold Nk
   cases Lr n with
   |true=>rfl
   |false=>
    by_cases hs:9223372036854775808≤n
    ·have c:(9223372036854775808:Int)≤(n:Int):=by omega
     have d:(18446744073709551615:Int)-(n:Int)=((18446744073709551615-n:Nat):Int):=by omega
     simp[hs,c,d,j]
    ·have c:¬(9223372036854775808:Int)≤(n:Int):=by omega
     have d:(n:Int)+9223372036854775808=((n+9223372036854775808:Nat):Int):=by omega
     have w2:=gK (n:=n+9223372036854775808) (by omega)
     simp only[hs,c,d,w2,Y2,Yu,Y1,Yx]
  ·simp[f]
def Gs(a b:Int):Int:=if a<b then -1 else if b<a then 1 else 0
theorem Z0c(a b:Int):ep a b=some (Gs a b):=by
 dsimp only[ep,nb,br,lr,br]
 unfold Gs
 by_cases h:a<b
 ·simp[h]
 ·by_cases c:b<a<;>simp[h,c]
def nm(a b:ByteArray):Int:=if BZ a b=true then -1 else if a=b then 0 else 1
theorem iz{v:Val}(h:SzV v):eX v=some (CA v):=by
 obtain⟨t1,t2,t3,t4,t5⟩:=h
 have e:v.list.length<4611686018427387904:=by omega
 have f:v.pairs.length<4611686018427387904:=by omega
 have g:v.slots.length<4611686018427387904:=by omega
 have i:v.raws.length<4611686018427387904:=by omega
 have key:∀a b c:Bool,(if a=true then some true else if b=true then some true else some c)=some (a||b||c):=fun a b c=>by cases a<;>cases b<;>rfl
 dsimp only[eX,jP,br,vz,vy,wg,lr,Ah,br]
 rw[key]
 congr 1
 unfold CA
 rw[QL]
 by_cases d:v.text=⟨#[]⟩<;>simp only[d,Yv,Y2,YF,Yc,YN,Yw,YM,Y5,DY,Hg,F4,ne_eq,QV,NL,false_and,Li,XQ,Yu,or_false,false_or,Jq]<;>omega
theorem pA{v:Val}(h:SzV v):Oq v=some (LA v):=by
 obtain⟨t1,t2,t3,t4,t5⟩:=h
 have a:v.list.length<4611686018427387904:=by omega
 have b:v.pairs.length<4611686018427387904:=by omega
 have c:v.slots.length<4611686018427387904:=by omega
 have d:v.raws.length<4611686018427387904:=by omega
 dsimp only[Oq,UH,vz,vy,wg,lr,Ah]
 congr 1
 unfold LA
 rw[QL]
 simp only[Yc,Yw]
 omega
theorem ZND(n:Int):L6 n=some (NY n):=by
 dsimp only[L6,Pc,lr]
 unfold NY
 rw[Bool.decide_or]
theorem ZPB(n b:Int)(h:1≤n∧n≤9)(d:NY n=false):(if decide (n=1)=true then some (decide (b≤1))else if decide (n=2)=true then some (decide (-2147483648≤IntKind.i64.wrap b)&&decide (IntKind.i64.wrap b≤2147483647))else if decide (n=4)=true then some (decide (b<4294967296))else if decide (n=9)=true then some (decide (b<2147483648))else some true)=some (Si n b):=by
 unfold Si
 have a:decide (b<4294967296)=decide (b≤4294967295):=decide_eq_decide.2 (by omega)
 have c:decide (b<2147483648)=decide (b≤2147483647):=decide_eq_decide.2 (by omega)
 rw[a,c]
 simp only[Yw,Xu]
 repeat' (first|rfl|split)
theorem ZSX(n:Int){v:Val}(h:SzV v):IV n v=some (IQ n v):=by
 have g:=h.t
 have k:v.text.size<4611686018427387904:=by omega
 have i:L2 n=some (decide (1≤n)&&decide (n≤9)):=rfl
 have l:∀x y z:Bool,(if((x&&y)&&!z)=true then True else True)=True:=fun x y z=>by split<;>rfl
 dsimp only[IV,Pf,br,vz,vy,wg,lr,cl,AC,A7,br]
 rw[i,pA h,ZND,ZvO _ g,Ye]
 unfold IQ
 by_cases c:1≤n∧n≤9∧v.kind=n
 ·obtain⟨a,b,f⟩:=c
  simp only[a,b,f,Dx,Yv,XR,Y5,QI,Jn,DY,QP,Hl,YU,Yx,Ye,EY,k,F4]
  cases hl:LA v with
  |false=>rfl
  |true=>
   cases j:NY n with
   |true=>
    simp only[Y5,Yu,Y1,Yx,F4]
    rw[Xu]
    congr 3
    exact decide_eq_decide.2 (by omega)
   |false=>
    simp only[Y5,Yu,Y1,F4]
    by_cases d:v.text=⟨#[]⟩
    ·simp only[d,Yv,Y5,Yu,Y1,F4]
     exact ZPB n v.bits ⟨a,b⟩ j
    ·simp only[d,Y2,DY,Yx,Hg]
 ·have e:((!(decide (1≤n)&&decide (n≤9)))||!decide (v.kind=n))=true:=by
   simp only[YF,YN,Lh,YM]
   omega
  simp only[e,c,Y2,Hg,Y5,Yu,XS,Yx,NH]
theorem wN(n:Int){v:Val}(h:SzV v):eo n v=some (Ej n v):=by
 have f:=h.t
 have d:v.text.size<4611686018427387904:=by omega
 dsimp only[eo,jI,br,vz,wg,lr,cl,AC,A7,br]
 rw[iz h,ZSX n h,Ye]
 unfold Ej
 by_cases c:v.kind=n
 ·cases g:CA v with
  |true=>simp[c]
  |false=>
   by_cases b:4096<v.text.size
   ·have a:(4096:Int)<v.text.size:=by omega
    simp[c,d,b,a]
   ·have a:¬(4096:Int)<v.text.size:=by omega
    cases IQ n v with
    |true=>simp[c,d,b,a]
    |false=>
     by_cases e:n=7
     ·simp[c,d,b,a,e]
     ·simp[c,d,b,a,e]
 ·simp[c]
theorem ti(s:Scm)(n:ByteArray)(h:s.enums.length≤1048576):fe s n=some (C2 s n):=by
 have f:=GE (B:=O7 s n) (N:=Ai) s.enums (fun e=>decide (e.name=n)) (fun i=>(s.enums.getD i default,true)) () (fun i x a=>by
  have b:=BP a
  have g:=(Yd.1 a).1
  have c:i+1<9223372036854775808:=by omega
  have d:s.enums.length<4611686018427387904:=by omega
  dsimp only[O7,VK,br,ix,vz,wg,vs,Au,ln,Aj,wa,Ah,br]
  simp only[b,c,d,a,Yv,Yx,Ye,Ym,YU]
  cases decide (x.name=n)<;>simp) (by simp[O7,VK,br,ix,vz,wg,vs,Au,ln,Aj,wa,Ah,br]) (A6 (by omega))
 dsimp only[fe,kI,iM,jL,wg,lr,lc]
 unfold C2
 rw[f,Uo]
 cases s.enums.findIdx? fun m=>decide (m.name=n)<;>rfl
theorem ZrT{s:Scm}(h:SzS s)(n:ByteArray):(C2 s n).1.items.length≤1048576:=by
 unfold C2 Cp
 cases e:s.enums.find? fun m=>decide (m.name=n)with
 |none=>decide
 |some m=>exact(h.e m (Y8 e)).il
theorem Zt9{s:Scm}(hs:Ar (Al s)≤1048576)(n:ByteArray):∀x∈(C2 s n).1.items,-9223372036854775808≤x.num:=by
 unfold C2 Cp
 cases e:s.enums.find? fun m=>decide (m.name=n)with
 |none=>intro x a;cases a
 |some m=>
  intro x a
  have b:=CQ (e:=Bz) (Y8 e)
  have c:=CQ (e:=Cw) (show x∈m.items from a)
  simp only[Al,Ar,bk]at hs
  simp only[Bz,Ar,bk]at b
  simp only[Cw,Ar,bk]at c
  have:=xU (k:=.i64) (n:=x.num) (by omega)
  exact this.1
theorem ug(e:Enm)(b:Int)(h:e.items.length≤1048576)(l:∀x∈e.items,-9223372036854775808≤x.num)(q:b<9223372036854775808):Ou e b=some (H9 e b):=by
 have k:e.items.length<4611686018427387904:=by omega
 have n:=GE (B:=Pe e b) (N:=Ai) e.items (fun x=>decide (IntKind.u64.wrap x.num=b)) (fun _=>true) () (fun i x a=>by
  have d:=BP a
  have o:=(Yd.1 a).1
  have f:i+1<9223372036854775808:=by omega
  have p:=l x (Yk a)
  have g:e.items.getD (i:Int).toNat Rw.z=x:=by rw[YX,Ym,a];rfl
  have j:(0:Int)≤i∧(i:Int)<e.items.length:=⟨by omega,d⟩
  have key:(decide ((0:Int)≤x.num)&&decide (IntKind.u64.wrap x.num=b))=decide (IntKind.u64.wrap x.num=b):=by
   by_cases c:(0:Int)≤x.num
   ·rw[YV c,F4]
   ·have m:IntKind.u64.wrap x.num=x.num%18446744073709551616:=rfl
    rw[Fv c,Hg]
    symm
    rw[YM,m]
    omega
  dsimp only[Pe,UC,br,ix,AS,vz,vy,wg,vs,Au,ln,Aj,wa,Ah,br]
  simp only[k,d,f,g,j,a,Yv,Yx,Ye,Dx,EY,key]
  cases decide (IntKind.u64.wrap x.num=b)<;>simp) (by simp[Pe,UC,br,ix,AS,vz,vy,wg,vs,Au,ln,Aj,wa,Ah,br]) (A6 (by omega))
 dsimp only[Ou,jS,jC,kV,lr,lc]
 unfold H9
 rw[n,←Xw]
 cases e.items.findIdx? fun x=>decide (IntKind.u64.wrap x.num=b)<;>rfl
theorem gX{α ξ ρ:Type}{B:Nat→Option (Lv Nat ξ ρ)}{N:Nat}(l:List α)(p:α→Bool)(r:ρ)(e:ξ)
  (hs:∀i x,l[i]?=some x→B i=some (if p x=true then .rt r else .nx (i+1))) (he:B l.length=some (.ex e)) (hN:l.length<N):Am B N 0=some (if l.any p=true then .inr r else .inl e):=by
 rw[GE l p (fun _=>r) e hs he hN,←Xw]
 cases l.findIdx? p<;>rfl
theorem ZKM(v:Val)(k:Int)(h:v.slots.length≤1048576):eQ v k=some (Gl v.slots k):=by
 have d:v.slots.length<4611686018427387904:=by omega
 have e:=GE (B:=Pt v k) (N:=Ai) v.slots (fun x=>decide (x.num=k)) (fun _=>true) () (fun i x a=>by
  have b:=BP a
  have f:=(Yd.1 a).1
  have c:i+1<9223372036854775808:=by omega
  dsimp only[Pt,Vg,br,ix,vz,wg,vs,Au,ln,Aj,wa,Ah,br]
  simp only[d,b,c,a,Yv,Yx,Ye]
  cases decide (x.num=k)<;>simp) (by simp[Pt,Vg,br,ix,vz,wg,vs,Au,ln,Aj,wa,Ah,br]) (A6 (by omega))
 dsimp only[eQ,l6,kj,lg,lr,lc]
 unfold Gl
 rw[e,←Xw]
 cases v.slots.findIdx? fun x=>decide (x.num=k)<;>rfl
theorem ZHT{s:Scm}(hs:Ar (Al s)≤1048576)(m:Msg)(x:Raw)(hm:m.fields.length≤1048576)(A:x.data.size≤1048576):fg s m x=some (JX s m.fields x):=by
 have h:=Gx hs
 have B:x.data.size<4611686018427387904:=by omega
 have o:=ti s (BG m.fields x.num).type.name h.el
 have d:x.bits<2147483648→Ou (C2 s (BG m.fields x.num).type.name).1 x.bits=_:=fun y=>ug _ _ (ZrT h _) (Zt9 hs _) (by omega)
 have w:(CB m.fields x.num).1=BG m.fields x.num:=rfl
 dsimp only[fg,ly,gf,br,vy,wg,lr,cl,AC,A7,br]
 rw[nD _ _ hm,Ye,w]
 unfold JX uP
 have j:((((((decide (x.num<1)||decide (65535<x.num))||decide (x.wire<0))||decide (6<x.wire))||(((decide (x.wire=0)||decide (x.wire=1))||decide (x.wire=2))&&!decide (x.data=⟨#[]⟩)))||((!((decide (x.wire=0)||decide (x.wire=1))||decide (x.wire=2)))&&!decide (x.bits=0)))=true)=(x.num<1∨65535<x.num∨x.wire<0∨6<x.wire∨(x.wire≤2∧x.data≠⟨#[]⟩)∨(2<x.wire∧x.bits≠0)):=by
  by_cases p:x.data=⟨#[]⟩<;>simp only[p,Yv,Y2,Y5,DY,XP,NQ,XQ,YF,Yc,YN,Yw,YM,Jq,ne_eq,QV,NL,and_false,and_true,false_or,eq_iff_iff]<;>omega
 have b:(if((decide (x.wire=3)&&decide ((4096:Int)<x.data.size))||decide ((65536:Int)<x.data.size))=true then some (3:Int)else some 0)=some (if(x.wire=3∧4096<x.data.size)∨65536<x.data.size then 3 else 0):=by
  by_cases c:(x.wire=3∧4096<x.data.size)∨65536<x.data.size
  ·rw[Yg c,Yg]
   simp only[YF,Yc,Yw]
   omega
  ·rw[Yj c,Yj]
   simp only[YF,Yc,Yw]
   omega
 by_cases c:x.num<1∨65535<x.num∨x.wire<0∨6<x.wire∨(x.wire≤2∧x.data≠⟨#[]⟩)∨(2<x.wire∧x.bits≠0)
 ·rw[Yg c,Yg (j▸c)]
 ·rw[Yj c,Yj (j▸c)]
  cases z:(CB m.fields x.num).2 with
  |false=>
   simp only[Yu,Y1,false_and]
   exact b
  |true=>
   simp only[Yx,Li]
   rw[o,Ye]
   generalize (C2 s (BG m.fields x.num).type.name)=a at d⊢
   generalize BG m.fields x.num=f at d⊢
   by_cases k:f.type.kind=9∧a.2=true∧a.1.opn=false∧¬f.card=5∧x.wire=0∧x.bits<2147483648
   ·obtain⟨q,r,t,u,l,n⟩:=k
    have i:¬(2147483648≤x.bits):=by omega
    simp only[q,r,t,u,l,n,i,d n,Yv,Y2,Y5,DY,QI,Jn,QP,Hl,YU,Yx,XR,F4]
    cases H9 a.1 x.bits with
    |true=>simp only[Yx,Y5]
    |false=>
     simp only[Yu,Y1,DY,reduceCtorEq]
     rw[l]at b
     simpa using b
   ·have i:((((((!decide (f.type.kind=9))||(!a.2))||a.1.opn)||decide (f.card=5))||(!decide (x.wire=0)))||decide (2147483648≤x.bits))=true:=by
     simp only[YF,YN,Yw,YM]
     cases e:a.2<;>cases g:a.1.opn<;>simp only[e,g,Li,and_true,false_and,and_false,reduceCtorEq,NL,true_or,or_true,false_or,or_false]at k⊢<;>omega
    have v:(decide (f.type.kind=9)&&a.2&&!a.1.opn&&!decide (f.card=5)&&decide (x.wire=0)&&decide (x.bits<2147483648)&&!H9 a.1 x.bits)=false:=by
     rw[Lh]
     left
     cases e:a.2<;>cases g:a.1.opn<;>simp only[e,g,XP,Hg,Y5,DY,NQ]at k⊢
     simp only[Lh,XB,YM,Yw]
     simp only[Li]at k
     omega
    simp only[i,v,Y5,Yu,XS,Yx,NH]
theorem ZAb(R:Wc)(n:Fld→Val→Int)(s:Scm)(m:Msg)(v:Val)(i:Nat)(x:Slt)(a:Int)(k:Bool)(hm:m.fields.length≤1048576)(hl:v.slots.length≤1048576)(h:v.slots[i]?=some x)(G:1≤a∧a≤16)(u:∀f:Fld,(CB m.fields x.num)=(f,true)→R s f x.val (a+1) k=some (n f x.val)):Tm R s m v i a k=some (FN n m.fields v.slots i x):=by
 have hi:=(Yd.1 h).1
 have c:(v.slots.take i).length=i:=by rw[Yy];omega
 have b:∀(j:Nat) (y:Slt),(v.slots.take i)[j]?=some y→j<i∧v.slots[j]?=some y:=fun j y hy=>by
  rw[YR]at hy
  split at hy
  ·exact⟨by assumption,hy⟩
  ·cases hy
 have C:∀y:Fld×Bool,Am (MA s m v i a k R y) Ai 0=some (if Gl (v.slots.take i) y.1.num=true then .inr 9 else .inl ()):=fun y=>by
  have q:=gX (B:=MA s m v i a k R y) (N:=Ai) (v.slots.take i) (fun z=>decide (z.num=y.1.num)) (9:Int) () (fun j z l=>by
   obtain⟨r,d⟩:=b j z l
   have e:(j:Int)<i:=by omega
   have g:j+1<9223372036854775808:=by omega
   dsimp only[MA,UQ,br,ix,wg,vs,Au,ln,Aj,wa,br]
   simp only[d,e,g,Yv,Yx,Ye]
   cases decide (z.num=y.1.num)<;>simp) (by rw[c];dsimp only[MA,UQ,br,ix,wg,vs,Au,ln,Aj,wa,br];simp) (by rw[c];exact A6 (by omega))
  exact q
 have D:∀y:Fld×Bool,Am (Mq s m v i a k R y) Ai 0=some (if J5 m.fields (v.slots.take i) y.1.union=true then .inr 15 else .inl ()):=fun y=>by
  have q:=gX (B:=Mq s m v i a k R y) (N:=Ai) (v.slots.take i) (fun z=>(!decide (y.1.union=⟨#[]⟩))&&decide ((BG m.fields z.num).union=y.1.union)) (15:Int) () (fun j z l=>by
   obtain⟨r,d⟩:=b j z l
   have e:(j:Int)<i:=by omega
   have g:j+1<9223372036854775808:=by omega
   have t:(CB m.fields z.num).1=BG m.fields z.num:=rfl
   dsimp only[Mq,UR,U2,U0,UI,br,ix,wg,vs,Au,ln,Aj,lc,cl,wa,du,br]
   simp only[d,e,g,nD _ _ hm,t,Yv,Yx,Ye]
   cases(!decide (y.1.union=⟨#[]⟩))&&decide ((BG m.fields z.num).union=y.1.union)<;>simp) (by rw[c];dsimp only[Mq,UR,U2,U0,UI,br,ix,wg,vs,Au,ln,Aj,lc,cl,wa,du,br];simp) (by rw[c];exact A6 (by omega))
  rw[q]
  congr 2
  unfold J5
  by_cases p:y.1.union=⟨#[]⟩
  ·simp only[p,Yv,Y5,Hg,eq_iff_iff,Yu,iff_false,YQ,not_exists,and_false,NL,EY]
  ·simp only[p,Y2,DY,F4]
 have w0:(0:Int)≤i∧(i:Int)<v.slots.length:=by omega
 have E:(CB m.fields x.num).1=BG m.fields x.num:=rfl
 have w2: -9223372036854775808≤a+1∧a+1<9223372036854775808:=by omega
 have F:(v.slots.getD i Rw.z)=x:=by rw[Ym,h];rfl
 unfold FN
 dsimp only[Tm,ij,io,iK,i4,i9,mW,br,CF,vw,wg,vs,lr,lc,cl,cs,wi,du,br]
 simp only[YX,h,w0,F,Dx,Yx,nD _ _ hm,Ye,C,D,E,w2]
 cases o:(CB m.fields x.num).2 with
 |false=>simp
 |true=>
  have w:(BG m.fields x.num).num=x.num:=gL o
  have A:=u (BG m.fields x.num) (Prod.ext rfl o)
  rw[w]
  cases Gl (v.slots.take i) x.num with
  |true=>simp
  |false=>
   cases J5 m.fields (v.slots.take i) (BG m.fields x.num).union with
   |true=>simp
   |false=>simp[A]
theorem Ztb(R:Wc){s:Scm}(hs:Ar (Al s)≤1048576)(m:Msg)(v:Val)(d:Nat)(L:d≤16)(k:Bool)(hm:m.fields.length≤1048576)(p:Bk v)(E:∀d':Nat,d=d'+1→∀(f:Fld) (x:Val),Bk x→R s f x (17-(d':Int)) k=some (CK (Bc s k d') s k f x)):Oy R s m v (17-(d:Int)) k=some (Bc s k d m v):=by
 have h:=Gx hs
 have G:=Ex p
 obtain⟨s1,s2,M,u,O⟩:=Ex p
 have w:m.fields.length<4611686018427387904:=by omega
 have y:v.slots.length<4611686018427387904:=by omega
 have z:v.raws.length<4611686018427387904:=by omega
 dsimp only[Oy,b8,cj,ZD,ag,aF,br,wg,lr,lc,AC,br]
 rw[iz G]
 by_cases c:v.kind≠10∨CA v=true
 ·have A:Bc s k d m v=12:=by cases d<;>(unfold Bc;rw[Yg c])
  rw[A]
  by_cases b:v.kind=10
  ·have o:CA v=true:=c.resolve_left fun e=>e b
   simp[b,o]
  ·simp[b]
 ·have b:v.kind=10:=Decidable.not_not.1 fun e=>c (.inl e)
  have o:CA v=false:=by
   cases h:CA v with
   |false=>rfl
   |true=>exact absurd (.inr h) c
  cases d with
  |zero=>
   unfold Bc
   rw[Yj c]
   simp[b,o]
  |succ d=>
   have H:(1:Int)≤17-((d+1:Nat):Int)∧17-((d+1:Nat):Int)≤16:=by omega
   have r:¬(16:Int)<17-((d+1:Nat):Int):=by omega
   have I:=OP (B:=PB s m v (17-((d+1:Nat):Int)) k R) (N:=Ai) v.slots (FN (CK (Bc s k d) s k) m.fields v.slots) id () (fun i x a _=>by
    have e:=ZAb R (CK (Bc s k d) s k) s m v i x _ k hm u a H fun f l=>by
     have:=E d rfl f x.val (KD p (Yk a))
     rw[show 17-((d+1:Nat):Int)+1=17-(d:Int)by omega]
     exact this
    have g:=BP a
    have j:i+1<9223372036854775808:=by have:=(Yd.1 a).1;omega
    dsimp only[PB,V1,br,vz,wg,vs,v2,Au,ln,Aj,cs,wa,Ah,br]
    simp only[y,g,j,e,Yv,Yx,Ye]
    by_cases hy:FN (CK (Bc s k d) s k) m.fields v.slots i x=0<;>simp[hy]) (by dsimp only[PB,V1,br,vz,wg,vs,v2,Au,ln,Aj,cs,wa,Ah,br];simp[y]) (A6 (by omega))
   have J:=OP (B:=PR s m v R) (N:=Ai) m.fields (fun _ f=>HW v.slots f) id () (fun i f l _=>by
    have g:=BP l
    have j:i+1<9223372036854775808:=by have:=(Yd.1 l).1;omega
    have C:m.fields.getD i Rw.z=f:=by rw[Ym,l];rfl
    have D:(0:Int)≤i∧(i:Int)<m.fields.length:=⟨by omega,g⟩
    have e:=ZKM v f.num u
    unfold HW
    dsimp only[PR,RC,br,ix,AS,vz,wg,vs,Au,ln,Aj,AC,wa,Ah,br]
    simp only[w,g,j,C,D,l,e,YX,Yv,Yx,Ye,Dx,EY,Hl,YU]
    by_cases F:f.card=1<;>cases Gl v.slots f.num<;>simp[F]) (by dsimp only[PR,RC,br,ix,AS,vz,wg,vs,Au,ln,Aj,AC,wa,Ah,br];simp[w]) (A6 (by omega))
   have K:=OP (B:=PO s m v R) (N:=Ai) v.raws (fun _ x=>JX s m.fields x) id () (fun i x a _=>by
    have g:=BP a
    have j:i+1<9223372036854775808:=by have:=(Yd.1 a).1;omega
    have e:=ZHT hs m x hm (ZV7 p (Yk a))
    dsimp only[PO,Rs,br,ix,vz,wg,vs,Au,ln,Aj,cl,wa,Ah,br]
    simp only[z,g,j,a,e,Yv,Yx,Ye]
    by_cases hy:JX s m.fields x=0<;>simp[hy]) (by dsimp only[PO,Rs,br,ix,vz,wg,vs,Au,ln,Aj,cl,wa,Ah,br];simp[z]) (A6 (by omega))
   unfold Bc
   rw[Yj c]
   simp only[b,o,r,I,J,K,Yv,Y2,Y5,DY,QI,Yu,QP,Hl,YU,Yx,Y1,Ye]
   by_cases n:Ci (FN (CK (Bc s k d) s k) m.fields v.slots) v.slots 0=0
   ·by_cases q:Ci (fun _ f=>HW v.slots f) m.fields 0=0
    ·by_cases t:Ci (fun _ x=>JX s m.fields x) v.raws 0=0
     ·simp[n,q,t]
     ·simp[n,q,t]
    ·simp[n,q]
   ·simp[n]
theorem ZLM(R:Wc){s:Scm}(hs:Ar (Al s)≤1048576)(t:Typ)(v:Val)(d:Nat)(p:d≤16)(k:Bool)(l:Bk v)(o:∀d':Nat,d=d'+1→∀(f:Fld) (x:Val),Bk x→R s f x (17-(d':Int)) k=some (CK (Bc s k d') s k f x)):L5 R s t v (17-(d:Int)) k=some (Dk (Bc s k d) s t v):=by
 have h:=Gx hs
 have hm:=Ztb R hs (B1 s t.name).1 v d p k (Up h _) l o
 have n:v.bits<9223372036854775808→Ou (C2 s t.name).1 v.bits=_:=fun i=>ug _ _ (ZrT h _) (Zt9 hs _) i
 have m:L3 s t.name=some (B1 s t.name):=nB s _ h.ml
 dsimp only[L5,l0,br,wg,lr,cl,AC,cs,br]
 rw[m,wN _ (Ex l),ti s _ h.el]
 simp only[Ye]
 unfold Dk
 by_cases c:t.kind=10
 ·simp only[c,Yv,Yx,hm,Ye]
  cases(B1 s t.name).2<;>simp
 ·by_cases e:t.kind<1∨9<t.kind
  ·have g:(decide (t.kind<1)||decide (9<t.kind))=true:=by simpa using e
   simp only[c,e,g,Y2,Yu,Y1,Yx]
  ·have g:(decide (t.kind<1)||decide (9<t.kind))=false:=by
    rw[Jq,YM,YM]
    omega
   simp only[c,e,g,Y2,Yu,Y1]
   by_cases a:Ej t.kind v=0∧t.kind=9
   ·obtain⟨a,b⟩:=a
    have i:v.bits<9223372036854775808:=by
     rw[b]at a
     unfold Ej at a
     by_cases a1:v.kind≠9∨CA v=true
     ·rw[Yg a1]at a;cases a
     ·rw[Yj a1]at a
      by_cases j:4096<v.text.size
      ·rw[Yg j]at a;cases a
      ·rw[Yj j]at a
       cases a3:IQ 9 v with
       |false=>rw[a3]at a;simp at a
       |true=>
        unfold IQ at a3
        simp only[Yc]at a3
        have a4:=a3.2
        rw[Yj (by decide)]at a4
        simp only[Yc]at a4
        have a5:=a4.2
        unfold Si at a5
        rw[Yj (by decide),Yj (by decide),Yj (by decide),Yg rfl,Yw]at a5
        omega
    rw[n i,a,b]
    cases(C2 s t.name).2<;>cases(C2 s t.name).1.opn<;>cases H9 (C2 s t.name).1 v.bits<;>simp
   ·have b:((!decide (Ej t.kind v=0))||!decide (t.kind=9))=true:=by
     simp only[YF,YN,YM]
     omega
    rw[Yg b,Yg (by omega)]
theorem ZLs(R:Wc){s:Scm}(hs:Ar (Al s)≤1048576)(f:Fld)(v:Val)(d:Nat)(T:d≤16)(k:Bool)(u:Bk v)(S:∀d':Nat,d=d'+1→∀(f:Fld) (x:Val),Bk x→R s f x (17-(d':Int)) k=some (CK (Bc s k d') s k f x)):WG R s f v (17-(d:Int)) k=some (CK (Bc s k d) s k f v):=by
 have h:=Gx hs
 have m:=Ex u
 obtain⟨s1,s2,Z,s4,s5⟩:=Ex u
 have H:v.list.length<4611686018427387904:=by omega
 have w2:v.pairs.length<4611686018427387904:=by omega
 have A:=fun(x:Val) (l:Bk x)=>ZLM R hs f.type x d T k l S
 generalize 17-(d:Int)=C at A
 have V:=OP (B:=Pn s f v C k R) (N:=Ai) v.list (fun _ x=>Dk (Bc s k d) s f.type x) id () (fun i x l _=>by
  have y:=BP l
  have g:i+1<9223372036854775808:=by have:=(Yd.1 l).1;omega
  have e:=A x (MR u (Yk l))
  dsimp only[Pn,U6,br,ix,vz,wg,vs,v2,Au,ln,Aj,cs,wa,Ah,br]
  simp only[H,y,g,l,e,Yv,Yx,Ye]
  by_cases hy:Dk (Bc s k d) s f.type x=0<;>simp[hy]) (by dsimp only[Pn,U6,br,ix,vz,wg,vs,v2,Au,ln,Aj,cs,wa,Ah,br];simp[H]) (A6 (by omega))
 have X:∀(i:Nat) (p:Pr),v.pairs[i]?=some p→Am (Kp s f v C k R i) Ai 0=some (if k=true∧((v.pairs.take i).any fun q=>JI q.key p.key)=true then .inr 9 else .inl ()):=fun i p c=>by
  have hi:=(Yd.1 c).1
  have G:(v.pairs.take i).length=i:=by rw[Yy];omega
  cases k with
  |false=>
   obtain⟨Y,E⟩:∃b,Ai=b+1:=⟨Ai-1,by have:=A6 (n:=20) (by omega);omega⟩
   rw[E,Am]
   dsimp only[Kp,O9,br,ix,AS,wg,vs,Au,ln,Aj,wa,br]
   simp
  |true=>
   have q:=gX (B:=Kp s f v C true R i) (N:=Ai) (v.pairs.take i) (fun q=>JI q.key p.key) (9:Int) () (fun j z m=>by
    have U:j<i∧v.pairs[j]?=some z:=by
     rw[YR]at m
     split at m
     ·exact⟨by assumption,m⟩
     ·cases m
    obtain⟨y,g⟩:=U
    have K:(j:Int)<i:=by omega
    have L:j+1<9223372036854775808:=by omega
    have M:v.pairs.getD j Rw.z=z:=by rw[Ym,g];rfl
    have O:v.pairs.getD i Rw.z=p:=by rw[Ym,c];rfl
    have P:(0:Int)≤j∧(j:Int)<v.pairs.length:=by omega
    have Q:(0:Int)≤i∧(i:Int)<v.pairs.length:=by omega
    unfold JI
    dsimp only[Kp,O9,br,ix,AS,wg,vs,Au,ln,Aj,wa,br]
    simp only[g,K,L,M,O,P,Q,c,YX,Yv,NQ,Yx,Ye,Dx,EY]
    cases decide (z.key.bits=p.key.bits)&&decide (z.key.text=p.key.text)<;>simp) (by rw[G];dsimp only[Kp,O9,br,ix,AS,wg,vs,Au,ln,Aj,wa,br];simp) (by rw[G];exact A6 (by omega))
   rw[q]
   simp
 have W:=OP (B:=O6 s f v C k R) (N:=Ai) v.pairs (Ly (Dk (Bc s k d) s f.type) f.key k v.pairs) id () (fun i p c _=>by
  have y:=BP c
  have g:i+1<9223372036854775808:=by have:=(Yd.1 c).1;omega
  have F:=FG u (Yk c)
  have I:=wN f.key (Ex F.1)
  have J:=A p.val F.2
  unfold Ly
  dsimp only[O6,Ul,VJ,U5,UY,UV,br,ix,vz,wg,vs,Au,ln,Aj,lc,cl,cs,wa,Ah,br]
  simp only[w2,y,g,c,I,J,X i p c,Yv,Yx,Ye]
  by_cases w:Ej f.key p.key=0
  ·by_cases o:k=true∧((v.pairs.take i).any fun q=>JI q.key p.key)=true
   ·simp[w,o]
   ·by_cases D:Dk (Bc s k d) s f.type p.val=0
    ·rw[Yj o]
     simp only[w,o,D]
     simp
    ·rw[Yj o]
     simp only[w,o,D]
     simp[D]
  ·simp[w]) (by dsimp only[O6,Ul,VJ,U5,UY,UV,br,ix,vz,wg,vs,Au,ln,Aj,lc,cl,cs,wa,Ah,br];simp[w2]) (A6 (by omega))
 have e0:=A v u
 unfold CK
 dsimp only[WG,hJ,iI,iJ,kJ,ie,lZ,iE,iG,jY,hX,iu,ii,br,wg,lr,lc,AC,cs,br]
 rw[iz m,V,W,e0]
 by_cases r:f.card=4
 ·by_cases a:v.kind=11
  ·cases CA v with
   |true=>simp[r,a]
   |false=>
    by_cases c6:Ci (fun _ x=>Dk (Bc s k d) s f.type x) v.list 0=0
    ·simp[r,a,c6]
    ·simp[r,a,c6]
  ·simp[r,a]
 ·by_cases t:f.card=5
  ·by_cases a:v.kind=12
   ·cases CA v with
    |true=>simp[t,a]
    |false=>
     by_cases c6:Ci (Ly (Dk (Bc s k d) s f.type) f.key k v.pairs) v.pairs 0=0
     ·simp[t,a,c6]
     ·simp[t,a,c6]
   ·simp[t,a]
  ·simp[r,t]
theorem Zog{s:Scm}(hs:Ar (Al s)≤1048576)(k:Bool):∀(a d:Nat),d<a→d≤16→∀(f:Fld) (v:Val),Bk v→IT a s f v (17-(d:Int)) k=some (CK (Bc s k d) s k f v)
 |0,d,b,_,_,_,_=>absurd b (GC _)
 |a+1,d,b,c,f,v,h=>ZLs (IT a) hs f v d c k h fun d' e g x i=>Zog hs k a d' (by omega) (by omega) g x i
theorem yp:20<Ai:=A6 (by omega)
theorem Zzb{s:Scm}(hs:Ar (Al s)≤1048576)(m:Msg)(v:Val)(k:Bool)(hm:m.fields.length≤1048576)(a:Bk v):Oy (IT Ai) s m v 1 k=some (Bc s k 16 m v):=
 Ztb (IT Ai) hs m v 16 (Yf _) k hm a fun d' e f x b=>Zog hs k Ai d' (by have:=yp;omega) (by omega) f x b
end Go.Proofs.YthgmbpciandpiaaGreat
