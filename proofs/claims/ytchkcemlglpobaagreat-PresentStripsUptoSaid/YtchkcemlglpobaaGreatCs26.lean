import Derived.Test.YtchkcemlglpobaaGreatCs25
import Derived.Test.YtchkcemlglpobaaGreatCs23
import Derived.Test.YtchkcemlglpobaaGreatCs00
namespace Go.Proofs.YtchkcemlglpobaaGreat
set_option linter.all false
open Go Go.Eng
theorem IA{v x:Val}(b:x∈v.list):Ax (Ag x)<Ax (Ag v):=by
 have a:=CF (e:=Aq) b
 rw[FZ]at a
 conv=>rhs;unfold Ag
 simp only[Ax,bk]
 omega
theorem Fq{v:Val}{x:Pr}(c:x∈v.pairs):Ax (Ag x.key)<Ax (Ag v)∧Ax (Ag x.val)<Ax (Ag v):=by
 have b:=CF (e:=Au) c
 have e:Au x=Ag x.key++Ag x.val:=by rw[Ix];rfl
 rw[e,Mn]at b
 have a:Ax (Ag v)=Ax [.int .i64 v.kind,.int .u64 v.bits,.str v.text,.list (v.list.map Aq),.list (v.pairs.map Au),.list (v.slots.map Aj),.list (v.raws.map Az)]:=rfl
 rw[a]
 simp only[Ax,bk]
 omega
theorem Iz{v:Val}{x:Slt}(c:x∈v.slots):Ax (Ag x.val)<Ax (Ag v):=by
 have a:=CF (e:=Aj) c
 have e:Aj x=D.int .i64 x.num::Ag x.val:=by rw[F0];rfl
 rw[e,Ax]at a
 have b:Ax (Ag v)=Ax [.int .i64 v.kind,.int .u64 v.bits,.str v.text,.list (v.list.map Aq),.list (v.pairs.map Au),.list (v.slots.map Aj),.list (v.raws.map Az)]:=rfl
 rw[b]
 simp only[Ax,bk]at a⊢
 omega
theorem C9{α:Type}{l:List α}{i:Nat}(z:α)(h:i<l.length):l[i]?=some (l.getD ((i:Int)).toNat z):=by
 rw[HN,Yz,Yb h]
 rfl
theorem Du:∀(a:Nat) (v:Val),Ax (Ag v)<a→AZ v→Ok (fun b=>b=true) (BL a v v)
 |0,v,h,_=>by omega
 |a+1,v,h,k=>by
  obtain⟨s1,s2,n,o,p⟩:=BY k
  have f:∀(i:Nat) (x y:Val),v.list[i]?=some x→v.list[i]?=some y→Ok (fun b=>b=true) (BL a x y):=fun i x y c hy=>by
   rw[c]at hy
   cases hy
   have hm:=Yi c
   exact Du a x (by have:=IA hm;omega) (G3 k hm)
  have d:∀(i:Nat) (x y:Pr),v.pairs[i]?=some x→v.pairs[i]?=some y→Ok (fun b=>b=true) (BL a x.key y.key)∧Ok (fun b=>b=true) (BL a x.val y.val):=fun i x y c hy=>by
   rw[c]at hy
   cases hy
   have hm:=Yi c
   exact⟨Du a _ (by have:=(Fq hm).1;omega) (D0 k hm).1,Du a _ (by have:=(Fq hm).2;omega) (D0 k hm).2⟩
  have e:∀(i:Nat) (x y:Slt),v.slots[i]?=some x→v.slots[i]?=some y→Ok (fun b=>b=true) (BL a x.val y.val):=fun i x y c hy=>by
   rw[c]at hy
   cases hy
   have hm:=Yi c
   exact Du a _ (by have:=Iz hm;omega) (El k hm)
  have g:Ok (Sum.elim Tr No) (Am (Kq v v (BL a)) Ai 0):=by
   refine Ok.loop (fun i:Nat=>i≤v.list.length) (fun i:Nat=>v.list.length-i) (by omega) (AW (by omega)) fun i hi=>?_
   dsimp only[Kq,SC,br,ix,vz,vw,vs,Ay,ln,Al,cs,wa,Ah,br]
   (repeat' (first|with_reducible refine Ok.br (fun _=>?_) (fun _=>?_)|with_reducible refine Ok.pure ?_|with_reducible refine Ok.idx ?_ (fun _ _ _=>?_)|(with_reducible apply Ok.bind;(exact f i _ _ (by assumption) (by assumption));intro _ _)|with_reducible refine Ok.if ?_ ?_))<;>(first|trivial|assumption|contradiction|omega|grind|(simp only[Bd.c,Bd.vl,ByteArray.size_append,ByteArray.size_extract,AE]at*;grind))
  have j:Ok (Sum.elim Tr No) (Am (Km v v (BL a)) Ai 0):=by
   refine Ok.loop (fun i:Nat=>i≤v.pairs.length) (fun i:Nat=>v.pairs.length-i) (by omega) (AW (by omega)) fun i hi=>?_
   dsimp only[Km,SD,br,ix,A8,vz,vw,vs,Ay,ln,Al,cs,Hv,wa,Ah,br]
   (repeat' (first|with_reducible refine Ok.br (fun _=>?_) (fun _=>?_)|with_reducible refine Ok.pure ?_|with_reducible refine Ok.idx ?_ (fun _ _ _=>?_)|(with_reducible apply Ok.bind;(exact(d i _ _ (by assumption) (by assumption)).1);intro _ _)|(with_reducible apply Ok.bind;(exact(d i _ _ (C9 _ (by(first|trivial|assumption|contradiction|omega|solve_by_elim|(simp only[Bool.and_eq_true,Bool.or_eq_true,Bool.not_eq_true',Bool.and_eq_false_iff,Bool.or_eq_false_iff,decide_eq_true_eq,decide_eq_false_iff_not]at*;omega)|grind))) (C9 _ (by(first|trivial|assumption|contradiction|omega|solve_by_elim|(simp only[Bool.and_eq_true,Bool.or_eq_true,Bool.not_eq_true',Bool.and_eq_false_iff,Bool.or_eq_false_iff,decide_eq_true_eq,decide_eq_false_iff_not]at*;omega)|grind)))).2);intro _ _)|(with_reducible apply Ok.clg;(exact fun _=>(d i _ _ (by assumption) (by assumption)).1);intro _)|(with_reducible apply Ok.clg;(exact fun _=>(d i _ _ (C9 _ (by(first|trivial|assumption|contradiction|omega|solve_by_elim|(simp only[Bool.and_eq_true,Bool.or_eq_true,Bool.not_eq_true',Bool.and_eq_false_iff,Bool.or_eq_false_iff,decide_eq_true_eq,decide_eq_false_iff_not]at*;omega)|grind))) (C9 _ (by(first|trivial|assumption|contradiction|omega|solve_by_elim|(simp only[Bool.and_eq_true,Bool.or_eq_true,Bool.not_eq_true',Bool.and_eq_false_iff,Bool.or_eq_false_iff,decide_eq_true_eq,decide_eq_false_iff_not]at*;omega)|grind)))).2);intro _)|with_reducible refine Ok.idxg ?_ (fun _=>?_)|with_reducible refine Ok.if ?_ ?_))<;>(first|trivial|assumption|contradiction|omega|grind|(simp only[Bd.c,Bd.vl,ByteArray.size_append,ByteArray.size_extract,AE]at*;grind))
  have l:Ok (Sum.elim Tr No) (Am (Ke v v (BL a)) Ai 0):=by
   refine Ok.loop (fun i:Nat=>i≤v.slots.length) (fun i:Nat=>v.slots.length-i) (by omega) (AW (by omega)) fun i hi=>?_
   dsimp only[Ke,RH,br,ix,A8,vz,vw,vs,Ay,ln,Al,Hv,wa,Ah,br]
   (repeat' (first|with_reducible refine Ok.br (fun _=>?_) (fun _=>?_)|with_reducible refine Ok.pure ?_|with_reducible refine Ok.idx ?_ (fun _ _ _=>?_)|(with_reducible apply Ok.bind;(exact e i _ _ (C9 _ (by(first|trivial|assumption|contradiction|omega|solve_by_elim|(simp only[Bool.and_eq_true,Bool.or_eq_true,Bool.not_eq_true',Bool.and_eq_false_iff,Bool.or_eq_false_iff,decide_eq_true_eq,decide_eq_false_iff_not]at*;omega)|grind))) (C9 _ (by(first|trivial|assumption|contradiction|omega|solve_by_elim|(simp only[Bool.and_eq_true,Bool.or_eq_true,Bool.not_eq_true',Bool.and_eq_false_iff,Bool.or_eq_false_iff,decide_eq_true_eq,decide_eq_false_iff_not]at*;omega)|grind))));intro _ _)|(with_reducible apply Ok.clg;(exact fun _=>e i _ _ (C9 _ (by(first|trivial|assumption|contradiction|omega|solve_by_elim|(simp only[Bool.and_eq_true,Bool.or_eq_true,Bool.not_eq_true',Bool.and_eq_false_iff,Bool.or_eq_false_iff,decide_eq_true_eq,decide_eq_false_iff_not]at*;omega)|grind))) (C9 _ (by(first|trivial|assumption|contradiction|omega|solve_by_elim|(simp only[Bool.and_eq_true,Bool.or_eq_true,Bool.not_eq_true',Bool.and_eq_false_iff,Bool.or_eq_false_iff,decide_eq_true_eq,decide_eq_false_iff_not]at*;omega)|grind))));intro _)|with_reducible refine Ok.idxg ?_ (fun _=>?_)|with_reducible refine Ok.if ?_ ?_))<;>(first|trivial|assumption|contradiction|omega|grind|(simp only[Bd.c,Bd.vl,ByteArray.size_append,ByteArray.size_extract,AE]at*;grind))
  have m:Ok (Sum.elim Tr No) (Am (Kr v v (BL a)) Ai 0):=by
   refine Ok.loop (fun i:Nat=>i≤v.raws.length) (fun i:Nat=>v.raws.length-i) (by omega) (AW (by omega)) fun i hi=>?_
   dsimp only[Kr,RI,br,ix,vz,vw,vs,Ay,ln,Al,wa,Ah,br]
   (repeat' (first|with_reducible refine Ok.br (fun _=>?_) (fun _=>?_)|with_reducible refine Ok.pure ?_|with_reducible refine Ok.idx ?_ (fun _ _ _=>?_)|with_reducible refine Ok.if ?_ ?_))<;>(first|trivial|assumption|contradiction|omega|grind|(simp only[Bd.c,Bd.vl,ByteArray.size_append,ByteArray.size_extract,AE]at*;grind))
  show Ok _ (I3 (BL a) v v)
  dsimp only[I3,QP,R8,R9,SE,Sk,SL,br,vy,vw,lr,lc,Ah,br]
  (repeat' (first|with_reducible refine Ok.br (fun _=>?_) (fun _=>?_)|with_reducible refine Ok.pure ?_|(with_reducible apply Ok.lb;(exact g);all_goals(intro _ _;try dsimp only))|(with_reducible apply Ok.lb;(exact j);all_goals(intro _ _;try dsimp only))|(with_reducible apply Ok.lb;(exact l);all_goals(intro _ _;try dsimp only))|(with_reducible apply Ok.lb;(exact m);all_goals(intro _ _;try dsimp only))|with_reducible refine Ok.if ?_ ?_))<;>first|rfl|contradiction|(simp at*;done)
end Go.Proofs.YtchkcemlglpobaaGreat
namespace Go.Proofs.YtchkcemlglpobaaGreat
set_option linter.all false
open Go Go.Eng
theorem x6:∀(a:Nat) (v:Val) (lv n:Int),AZ v→1≤lv→42-lv<a→lv≤41→0≤n→n≤2000→Ok (fun y:Int=>-1≤y∧y≤2000) (Fg a v lv n)
 |0,v,lv,n,h,g,j,k,l,o=>by omega
 |a+1,v,lv,n,h,g,j,k,l,o=>by
  obtain⟨s1,s2,w,z,A⟩:=BY h
  have R:∀(x:Val) (n:Int),AZ x→lv≤40→0≤n→n≤2000→Ok (fun y:Int=>-1≤y∧y≤2000) (Fg a x (lv+1) n):=fun x n q hl p f=>x6 a x (lv+1) n q (by omega) (by omega) (by omega) p f
  have r:Ok (Sum.elim Tr (fun y:Int=>y= -1)) (Am (R5 v lv n (Fg a)) Ai 0):=by
   refine Ok.loop (fun i:Nat=>i≤v.raws.length) (fun i:Nat=>v.raws.length-i) (by omega) (AW (by omega)) fun i hi=>?_
   dsimp only[R5,V1,br,ix,vz,vw,vs,Ay,ln,Al,wa,Ah,A3,br]
   (repeat' (first|with_reducible refine Ok.br (fun _=>?_) (fun _=>?_)|with_reducible refine Ok.pure ?_|with_reducible refine Ok.idx ?_ (fun _ _ _=>?_)|with_reducible refine Ok.if ?_ ?_))<;>(first|trivial|assumption|contradiction|omega|grind|(simp only[Bd.c,Bd.vl,ByteArray.size_append,ByteArray.size_extract,AE]at*;grind))
  have s:∀m:Int,lv≤40→ -1≤m→m≤2000→Ok (Sum.elim (fun y:Int=>-1≤y∧y≤2000) No) (Am (SN v lv (Fg a)) Ai (m,0)):=by
   intro m hl hm e
   refine Ok.loop (fun i:Int×Nat=>i.2≤v.list.length∧ -1≤i.1∧i.1≤2000) (fun i:Int×Nat=>v.list.length-i.2) ⟨by omega,by omega,by omega⟩ (AW (by omega)) fun i hi=>?_
   obtain⟨m,i⟩:=i
   obtain⟨c,d,b⟩:=hi
   dsimp only at c d b
   dsimp only[SN,TZ,br,ix,vz,vw,vs,ln,Al,cs,wa,wi,Ah,br]
   (repeat' (first|with_reducible refine Ok.br (fun _=>?_) (fun _=>?_)|with_reducible refine Ok.pure ?_|with_reducible refine Ok.idx ?_ (fun _ _ _=>?_)|(with_reducible apply Ok.bind;(exact R _ _ (G3 h (by assumption)) hl (by(first|trivial|assumption|contradiction|omega|solve_by_elim|(simp only[Bool.and_eq_true,Bool.or_eq_true,Bool.not_eq_true',Bool.and_eq_false_iff,Bool.or_eq_false_iff,decide_eq_true_eq,decide_eq_false_iff_not]at*;omega)|grind)) b);intro _ _)|with_reducible refine Ok.if ?_ ?_))<;>(first|trivial|assumption|contradiction|omega|grind|(simp only[Bd.c,Bd.vl,ByteArray.size_append,ByteArray.size_extract,AE]at*;grind))
  have t:∀m:Int,lv≤40→ -1≤m→m≤2000→Ok (Sum.elim (fun y:Int=>-1≤y∧y≤2000) No) (Am (Sr v lv (Fg a)) Ai (m,0)):=by
   intro m hl hm e
   refine Ok.loop (fun i:Int×Nat=>i.2≤v.pairs.length∧ -1≤i.1∧i.1≤2000) (fun i:Int×Nat=>v.pairs.length-i.2) ⟨by omega,by omega,by omega⟩ (AW (by omega)) fun i hi=>?_
   obtain⟨m,i⟩:=i
   obtain⟨c,d,b⟩:=hi
   dsimp only at c d b
   dsimp only[Sr,VB,br,ix,vz,vw,vs,ln,Al,cs,wa,wi,Ah,br]
   (repeat' (first|with_reducible refine Ok.br (fun _=>?_) (fun _=>?_)|with_reducible refine Ok.pure ?_|with_reducible refine Ok.idx ?_ (fun _ _ _=>?_)|(with_reducible apply Ok.bind;(exact R _ _ (D0 h (by assumption)).1 hl (by(first|trivial|assumption|contradiction|omega|solve_by_elim|(simp only[Bool.and_eq_true,Bool.or_eq_true,Bool.not_eq_true',Bool.and_eq_false_iff,Bool.or_eq_false_iff,decide_eq_true_eq,decide_eq_false_iff_not]at*;omega)|grind)) b);intro _ _)|(with_reducible apply Ok.bind;(exact R _ _ (D0 h (by assumption)).2 hl (by(first|trivial|assumption|contradiction|omega|solve_by_elim|(simp only[Bool.and_eq_true,Bool.or_eq_true,Bool.not_eq_true',Bool.and_eq_false_iff,Bool.or_eq_false_iff,decide_eq_true_eq,decide_eq_false_iff_not]at*;omega)|grind)) (by(first|trivial|assumption|contradiction|omega|solve_by_elim|(simp only[Bool.and_eq_true,Bool.or_eq_true,Bool.not_eq_true',Bool.and_eq_false_iff,Bool.or_eq_false_iff,decide_eq_true_eq,decide_eq_false_iff_not]at*;omega)|grind)));intro _ _)|with_reducible refine Ok.if ?_ ?_))<;>(first|trivial|assumption|contradiction|omega|grind|(simp only[Bd.c,Bd.vl,ByteArray.size_append,ByteArray.size_extract,AE]at*;grind))
  have u:∀m:Int,lv≤40→ -1≤m→m≤2000→Ok (Sum.elim (fun y:Int=>-1≤y∧y≤2000) No) (Am (RU v lv (Fg a)) Ai (m,0)):=by
   intro m hl hm e
   refine Ok.loop (fun i:Int×Nat=>i.2≤v.slots.length∧ -1≤i.1∧i.1≤2000) (fun i:Int×Nat=>v.slots.length-i.2) ⟨by omega,by omega,by omega⟩ (AW (by omega)) fun i hi=>?_
   obtain⟨m,i⟩:=i
   obtain⟨c,d,b⟩:=hi
   dsimp only at c d b
   dsimp only[RU,Uh,br,ix,vz,vw,vs,ln,Al,cs,wa,wi,Ah,br]
   (repeat' (first|with_reducible refine Ok.br (fun _=>?_) (fun _=>?_)|with_reducible refine Ok.pure ?_|with_reducible refine Ok.idx ?_ (fun _ _ _=>?_)|(with_reducible apply Ok.bind;(exact R _ _ (El h (by assumption)) hl (by(first|trivial|assumption|contradiction|omega|solve_by_elim|(simp only[Bool.and_eq_true,Bool.or_eq_true,Bool.not_eq_true',Bool.and_eq_false_iff,Bool.or_eq_false_iff,decide_eq_true_eq,decide_eq_false_iff_not]at*;omega)|grind)) b);intro _ _)|with_reducible refine Ok.if ?_ ?_))<;>(first|trivial|assumption|contradiction|omega|grind|(simp only[Bd.c,Bd.vl,ByteArray.size_append,ByteArray.size_extract,AE]at*;grind))
  show Ok _ (O2 (Fg a) v lv n)
  dsimp only[O2,ei,UN,Vl,Vk,Wo,Wt,br,vz,vy,vw,vs,lr,lc,wi,Ah,A3,br]
  (repeat' (first|with_reducible refine Ok.br (fun _=>?_) (fun _=>?_)|with_reducible refine Ok.pure ?_|(with_reducible apply Ok.lb;(exact r);all_goals(intro _ _;try dsimp only))|(with_reducible apply Ok.lb;(exact s _ (by(first|trivial|assumption|contradiction|omega|solve_by_elim|(simp only[Bool.and_eq_true,Bool.or_eq_true,Bool.not_eq_true',Bool.and_eq_false_iff,Bool.or_eq_false_iff,decide_eq_true_eq,decide_eq_false_iff_not]at*;omega)|grind)) (by(first|trivial|assumption|contradiction|omega|solve_by_elim|(simp only[Bool.and_eq_true,Bool.or_eq_true,Bool.not_eq_true',Bool.and_eq_false_iff,Bool.or_eq_false_iff,decide_eq_true_eq,decide_eq_false_iff_not]at*;omega)|grind)) (by(first|trivial|assumption|contradiction|omega|solve_by_elim|(simp only[Bool.and_eq_true,Bool.or_eq_true,Bool.not_eq_true',Bool.and_eq_false_iff,Bool.or_eq_false_iff,decide_eq_true_eq,decide_eq_false_iff_not]at*;omega)|grind)));all_goals(intro _ _;try dsimp only))|(with_reducible apply Ok.lb;(exact t _ (by(first|trivial|assumption|contradiction|omega|solve_by_elim|(simp only[Bool.and_eq_true,Bool.or_eq_true,Bool.not_eq_true',Bool.and_eq_false_iff,Bool.or_eq_false_iff,decide_eq_true_eq,decide_eq_false_iff_not]at*;omega)|grind)) (by(first|trivial|assumption|contradiction|omega|solve_by_elim|(simp only[Bool.and_eq_true,Bool.or_eq_true,Bool.not_eq_true',Bool.and_eq_false_iff,Bool.or_eq_false_iff,decide_eq_true_eq,decide_eq_false_iff_not]at*;omega)|grind)) (by(first|trivial|assumption|contradiction|omega|solve_by_elim|(simp only[Bool.and_eq_true,Bool.or_eq_true,Bool.not_eq_true',Bool.and_eq_false_iff,Bool.or_eq_false_iff,decide_eq_true_eq,decide_eq_false_iff_not]at*;omega)|grind)));all_goals(intro _ _;try dsimp only))|(with_reducible apply Ok.lb;(exact u _ (by(first|trivial|assumption|contradiction|omega|solve_by_elim|(simp only[Bool.and_eq_true,Bool.or_eq_true,Bool.not_eq_true',Bool.and_eq_false_iff,Bool.or_eq_false_iff,decide_eq_true_eq,decide_eq_false_iff_not]at*;omega)|grind)) (by(first|trivial|assumption|contradiction|omega|solve_by_elim|(simp only[Bool.and_eq_true,Bool.or_eq_true,Bool.not_eq_true',Bool.and_eq_false_iff,Bool.or_eq_false_iff,decide_eq_true_eq,decide_eq_false_iff_not]at*;omega)|grind)) (by(first|trivial|assumption|contradiction|omega|solve_by_elim|(simp only[Bool.and_eq_true,Bool.or_eq_true,Bool.not_eq_true',Bool.and_eq_false_iff,Bool.or_eq_false_iff,decide_eq_true_eq,decide_eq_false_iff_not]at*;omega)|grind)));all_goals(intro _ _;try dsimp only))|with_reducible refine Ok.if ?_ ?_))<;>(first|trivial|assumption|contradiction|omega|grind|(simp only[Bd.c,Bd.vl,ByteArray.size_append,ByteArray.size_extract,AE]at*;grind))
theorem o6(v:Val)(h:AZ v):Ok Tr (Zy v 2000):=by
 dsimp only[Zy,VC,vw,lr,cl]
 (repeat' (first|with_reducible refine Ok.br (fun _=>?_) (fun _=>?_)|with_reducible refine Ok.pure ?_|(with_reducible apply Ok.bind;(exact x6 Ai _ _ _ h (by omega) (by unfold Ai;omega) (by omega) (by omega) (by omega));intro _ _)|with_reducible refine Ok.if ?_ ?_))<;>(first|trivial|assumption|contradiction|omega|grind|(simp only[Bd.c,Bd.vl,ByteArray.size_append,ByteArray.size_extract,AE]at*;grind))
theorem aw:rM=some true:=by kernel_rfl
def B2(F:List Fld)(k:Int):Fld×Bool:=BC F zF fun f=>decide (f.num=k)
def AN(F:List Fld)(k:Int):Fld:=(B2 F k).1
def As(s:Scm)(n:ByteArray):List Fld:=(BC s.messages zM fun m=>decide (m.name=n)).1.fields
theorem n61(s:Scm)(n:ByteArray)(h:s.messages.length≤1048576):ZE s n=some (BC s.messages zM fun m=>decide (m.name=n)):=by
 dsimp only[ZE,We,vw,lr,cs]
 rw[m84 _ _ h]
 rfl
theorem iA(s:Scm)(n:ByteArray)(h:s.messages.length≤1048576):ZI s n=some (.mk (BC s.messages zM fun m=>decide (m.name=n)).1 s,(BC s.messages zM fun m=>decide (m.name=n)).2):=by
 dsimp only[ZI,VK,vw,lr,cl]
 rw[n61 _ _ h]
 rfl
theorem n74(l:List Fld)(k:Int)(h:l.length≤1048576):Pw l (fun z=>Jw z k)=some (B2 l k):=by
 have d:=JB (B:=MS l fun z=>Jw z k) (N:=Ai) l (fun f=>decide (f.num=k)) (fun i=>(l.getD i default,true)) () (fun i x a=>by
  have b:=DH a
  have g:=(Yd.1 a).1
  have c:i+1<9223372036854775808:=by omega
  have e:Jw x k=some (decide (x.num=k)):=rfl
  dsimp only[MS,Rx,br,ix,vw,vs,Ay,ln,Al,cf,wa,br]
  simp only[b,c,a,e,decide_true,if_true,Yg,Yz,YZ]
  cases decide (x.num=k)<;>simp) (by simp[MS,Rx,br,ix,vw,vs,Ay,ln,Al,cf,wa,br]) (B0 (by omega))
 dsimp only[Pw,VE,Vs,Uo,vz,vw,lr,lc,Ah]
 unfold B2
 rw[d,Qe]
 cases l.findIdx? fun m=>decide (m.num=k)<;>rfl
theorem SZ(m:Msg)(k:Int)(h:m.fields.length≤1048576):ZP m k=some (B2 m.fields k):=by
 dsimp only[ZP,Ws,vw,lr,cs]
 rw[n74 _ _ h]
 rfl
theorem x4(m:Msg)(k:Int)(h:m.fields.length≤1048576):Pj m k=some (B2 m.fields k):=by
 have d:=JB (B:=MT m k) (N:=Ai) m.fields (fun f=>decide (f.num=k)) (fun i=>(m.fields.getD i default,true)) () (fun i x a=>by
  have b:=DH a
  have e:=(Yd.1 a).1
  have c:i+1<9223372036854775808:=by omega
  dsimp only[MT,Rz,br,ix,vz,vw,vs,Ay,ln,Al,wa,Ah,br]
  simp only[b,c,a,decide_true,if_true,Yg,Yz,YZ]
  cases decide (x.num=k)<;>simp) (by simp[MT,Rz,br,ix,vz,vw,vs,Ay,ln,Al,wa,Ah,br]) (B0 (by omega))
 dsimp only[Pj,Uv,VG,UM,vw,lr,lc]
 unfold B2
 rw[d,Qe]
 cases m.fields.findIdx? fun f=>decide (f.num=k)<;>rfl
def Ds{α:Type}(l:List α)(p:α→Bool):Int:=match l.findIdx? p with
 |some i=>(i:Int)
 |none=>-1
theorem ZEg{α:Type}(l:List α)(p:α→Bool):decide (0≤Ds l p)=l.any p:=by
 unfold Ds
 rw[←List.findIdx?_isSome]
 cases l.findIdx? p with
 |none=>rfl
 |some i=>simp
theorem iB(l:List Slt)(f:Slt→Option Bool)(p:Slt→Bool)(e:∀x∈l,f x=some (p x))(h:l.length<4611686018427387904):LY l f=some (Ds l p):=by
 have g:=JB (B:=MY l f) (N:=Ai) l p (fun i=>(i:Int)) () (fun i x a=>by
  have b:=DH a
  have j:=(Yd.1 a).1
  have c:i+1<9223372036854775808:=by omega
  have d:=e x (Yi a)
  dsimp only[MY,RW,br,ix,vs,Ay,ln,Al,cf,wa,br]
  simp only[b,c,d,a,decide_true,if_true,Yg]
  cases p x<;>simp) (by simp[MY,RW,br,ix,vs,Ay,ln,Al,cf,wa,br]) (B0 h)
 dsimp only[LY,Vj,Up,Vy,vz,lr,lc,Ah]
 rw[g]
 unfold Ds
 cases l.findIdx? p<;>rfl
def Cv(l:List Slt)(k:Int):Bool:=l.any fun x=>decide (x.num=k)
theorem x3(v:Val)(k:Int)(h:v.slots.length<4611686018427387904):ZS v k=some (Cv v.slots k):=by
 dsimp only[ZS,VQ,vw,lr,cl,Pu,RC,lr,cs]
 rw[iB v.slots (fun z=>L0 z k) (fun x=>decide (x.num=k)) (fun x _=>rfl) h]
 simp only[Yg]
 rw[ZEg]
 rfl
def Dn(l:List Slt)(x:Slt):List Slt:=match l.findIdx? fun y=>decide (x.num<y.num)with
 |some i=>l.take i++[x]++l.drop i
 |none=>l++[x]
theorem Zwb(l:List Slt)(x:Slt):(Dn l x).length=l.length+1:=by
 unfold Dn
 split
 ·simp only[Yo,Yr,YK,YV,Y8]
  omega
 ·simp
theorem tD(l:List Slt)(x y:Slt):y∈Dn l x↔y=x∨y∈l:=by
 unfold Dn
 split
 ·rename_i i _
  have e:∀z,z∈l↔z∈l.take i∨z∈l.drop i:=fun z=>by rw[←FP,Y1]
  rw[e]
  simp only[FP,HJ]
  grind
 ·simp only[FP,HJ]
  grind
theorem n57(l:List Slt)(h:l.length<549755813888):Ir l=some l:=by
 cases l with
 |nil=>rfl
 |cons x r=>
  dsimp only[Ir,Ut,al,br,vw,lr,a0,mv,br]
  simp only[YV]at h
  simp
  omega
theorem n34(l:List Slt)(x:Slt)(h:l.length≤4194304):ZU l x=some (Dn l x):=by
 have e:=iB l (fun z=>Ps z x) (fun y=>decide (x.num<y.num)) (fun y _=>rfl) (by omega)
 have b:=n57 l (by omega)
 have c:∀i:Nat,i≤l.length→JA l (i:Int) [x]=some (l.take i++[x]++l.drop i):=fun i hi=>by
  unfold JA
  rw[if_pos ⟨by omega,by omega,by omega,rfl⟩,HN]
 have d:∀i:Nat,i≤l.length→(l.take i++[x]++l.drop i).length<549755813888:=fun i hi=>by
  simp only[Yo,Yr,YK,YV,Y8]
  omega
 dsimp only[ZU,U3,Qd,V8,ID,br,vz,vw,v2,lr,lc,cs,tw,ch,fl,fr,Ah,br]
 rw[e]
 unfold Ds Dn
 simp only[Yg,b]
 cases hi:l.findIdx? fun y=>decide (x.num<y.num)with
 |none=>
  have g:=d l.length (Ye _)
  have a:=c l.length (Ye _)
  simp only[K5,TM,HP]at g a
  simp[a,b]
  try simpa using g
 |some i=>
  have j:=(Y4.1 hi).1
  have g:=d i (by omega)
  have a:=c i (by omega)
  have f:¬(i:Int)<0:=by omega
  simp only[f,a,b,decide_false,YB,if_false,Yg]
  try rw[if_pos g]
def GD(P:Val→Prop)(x:Val):Prop:=(∀y∈x.list,P y)∧(∀p∈x.pairs,P p.val)∧P x
def Br(R:ByteArray→Val→Val)(f:Fld)(x:Val):Val:=
 if f.type.kind=10 then
  if f.card=4 then .mk x.kind x.bits x.text (x.list.map (R f.type.name)) x.pairs x.slots x.raws
  else if f.card=5 then .mk x.kind x.bits x.text x.list (x.pairs.map fun p=>.mk p.key (R f.type.name p.val)) x.slots x.raws
  else R f.type.name x
 else x
theorem x5(f:Fld)(x:Val)(d:Val→Option Val)(R:ByteArray→Val→Val)(v:x.list.length≤1048576)(w:x.pairs.length≤1048576)(h:f.type.kind=10→GD (fun y=>d y=some (R f.type.name y)) x):GL f x d=some (Br R f x):=by
 unfold Br
 by_cases a:f.type.kind=10
 ·obtain⟨s,t,u⟩:=h a
  by_cases q:f.card=4
  ·have c:=L9 (B:=MP x d) (N:=Ai) (ρ:=Val) x.list (fun p=>p.map (R f.type.name)) (fun i b=>(i,b)) id (fun i y hy=>by
    have g:=DH hy
    have e:=(Yd.1 hy).1
    have j:i+1<9223372036854775808:=by omega
    have k:min i x.list.length<549755813887:=by omega
    have l:min i x.list.length+1<549755813888:=by omega
    have m:=s y (Yi hy)
    have n:x.list[i]=y:=(Yd.1 hy).2
    dsimp only[MP,RN,Sw,Sf,Kn,br,ix,vz,vw,vs,ln,Al,lc,ap,cf,wa,tw,fl,br]
    simp[e,g,j,k,l,m,n,hy,Yp,Yr]) (by simp[MP,RN,Sw,Sf,Kn,br,ix,vz,vw,vs,ln,Al,lc,ap,cf,wa,tw,fl,br]) (B0 (by omega))
   rw[TD]at c
   have o:x.list.length<549755813888:=by omega
   dsimp only[GL,Ka,JZ,Kf,J2,J5,Kk,J6,J3,Kw,Kb,J7,Ki,J9,Kx,J1,vz,vw,lr,lc,cf,fl,fr,Ah]
   simp[a,q,c,o]
  ·by_cases r:f.card=5
   ·have c:=L9 (B:=M2 x d) (N:=Ai) (ρ:=Val) x.pairs (fun p=>p.map fun p=>(.mk p.key (R f.type.name p.val):Pr)) (fun i b=>(i,b)) id (fun i y hy=>by
     have g:=DH hy
     have e:=(Yd.1 hy).1
     have j:i+1<9223372036854775808:=by omega
     have k:min i x.pairs.length<549755813887:=by omega
     have l:min i x.pairs.length+1<549755813888:=by omega
     have m:=t y (Yi hy)
     have n:x.pairs[i]=y:=(Yd.1 hy).2
     dsimp only[M2,Qq,QD,QW,cu,GT,eu,dX,Rb,br,ix,vz,vw,vs,ln,Al,lc,ap,cf,wa,tw,fl,br]
     simp[e,g,j,k,l,m,n,hy,Yp,Yr]) (by simp[M2,Qq,QD,QW,cu,GT,eu,dX,Rb,br,ix,vz,vw,vs,ln,Al,lc,ap,cf,wa,tw,fl,br]) (B0 (by omega))
    rw[TD]at c
    have o:x.pairs.length<549755813888:=by omega
    dsimp only[GL,Ka,JZ,Kf,J2,J5,Kk,J6,J3,Kw,Kb,J7,Ki,J9,Kx,J1,vz,vw,lr,lc,cf,fl,fr,Ah]
    simp[a,q,r,c,o]
   ·dsimp only[GL,Ka,JZ,Kf,J2,J5,Kk,J6,J3,Kw,Kb,J7,Ki,J9,Kx,J1,vz,vw,lr,lc,cf,fl,fr,Ah]
    simp[a,q,r,u]
 ·dsimp only[GL,Ka,JZ,Kf,J2,J5,Kk,J6,J3,Kw,Kb,J7,Ki,J9,Kx,J1,vz,vw,lr,lc,cf,fl,fr,Ah]
  simp[a]
def AR(R:ByteArray→Val→Val)(F:List Fld)(l:List Slt):List Slt:=l.map fun x=>.mk x.num (Br R (AN F x.num) x.val)
theorem XI(a:Scm→ByteArray→Val→Option Val)(z:Val)(s:Scm)(f:Fld):Ju a z s f=a s f.type.name z:=by
 dsimp only[Ju,cj,vw,lr,cs,ZH,U1]
 cases a s f.type.name z<;>rfl
def Nx(F:List Fld)(P:Fld→Val→Prop)(l:List Slt):Prop:=∀x∈l,x.val.list.length≤1048576∧x.val.pairs.length≤1048576∧((AN F x.num).type.kind=10→GD (P (AN F x.num)) x.val)
theorem ZSq(a:Acs)(v:Val)(s:Scm)(c:Scm→ByteArray→Val→Option Val)(R:ByteArray→Val→Val)(o:a.m.fields.length≤1048576)(H:v.slots.length≤1048576)
  (h:Nx a.m.fields (fun f y=>c s f.type.name y=some (R f.type.name y)) v.slots):LU c a v s=some (.mk v.kind v.bits v.text v.list v.pairs (AR R a.m.fields v.slots) v.raws):=by
 have e:=L9 (B:=Mz a v s c) (N:=Ai) (ρ:=Val) v.slots (fun p=>AR R a.m.fields p) (fun i b=>(i,b)) id (fun i y hy=>by
  have g:=DH hy
  have E:=(Yd.1 hy).1
  have j:i+1<9223372036854775808:=by omega
  have k:min i v.slots.length<549755813887:=by omega
  have F:min i v.slots.length+1<549755813888:=by omega
  have G:v.slots[i]=y:=(Yd.1 hy).2
  obtain⟨A,C,D⟩:=h y (Yi hy)
  have l:=x5 (AN a.m.fields y.num) y.val (fun z=>Ju c z s (AN a.m.fields y.num)) R A C (fun q=>by
   obtain⟨u,w,x⟩:=D q
   exact⟨fun z t=>(XI _ _ _ _).trans (u z t),fun p r=>(XI _ _ _ _).trans (w p r),(XI _ _ _ _).trans x⟩)
  have d:B2 a.m.fields y.num=(AN a.m.fields y.num,(B2 a.m.fields y.num).2):=rfl
  have m:(AR R a.m.fields (v.slots.take i)).length<549755813887:=by unfold AR;rw[Yp,Yr];exact k
  have n:AR R a.m.fields (v.slots.take i++[y])=AR R a.m.fields (v.slots.take i)++[.mk y.num (Br R (AN a.m.fields y.num) y.val)]:=by unfold AR;rw[HQ];rfl
  dsimp only[Mz,QA,br,ix,vz,vw,vs,ln,Al,ap,cl,cs,wa,fl,br]
  simp only[g,hy,SZ _ _ o,decide_true,if_true,Yg]
  rw[show(B2 a.m.fields y.num).1=AN a.m.fields y.num from rfl,l]
  simp only[Yg,m,j,if_true,n]) (by simp[Mz,QA,br,ix,vz,vw,vs,ln,Al,ap,cl,cs,wa,fl,br]) (B0 (by omega))
 have e0:AR R a.m.fields []=[]:=rfl
 have d:(AR R a.m.fields v.slots).length<549755813888:=by unfold AR;rw[Yp];omega
 rw[e0]at e
 dsimp only[LU,dG,ia,dA,fA,vz,vw,lr,lc,fl,fr,Ah]
 simp[e,d]
def DQ(v l:List Slt)(f:Fld):List Slt:=if(f.hasDefault&&decide (f.union=⟨#[]⟩)&&!(Cv v f.num))=true then Dn l (.mk f.num f.dflt)else l
def Bq(v:List Slt)(F:List Fld)(l:List Slt):List Slt:=F.foldl (DQ v) l
theorem Zoc(v:List Slt)(P:List Fld)(f:Fld)(l:List Slt):Bq v (P++[f]) l=DQ v (Bq v P l) f:=by unfold Bq;rw[List.foldl_append];rfl
theorem ah(v:List Slt):∀(P:List Fld) (l:List Slt),(Bq v P l).length≤l.length+P.length
 |[],l=>Ye _
 |f::P,l=>by
  have h:=ah v P (DQ v l f)
  have e:(DQ v l f).length≤l.length+1:=by
   unfold DQ
   split
   ·rw[Zwb];exact Ye _
   ·omega
  show(Bq v P (DQ v l f)).length≤_
  rw[YV]
  omega
theorem ZvA(l:List Slt)(x:Slt)(k:Int)(h:x.num≠k):Cv (Dn l x) k=Cv l k:=by
 unfold Cv
 rw[Bool.eq_iff_iff,YL,YL]
 constructor
 ·rintro⟨y,hy,e⟩
  rcases(tD l x y).1 hy with rfl|q
  ·exact absurd (of_decide_eq_true e) h
  ·exact⟨y,q,e⟩
 ·rintro⟨y,hy,e⟩
  exact⟨y,(tD l x y).2 (.inr hy),e⟩
theorem ti(v:List Slt)(k:Int):∀(P:List Fld) (l:List Slt),(∀g∈P,g.num≠k)→Cv (Bq v P l) k=Cv l k
 |[],l,h=>rfl
 |f::P,l,h=>by
  show Cv (Bq v P (DQ v l f)) k=_
  rw[ti v k P _ fun g a=>h g (Yu _ a)]
  unfold DQ
  split
  ·exact ZvA _ _ _ (h f (YC ..))
  ·rfl
theorem ZxR(R:ByteArray→Val→Val)(F:List Fld)(l:List Slt)(k:Int):Cv (AR R F l) k=Cv l k:=by
 unfold Cv AR
 rw[List.any_map]
 rfl
theorem fs{l:List Fld}(h:CJ l l.length):∀(d i:Nat) (a b:Fld),l[i]?=some a→l[i+1+d]?=some b→a.num<b.num
 |0,i,a,b,e,c=>h i a b (Yd.1 c).1 e c
 |d+1,i,a,b,e,c=>by
  have g:=(Yd.1 c).1
  have f:i+1+d<l.length:=by omega
  have j:=fs h d i a l[i+1+d] e (Yb f)
  have k:=h (i+1+d) l[i+1+d] b (by omega) (Yb f) c
  omega
theorem wS{l:List Fld}(h:CJ l l.length){i:Nat}{f:Fld}(a:l[i]?=some f):∀g∈l.take i,g.num≠f.num:=fun g b=>by
 obtain⟨j,c,rfl⟩:=jK.1 b
 have:=fs h (i-(j+1)) j _ f (Yb (by omega)) (by rw[show j+1+(i-(j+1))=i by omega];exact a)
 omega
def Ou(s:Scm)(R:ByteArray→Val→Val)(n:ByteArray)(v:Val):Val:=.mk v.kind v.bits v.text v.list v.pairs (Bq v.slots (As s n) (AR R (As s n) v.slots)) v.raws
theorem JO(R:ByteArray→Val→Val)(F:List Fld)(l:List Slt):(AR R F l).length=l.length:=by unfold AR;rw[Yp]
theorem n13(s:Scm)(n:ByteArray)(v:Val)(a:Nat)(R:ByteArray→Val→Val)(hs:s.messages.length≤1048576)(r:(As s n).length≤1048576)(t:CJ (As s n) (As s n).length)(u:v.slots.length≤1048576)
  (h:Nx (As s n) (fun f y=>EI a s f.type.name y=some (R f.type.name y)) v.slots):EI (a+1) s n v=some (Ou s R n v):=by
 show N8 (EI a) s n v=_
 dsimp only[N8,UB,U5,TS,vz,vw,lr,lc,cl,cs,Ah]
 rw[iA _ _ hs]
 simp only[Yg]
 have d:LU (EI a) (.mk (BC s.messages zM fun m=>decide (m.name=n)).1 s) v s=some (.mk v.kind v.bits v.text v.list v.pairs (AR R (As s n) v.slots) v.raws):=ZSq _ v s (EI a) R r u h
 rw[d]
 simp only[Yg]
 have k:=L9 (B:=MO (EI a) ((.mk (BC s.messages zM fun m=>decide (m.name=n)).1 s:Acs),(BC s.messages zM fun m=>decide (m.name=n)).2) (.mk v.kind v.bits v.text v.list v.pairs (AR R (As s n) v.slots) v.raws)) (N:=Ai) (ρ:=Val) (As s n) (fun p=>Bq v.slots p (AR R (As s n) v.slots)) (fun i b=>(i,b)) id (fun i f c=>by
  have l:=DH c
  have w:=(Yd.1 c).1
  have e:i+1<9223372036854775808:=by omega
  have z:(As s n)[i]=f:=(Yd.1 c).2
  have x:(Bq v.slots ((As s n).take i) (AR R (As s n) v.slots)).length≤2097152:=by
   have:=ah v.slots ((As s n).take i) (AR R (As s n) v.slots)
   rw[JO,Yr]at this
   omega
  have o:Cv (Bq v.slots ((As s n).take i) (AR R (As s n) v.slots)) f.num=Cv v.slots f.num:=by rw[ti _ _ _ _ (wS t c),ZxR]
  have g:=x3 (.mk v.kind v.bits v.text v.list v.pairs (Bq v.slots ((As s n).take i) (AR R (As s n) v.slots)) v.raws) f.num (by show(Bq _ _ _).length<_;omega)
  rw[show(Val.mk v.kind v.bits v.text v.list v.pairs (Bq v.slots ((As s n).take i) (AR R (As s n) v.slots)) v.raws).slots=Bq v.slots ((As s n).take i) (AR R (As s n) v.slots)from rfl,o]at g
  have q:=n34 (Bq v.slots ((As s n).take i) (AR R (As s n) v.slots)) (.mk f.num f.dflt) (by omega)
  rw[Zoc]
  unfold DQ
  dsimp only[MO,RR,br,ix,vw,vs,ln,Al,cl,clg,wa,br]
  show(if decide ((i:Int)<((As s n).length:Int))=true then(As s n)[i]?.bind _ else _)=_
  simp only[c,l,decide_true,if_true,Yg]
  rw[show(Val.mk v.kind v.bits v.text v.list v.pairs (AR R (As s n) v.slots) v.raws).kind=v.kind from rfl,show(Val.mk v.kind v.bits v.text v.list v.pairs (AR R (As s n) v.slots) v.raws).bits=v.bits from rfl,show(Val.mk v.kind v.bits v.text v.list v.pairs (AR R (As s n) v.slots) v.raws).text=v.text from rfl,show(Val.mk v.kind v.bits v.text v.list v.pairs (AR R (As s n) v.slots) v.raws).list=v.list from rfl,show(Val.mk v.kind v.bits v.text v.list v.pairs (AR R (As s n) v.slots) v.raws).pairs=v.pairs from rfl,show(Val.mk v.kind v.bits v.text v.list v.pairs (AR R (As s n) v.slots) v.raws).raws=v.raws from rfl,g]
  simp only[Option.isSome_some,implies_true,if_true,YZ]
  by_cases j:(f.hasDefault&&decide (f.union=⟨#[]⟩)&&!(Cv v.slots f.num))=true
  ·simp only[j,if_true,q,Yg,e]
  ·simp only[j,YB,if_false,e,if_true]) (by
  dsimp only[MO,RR,br,ix,vw,vs,ln,Al,cl,clg,wa,br]
  show(if decide (((As s n).length:Int)<((As s n).length:Int))=true then _ else _)=_
  simp) (B0 (by omega))
 show Option.bind (Am _ Ai (0,AR R (As s n) v.slots)) _=_
 have e0:Bq v.slots [] (AR R (As s n) v.slots)=AR R (As s n) v.slots:=rfl
 rw[e0]at k
 rw[k]
 rfl
def BS(s:Scm):Nat→ByteArray→Val→Val
 |0,_,v=>v
 |k+1,n,v=>Ou s (BS s k) n v
theorem ZNd{v:Val}{x:Slt}(b:x∈v.slots){P:Val→Prop}{k:Nat}(d:Ax (Ag v)<k+1)(h:∀y:Val,Ax (Ag y)<k→P y):GD P x.val:=by
 have c:=Iz b
 refine⟨fun y hy=>h y ?_,fun p a=>h _ ?_,h _ (by omega)⟩
 ·have:=IA hy;omega
 ·have:=(Fq a).2;omega
theorem Qx{v:Val}{x:Slt}(c:x∈v.slots){P:Val→Prop}{k:Nat}(d:AZ v)(g:Ax (Ag v)<k+1)(h:∀y:Val,AZ y→Ax (Ag y)<k→P y):x.val.list.length≤1048576∧x.val.pairs.length≤1048576∧GD P x.val:=by
 have f:=Iz c
 have a:=El d c
 obtain⟨s1,s2,e,i,j⟩:=BY a
 refine⟨s2,e,fun y hy=>h y (G3 a hy) ?_,fun p b=>h _ (D0 a b).2 ?_,h _ a (by omega)⟩
 ·have:=IA hy;omega
 ·have:=(Fq b).2;omega
section
variable {s:Scm} (hs:s.messages.length≤1048576) (hl:∀n,(As s n).length≤1048576)
include hs hl
theorem py(c:∀n,CJ (As s n) (As s n).length):∀(a:Nat) (n:ByteArray) (v:Val),AZ v→Ax (Ag v)<a→EI a s n v=some (BS s a n v)
 |0,n,v,b,h=>by omega
 |a+1,n,v,b,h=>n13 s n v a (BS s a) hs (hl n) (c n) (BY b).s fun x e=>by
  obtain⟨f,g,i⟩:=Qx e b h (P:=fun y=>EI a s (AN (As s n) x.num).type.name y=some (BS s a (AN (As s n) x.num).type.name y)) fun y hy d=>py c a _ y hy d
  exact⟨f,g,fun _=>i⟩
end
theorem ag(a:Nat)(v:Val)(s2:v.list.length≤4194304)(l:v.pairs.length≤4194304)(m:v.slots.length≤4194304)(n:v.raws.length≤4194304)
  (f:∀x∈v.list,Ok (fun b=>b=true) (BL a x x)) (d:∀x∈v.pairs,Ok (fun b=>b=true) (BL a x.key x.key)∧Ok (fun b=>b=true) (BL a x.val x.val)) (e:∀x∈v.slots,Ok (fun b=>b=true) (BL a x.val x.val)):Ok (fun b=>b=true) (BL (a+1) v v):=by
 have f:∀(i:Nat) (x y:Val),v.list[i]?=some x→v.list[i]?=some y→Ok (fun b=>b=true) (BL a x y):=fun i x y c hy=>by
  rw[c]at hy
  cases hy
  exact f x (Yi c)
 have d:∀(i:Nat) (x y:Pr),v.pairs[i]?=some x→v.pairs[i]?=some y→Ok (fun b=>b=true) (BL a x.key y.key)∧Ok (fun b=>b=true) (BL a x.val y.val):=fun i x y c hy=>by
  rw[c]at hy
  cases hy
  exact d x (Yi c)
 have e:∀(i:Nat) (x y:Slt),v.slots[i]?=some x→v.slots[i]?=some y→Ok (fun b=>b=true) (BL a x.val y.val):=fun i x y c hy=>by
  rw[c]at hy
  cases hy
  exact e x (Yi c)
 have g:Ok (Sum.elim Tr No) (Am (Kq v v (BL a)) Ai 0):=by
  refine Ok.loop (fun i:Nat=>i≤v.list.length) (fun i:Nat=>v.list.length-i) (by omega) (B0 (by omega)) fun i hi=>?_
  dsimp only[Kq,SC,br,ix,vz,vw,vs,Ay,ln,Al,cs,wa,Ah,br]
  (repeat' (first|with_reducible refine Ok.br (fun _=>?_) (fun _=>?_)|with_reducible refine Ok.pure ?_|with_reducible refine Ok.idx ?_ (fun _ _ _=>?_)|(with_reducible apply Ok.bind;(exact f i _ _ (by assumption) (by assumption));intro _ _)|with_reducible refine Ok.if ?_ ?_))<;>(first|trivial|assumption|contradiction|omega|grind|(simp only[Bd.c,Bd.vl,ByteArray.size_append,ByteArray.size_extract,AE]at*;grind))
 have h:Ok (Sum.elim Tr No) (Am (Km v v (BL a)) Ai 0):=by
  refine Ok.loop (fun i:Nat=>i≤v.pairs.length) (fun i:Nat=>v.pairs.length-i) (by omega) (B0 (by omega)) fun i hi=>?_
  dsimp only[Km,SD,br,ix,A8,vz,vw,vs,Ay,ln,Al,cs,Hv,wa,Ah,br]
  (repeat' (first|with_reducible refine Ok.br (fun _=>?_) (fun _=>?_)|with_reducible refine Ok.pure ?_|with_reducible refine Ok.idx ?_ (fun _ _ _=>?_)|(with_reducible apply Ok.bind;(exact(d i _ _ (by assumption) (by assumption)).1);intro _ _)|(with_reducible apply Ok.bind;(exact(d i _ _ (C9 _ (by(first|trivial|assumption|contradiction|omega|solve_by_elim|(simp only[Bool.and_eq_true,Bool.or_eq_true,Bool.not_eq_true',Bool.and_eq_false_iff,Bool.or_eq_false_iff,decide_eq_true_eq,decide_eq_false_iff_not]at*;omega)|grind))) (C9 _ (by(first|trivial|assumption|contradiction|omega|solve_by_elim|(simp only[Bool.and_eq_true,Bool.or_eq_true,Bool.not_eq_true',Bool.and_eq_false_iff,Bool.or_eq_false_iff,decide_eq_true_eq,decide_eq_false_iff_not]at*;omega)|grind)))).2);intro _ _)|(with_reducible apply Ok.clg;(exact fun _=>(d i _ _ (by assumption) (by assumption)).1);intro _)|(with_reducible apply Ok.clg;(exact fun _=>(d i _ _ (C9 _ (by(first|trivial|assumption|contradiction|omega|solve_by_elim|(simp only[Bool.and_eq_true,Bool.or_eq_true,Bool.not_eq_true',Bool.and_eq_false_iff,Bool.or_eq_false_iff,decide_eq_true_eq,decide_eq_false_iff_not]at*;omega)|grind))) (C9 _ (by(first|trivial|assumption|contradiction|omega|solve_by_elim|(simp only[Bool.and_eq_true,Bool.or_eq_true,Bool.not_eq_true',Bool.and_eq_false_iff,Bool.or_eq_false_iff,decide_eq_true_eq,decide_eq_false_iff_not]at*;omega)|grind)))).2);intro _)|with_reducible refine Ok.idxg ?_ (fun _=>?_)|with_reducible refine Ok.if ?_ ?_))<;>(first|trivial|assumption|contradiction|omega|grind|(simp only[Bd.c,Bd.vl,ByteArray.size_append,ByteArray.size_extract,AE]at*;grind))
 have j:Ok (Sum.elim Tr No) (Am (Ke v v (BL a)) Ai 0):=by
  refine Ok.loop (fun i:Nat=>i≤v.slots.length) (fun i:Nat=>v.slots.length-i) (by omega) (B0 (by omega)) fun i hi=>?_
  dsimp only[Ke,RH,br,ix,A8,vz,vw,vs,Ay,ln,Al,Hv,wa,Ah,br]
  (repeat' (first|with_reducible refine Ok.br (fun _=>?_) (fun _=>?_)|with_reducible refine Ok.pure ?_|with_reducible refine Ok.idx ?_ (fun _ _ _=>?_)|(with_reducible apply Ok.bind;(exact e i _ _ (C9 _ (by(first|trivial|assumption|contradiction|omega|solve_by_elim|(simp only[Bool.and_eq_true,Bool.or_eq_true,Bool.not_eq_true',Bool.and_eq_false_iff,Bool.or_eq_false_iff,decide_eq_true_eq,decide_eq_false_iff_not]at*;omega)|grind))) (C9 _ (by(first|trivial|assumption|contradiction|omega|solve_by_elim|(simp only[Bool.and_eq_true,Bool.or_eq_true,Bool.not_eq_true',Bool.and_eq_false_iff,Bool.or_eq_false_iff,decide_eq_true_eq,decide_eq_false_iff_not]at*;omega)|grind))));intro _ _)|(with_reducible apply Ok.clg;(exact fun _=>e i _ _ (C9 _ (by(first|trivial|assumption|contradiction|omega|solve_by_elim|(simp only[Bool.and_eq_true,Bool.or_eq_true,Bool.not_eq_true',Bool.and_eq_false_iff,Bool.or_eq_false_iff,decide_eq_true_eq,decide_eq_false_iff_not]at*;omega)|grind))) (C9 _ (by(first|trivial|assumption|contradiction|omega|solve_by_elim|(simp only[Bool.and_eq_true,Bool.or_eq_true,Bool.not_eq_true',Bool.and_eq_false_iff,Bool.or_eq_false_iff,decide_eq_true_eq,decide_eq_false_iff_not]at*;omega)|grind))));intro _)|with_reducible refine Ok.idxg ?_ (fun _=>?_)|with_reducible refine Ok.if ?_ ?_))<;>(first|trivial|assumption|contradiction|omega|grind|(simp only[Bd.c,Bd.vl,ByteArray.size_append,ByteArray.size_extract,AE]at*;grind))
 have k:Ok (Sum.elim Tr No) (Am (Kr v v (BL a)) Ai 0):=by
  refine Ok.loop (fun i:Nat=>i≤v.raws.length) (fun i:Nat=>v.raws.length-i) (by omega) (B0 (by omega)) fun i hi=>?_
  dsimp only[Kr,RI,br,ix,vz,vw,vs,Ay,ln,Al,wa,Ah,br]
  (repeat' (first|with_reducible refine Ok.br (fun _=>?_) (fun _=>?_)|with_reducible refine Ok.pure ?_|with_reducible refine Ok.idx ?_ (fun _ _ _=>?_)|with_reducible refine Ok.if ?_ ?_))<;>(first|trivial|assumption|contradiction|omega|grind|(simp only[Bd.c,Bd.vl,ByteArray.size_append,ByteArray.size_extract,AE]at*;grind))
 show Ok _ (I3 (BL a) v v)
 dsimp only[I3,QP,R8,R9,SE,Sk,SL,br,vy,vw,lr,lc,Ah,br]
 (repeat' (first|with_reducible refine Ok.br (fun _=>?_) (fun _=>?_)|with_reducible refine Ok.pure ?_|(with_reducible apply Ok.lb;(exact g);all_goals(intro _ _;try dsimp only))|(with_reducible apply Ok.lb;(exact h);all_goals(intro _ _;try dsimp only))|(with_reducible apply Ok.lb;(exact j);all_goals(intro _ _;try dsimp only))|(with_reducible apply Ok.lb;(exact k);all_goals(intro _ _;try dsimp only))|with_reducible refine Ok.if ?_ ?_))<;>first|rfl|contradiction|(simp at*;done)
def FN(c:Nat)(x:Val):Prop:=∀a,c≤a→Ok (fun b=>b=true) (BL a x x)
theorem FN.mono{c d:Nat}{x:Val}(h:FN c x)(k:c≤d):FN d x:=fun a b=>h a (FR k b)
theorem zE{R:ByteArray→Val→Val}{f:Fld}{x:Val}{c:Nat}(a:AZ x)(o:Ax (Ag x)+1≤c)(h:f.type.kind=10→GD (fun y=>FN c (R f.type.name y)) x):FN (c+1) (Br R f x):=fun d p=>by
 obtain⟨s1,s2,q,r,s⟩:=BY a
 unfold Br
 by_cases e:f.type.kind=10
 ·obtain⟨l,m,n⟩:=h e
  rw[if_pos e]
  obtain⟨g,rfl⟩:∃g,d=g+1:=⟨d-1,by omega⟩
  by_cases i:f.card=4
  ·rw[if_pos i]
   refine ag g _ (by show(x.list.map _).length≤_;rw[Yp];omega) (by show x.pairs.length≤_;omega) (by show x.slots.length≤_;omega) (by show x.raws.length≤_;omega) (fun y hy=>?_) (fun y hy=>?_) (fun y hy=>?_)
   ·obtain⟨z,b,rfl⟩:=Yy.1 hy
    exact l z b g (by omega)
   ·have:=Fq (v:=x) hy
    have k:=D0 a hy
    exact⟨Du g _ (by have:=this.1;omega) k.1,Du g _ (by have:=this.2;omega) k.2⟩
   ·exact Du g _ (by have:=Iz (v:=x) hy;omega) (El a hy)
  ·rw[if_neg i]
   by_cases j:f.card=5
   ·rw[if_pos j]
    refine ag g _ (by show x.list.length≤_;omega) (by show(x.pairs.map _).length≤_;rw[Yp];omega) (by show x.slots.length≤_;omega) (by show x.raws.length≤_;omega) (fun y hy=>?_) (fun y hy=>?_) (fun y hy=>?_)
    ·exact Du g _ (by have:=IA (v:=x) hy;omega) (G3 a hy)
    ·obtain⟨z,b,rfl⟩:=Yy.1 hy
     have:=Fq b
     exact⟨Du g _ (by show Ax (Ag z.key)<g;have:=this.1;omega) (D0 a b).1,m z b g (by omega)⟩
    ·exact Du g _ (by have:=Iz (v:=x) hy;omega) (El a hy)
   ·rw[if_neg j]
    exact n _ (by omega)
 ·rw[if_neg e]
  exact Du d x (by omega) a
theorem zi{v:Val}{l:List Slt}{c:Nat}(a:AZ v)(e:Ax (Ag v)≤c)(hl:l.length≤4194304)(h:∀x∈l,FN c x.val):FN (c+1) (.mk v.kind v.bits v.text v.list v.pairs l v.raws):=fun b f=>by
 obtain⟨s1,s2,i,j,k⟩:=BY a
 obtain⟨g,rfl⟩:∃g,b=g+1:=⟨b-1,by omega⟩
 refine ag g _ (by show v.list.length≤_;omega) (by show v.pairs.length≤_;omega) hl (by show v.raws.length≤_;omega) (fun y hy=>?_) (fun y hy=>?_) (fun y hy=>h y hy g (by omega))
 ·exact Du g _ (by have:=IA (v:=v) hy;omega) (G3 a hy)
 ·have:=Fq (v:=v) hy
  have d:=D0 a hy
  exact⟨Du g _ (by have:=this.1;omega) d.1,Du g _ (by have:=this.2;omega) d.2⟩
theorem JJ{n:Nat}(h:n<18446744073709551616):IntKind.u64.wrap (n:Int)=n:=by
 unfold IntKind.wrap
 have:(IntKind.u64.bits)=64:=rfl
 simp only[this,show IntKind.u64.signed=false from rfl,IY,YB,if_false]
 omega
theorem JW(n:Nat):BitVec.ofInt 64 (n:Int)=BitVec.ofNat 64 n:=BitVec.ofInt_natCast ..
theorem aU{n m:Nat}(a:n<18446744073709551616)(hm:m<18446744073709551616):CB .u64 (n:Int) (m:Int)=((n&&&m:Nat):Int):=by
 unfold CB
 have h:(BitVec.ofInt 64 (n:Int)&&&BitVec.ofInt 64 (m:Int)).toNat=n&&&m:=by
  rw[JW,JW,BitVec.toNat_and,KZ,KZ,HO a,HO hm]
 show IntKind.u64.wrap (((BitVec.ofInt 64 (n:Int)&&&BitVec.ofInt 64 (m:Int)).toNat:Nat):Int)=_
 rw[h]
 exact JJ (Nat.lt_of_le_of_lt Nat.and_le_left a)
theorem zP{n m:Nat}(a:n<18446744073709551616)(hm:m<18446744073709551616):E3 .u64 (n:Int) (m:Int)=((n|||m:Nat):Int):=by
 unfold E3
 have h:(BitVec.ofInt 64 (n:Int)|||BitVec.ofInt 64 (m:Int)).toNat=n|||m:=by
  rw[JW,JW,BitVec.toNat_or,KZ,KZ,HO a,HO hm]
 show IntKind.u64.wrap (((BitVec.ofInt 64 (n:Int)|||BitVec.ofInt 64 (m:Int)).toNat:Nat):Int)=_
 rw[h]
 exact JJ (Nat.or_lt_two_pow (n:=64) a hm)
theorem Zvt{n:Nat}(a:n<18446744073709551616):G6 .u64 (n:Int)=((18446744073709551615-n:Nat):Int):=by
 unfold G6 Jj
 have e:(if IntKind.u64.signed=true then(-1:Int)else IntKind.u64.max)=((18446744073709551615:Nat):Int):=rfl
 rw[e]
 have h:(BitVec.ofInt 64 ((18446744073709551615:Nat):Int)^^^BitVec.ofInt 64 (n:Int)).toNat=18446744073709551615-n:=by
  rw[JW,JW,show BitVec.ofNat 64 18446744073709551615=BitVec.allOnes 64 from rfl,BitVec.allOnes_xor,BitVec.toNat_not,KZ,HO a]
 show IntKind.u64.wrap (((BitVec.ofInt 64 ((18446744073709551615:Nat):Int)^^^BitVec.ofInt 64 (n:Int)).toNat:Nat):Int)=_
 rw[h]
 exact JJ (by omega)
theorem za(n:Nat):n&&&9218868437227405312=(n/4503599627370496%2048)*4503599627370496:=by
 have e:(9218868437227405312:Nat)=2047<<<52:=rfl
 have a:n/4503599627370496%2048*4503599627370496=((n>>>52)%2^11)<<<52:=by
  rw[Nat.shiftLeft_eq,Nat.shiftRight_eq_div_pow]
 rw[e,a]
 apply Nat.eq_of_testBit_eq
 intro i
 have b:(2047:Nat)=2^11-1:=rfl
 rw[Nat.testBit_and,jG,jG,Nat.testBit_mod_two_pow,Nat.testBit_shiftRight,b,Nat.testBit_two_pow_sub_one]
 by_cases h:52≤i
 ·rw[show 52+(i-52)=i by omega]
  simp only[h,decide_true,NM]
  rw[Bool.and_comm]
 ·simp[h]
theorem Zw1(n:Nat):n&&&4503599627370495=n%4503599627370496:=Nat.and_two_pow_sub_one_eq_mod n 52
theorem Zwz{n:Nat}(b:n<18446744073709551616):n&&&9223372036854775808=if 9223372036854775808≤n then 9223372036854775808 else 0:=by
 have e:(9223372036854775808:Nat)=2^63:=rfl
 have k:n.testBit 63=decide (9223372036854775808≤n):=by
  rw[Nat.testBit_eq_decide_div_mod_eq,decide_eq_decide]
  omega
 apply Nat.eq_of_testBit_eq
 intro i
 rw[Nat.testBit_and]
 by_cases hi:63=i
 ·subst hi
  rw[k]
  by_cases h:9223372036854775808≤n
  ·simp[h]
  ·simp[h]
 ·have a:Nat.testBit 9223372036854775808 i=false:=by
   rw[e,Nat.testBit_two_pow]
   exact decide_eq_false hi
  rw[a,Bool.and_false]
  split
  ·exact a.symm
  ·simp
def If(n:Nat):Bool:=decide (9218868437227405312<n%9223372036854775808)
theorem ZSZ{n:Nat}(e:n<18446744073709551616):Ok (fun y:Int=>decide (y=0)=If n) (ZD (n:Int)):=by
 have a:=aU e (m:=9218868437227405312) (by omega)
 have b:=aU e (m:=4503599627370495) (by omega)
 rw[za]at a
 rw[Zw1]at b
 have a:CB .u64 (n:Int) 9218868437227405312=_:=a
 have b:CB .u64 (n:Int) 4503599627370495=_:=b
 dsimp only[ZD,bV,br,vz,lr,br]
 rw[a,b]
 unfold If
 have f:(((n/4503599627370496%2048*4503599627370496:Nat):Int)=9218868437227405312)↔n/4503599627370496%2048=2047:=by omega
 have g:(((n%4503599627370496:Nat):Int)=0)↔n%4503599627370496=0:=by omega
 have h:9218868437227405312<n%9223372036854775808↔n/4503599627370496%2048=2047∧n%4503599627370496≠0:=by omega
 simp only[f,g,h]
 by_cases c:n/4503599627370496%2048=2047
 ·by_cases d:n%4503599627370496=0
  ·simp only[c,d];exact Ok.pure (by decide)
  ·simp only[c,d];exact Ok.pure (by simp[d])
 ·have i:decide (n/4503599627370496%2048=2047)=false:=decide_eq_false c
  simp only[i,c,IY,false_and,decide_false,YB,if_false]
  refine Ok.br (fun _=>Ok.pure (by decide)) fun _=>Ok.br (fun _=>Ok.pure (by decide)) fun _=>Ok.pure (by decide)
theorem ZTb{n:Nat}(b:n<18446744073709551616):Ok (fun y:Int=>decide (y=0)=If n) (LX (n:Int)):=by
 have e:Hu .u64 (n:Int) 9223372036854775808=((n%9223372036854775808:Nat):Int):=by
  unfold Hu
  rw[Int.tmod_eq_emod_of_nonneg (by omega)]
  omega
 dsimp only[LX,QY,br,lr,br,rem]
 rw[e]
 unfold If
 have g:(9218868437227405312:Int)<((n%9223372036854775808:Nat):Int)↔9218868437227405312<n%9223372036854775808:=by omega
 simp only[g]
 by_cases h:9218868437227405312<n%9223372036854775808
 ·simp only[h];first|exact Ok.pure (by decide)|simp
 ·have a:decide (9218868437227405312<n%9223372036854775808)=false:=decide_eq_false h
  simp only[a,YB,if_false]
  first
   |refine Ok.br (fun _=>Ok.pure (by decide)) fun _=>Ok.br (fun _=>Ok.pure (by decide)) fun _=>Ok.br (fun _=>Ok.pure (by decide)) fun _=>Ok.pure (by decide)
   |simp
def EC(n:Nat):Nat:=if If n=true then 18446744073709551615 else if 9223372036854775808≤n then 18446744073709551615-n else n+9223372036854775808
theorem qZ{n:Nat}(a:n<18446744073709551616):ZF (n:Int)=some (EC n:Int):=by
 obtain⟨y,e,h⟩:=ZSZ a
 have c:=aU a (m:=9223372036854775808) (by omega)
 rw[Zwz a]at c
 have c:CB .u64 (n:Int) 9223372036854775808=_:=c
 have d:=Zvt a
 have f:E3 .u64 (n:Int) 9223372036854775808=((n|||9223372036854775808:Nat):Int):=zP a (m:=9223372036854775808) (by omega)
 dsimp only[ZF,gv,br,vz,lr,cl,br]
 rw[e,Yg,h,c,d,f]
 unfold EC
 cases If n with
 |true=>rfl
 |false=>
  by_cases hs:9223372036854775808≤n
  ·simp[hs]
  ·have g:n|||9223372036854775808=n+9223372036854775808:=by
    have j:=Nat.two_pow_add_eq_or_of_lt (i:=63) (b:=n) (by omega) 1
    rw[Nat.or_comm]
    have k:9223372036854775808+n=9223372036854775808|||n:=j
    exact k.symm.trans (KY _ _)
   simp[hs,g]
theorem qA{v:Val}{n:Nat}(i:n<18446744073709551616)(g:v.bits=(n:Int)):XR v=some (if v.kind=2∨v.kind=3 then IntKind.u64.wrap ((n:Int)+9223372036854775808)else if v.kind=6 then(EC n:Int)else(n:Int)):=by
 obtain⟨y,e,h⟩:=ZTb i
 dsimp only[XR,dJ,ac,br,vz,vw,lr,cl,br,rJ,dq,lr]
 rw[g]
 by_cases a:v.kind=2∨v.kind=3
 ·have b:(decide (v.kind=2)||decide (v.kind=3))=true:=by simpa using a
  simp only[b,a,if_true]
  rfl
 ·have b:(decide (v.kind=2)||decide (v.kind=3))=false:=by simpa using a
  simp only[b,a,YB,if_false]
  by_cases f:v.kind=6
  ·have j:=JJ (n:=18446744073709551615-n) (by omega)
   simp only[f,decide_true,HH,YB,if_false,e,Yg,h]
   unfold EC
   cases If n with
   |true=>rfl
   |false=>
    by_cases hs:9223372036854775808≤n
    ·have c:(9223372036854775808:Int)≤(n:Int):=by omega
     have d:(18446744073709551615:Int)-(n:Int)=((18446744073709551615-n:Nat):Int):=by omega
     simp[hs,c,d,j]
    ·have c:¬(9223372036854775808:Int)≤(n:Int):=by omega
     have d:(n:Int)+9223372036854775808=((n+9223372036854775808:Nat):Int):=by omega
     have w2:=JJ (n:=n+9223372036854775808) (by omega)
     simp only[hs,c,d,w2,decide_false,YB,if_false,if_true]
  ·simp[f]
def EZ(a b:Int):Int:=if a<b then -1 else if b<a then 1 else 0
theorem GZ(a b:Int):decide (EZ a b=0)=decide (a=b):=by
 unfold EZ
 by_cases h:a<b
 ·rw[if_pos h,decide_eq_false (by omega:¬a=b)];rfl
 ·rw[if_neg h]
  by_cases c:b<a
  ·rw[if_pos c,decide_eq_false (by omega:¬a=b)];rfl
  ·rw[if_neg c,decide_eq_true (by omega:a=b)];rfl
theorem o8(a b:Int):Zl a b=some (EZ a b):=by
 dsimp only[Zl,cR,br,lr,cl,br,rY,eW,lr]
 unfold EZ
 by_cases h:a<b
 ·simp[h]
 ·by_cases c:b<a<;>simp[h,c]
theorem qn(a b:Int):Zk a b=some (EZ a b):=by
 dsimp only[Zk,fJ,br,lr,cl,br,rS,fX,lr]
 unfold EZ
 by_cases h:a<b
 ·simp[h]
 ·by_cases c:b<a<;>simp[h,c]
theorem ZSE(a b:Int):XV a b=some (EZ a b):=by
 dsimp only[XV,gj,br,lr,br]
 unfold EZ
 by_cases h:a<b
 ·simp[h]
 ·by_cases c:b<a<;>simp[h,c]
def Gt(d x:Val):Bool:=decide (d.kind=x.kind)&&(if d.kind=7∨d.kind=8 then decide (d.text=x.text)else if d.kind=6 then decide (EC d.bits.toNat=EC x.bits.toNat)else decide (d.bits=x.bits))
def KD(a b:ByteArray):Int:=if Bl a b=true then -1 else if a=b then 0 else 1
theorem lg(a b:ByteArray):decide (KD a b=0)=decide (a=b):=by
 unfold KD
 by_cases h:a=b
 ·subst h
  have:Bl a a=false:=by
   unfold Bl
   rw[Go.Proofs.bytesLess_eq]
   exact decide_eq_false (List.lt_irrefl _)
  simp[this]
 ·cases Bl a b<;>simp[h]
theorem ZSb(a b:ByteArray):Zj a b=some (KD a b):=by
 dsimp only[Zj,eP,br,lr,cl,br,rR,eJ,lr]
 unfold KD
 cases h:Bl a b with
 |true=>simp
 |false=>by_cases c:a=b<;>simp[c]
theorem n44{d x:Val}(C:1≤d.kind∧d.kind≤9)(p:AZ d)(q:AZ x):PA d x=some (Gt d x)∧X4 d x=some (Gt d x):=by
 obtain⟨n,m⟩:=Ty (SH p).1
 obtain⟨k,l⟩:=Ty (SH q).1
 have s:n<18446744073709551616:=by have:=(SH p).2;omega
 have r:k<18446744073709551616:=by have:=(SH q).2;omega
 have es:(decide (1≤d.kind)&&decide (d.kind≤9))=true:=by simp[C]
 unfold Gt
 by_cases he:d.kind=x.kind
 ·obtain⟨E,f⟩:∃E,E=(if d.kind=7∨d.kind=8 then decide (d.text=x.text)else if d.kind=6 then decide (EC d.bits.toNat=EC x.bits.toNat)else decide (d.bits=x.bits)):=⟨_,rfl⟩
  rw[←f]
  have K:=qA s m
  have z:=qA r l
  rw[←he]at z
  have o:(decide (1≤x.kind)&&decide (x.kind≤9))=true:=by rw[←he];exact es
  have key:Ok (fun c:Int=>decide (c=0)=E) (ZN d x)∧Ok (fun c:Int=>decide (c=0)=E) (Zw d x):=by
   have F:¬d.kind<x.kind:=by omega
   have D:¬x.kind<d.kind:=by omega
   dsimp only[ZN,cU,br,vz,vw,lr,cl,br,PG,MV,lr,sd,eN,lr,Zw,eQ,br,vw,lr,cl,br,Po,bI,lr,Pg,QI,lr]
   simp only[he,decide_true,HH,YB,if_false,o,Yg,decide_false,if_true,Int.lt_irrefl]
   rw[←he]
   by_cases t:d.kind=7∨d.kind=8
   ·have i:(decide (d.kind=7)||decide (d.kind=8))=true:=by simpa using t
    rw[if_pos t]at f
    simp only[i,if_true,NM,ZSb,Yg]
    refine⟨Ok.pure (by rw[f];exact lg _ _),?_⟩
    have e:(if Bl d.text x.text=true then some (-1:Int)else if(!(Bl d.text x.text||decide (d.text=x.text)))=true then some 1 else some 0)=some (KD d.text x.text):=by
     unfold KD
     cases h:Bl d.text x.text with
     |true=>simp
     |false=>by_cases v:d.text=x.text<;>simp[v]
    rw[e]
    exact Ok.pure (by rw[f];exact lg _ _)
   ·have i:(decide (d.kind=7)||decide (d.kind=8))=false:=by simpa using t
    rw[if_neg t]at f
    simp only[i,YB,if_false,IY,K,z,Yg]
    have L:∀a b:Int,(if decide (a<b)=true then some (-1:Int)else if decide (b<a)=true then some 1 else some 0)=some (EZ a b):=fun a b=>by
     unfold EZ
     by_cases h:a<b
     ·simp[h]
     ·by_cases v:b<a<;>simp[h,v]
    rw[L]
    by_cases hs:d.kind=2∨d.kind=3
    ·have g:(decide (d.kind=2)||decide (d.kind=3))=true:=by simpa using hs
     have j:¬d.kind=6:=by omega
     rw[if_neg j]at f
     simp only[g,hs,if_true,o8,Yg]
     refine⟨Ok.pure (by rw[f,GZ,decide_eq_decide,m,l,IntKind.wrap_i64,IntKind.wrap_i64];omega),Ok.pure (by rw[f,GZ,decide_eq_decide,m,l];unfold IntKind.wrap;simp only[show IntKind.u64.bits=64 from rfl,show IntKind.u64.signed=false from rfl,IY,YB,if_false];omega)⟩
    ·have g:(decide (d.kind=2)||decide (d.kind=3))=false:=by simpa using hs
     simp only[g,hs,YB,if_false]
     by_cases j:d.kind=6
     ·rw[if_pos j]at f
      have y:(EC d.bits.toNat=EC x.bits.toNat)↔((EC n:Int)=(EC k:Int)):=by rw[m,l];simp only[HN];omega
      simp only[j,decide_true,if_true,m,l,qZ s,qZ r,Yg,qn]
      exact⟨Ok.pure (by rw[f,GZ,decide_eq_decide,y]),Ok.pure (by rw[f,GZ,decide_eq_decide,y])⟩
     ·rw[if_neg j]at f
      simp only[j,decide_false,YB,if_false,qn,Yg]
      exact⟨Ok.pure (by rw[f,GZ]),Ok.pure (by rw[f,GZ,decide_eq_decide,m,l])⟩
  obtain⟨⟨c,G,H⟩,⟨B,I,J⟩⟩:=key
  have w:(Ai:Nat)=(Ai-1)+1:=by have:=B0 (n:=1) (by omega);omega
  constructor
  ·dsimp only[PA,Ru,vw,lr,cl,Z5,Sv,br,vw,lr,cl,br,rX,gQ,vw,lr,cl,bT,PG,MV,lr]
   simp only[he,decide_true,HH,YB,if_false,o,if_true,Yg,G,H,NM]
  ·have u:Iq Ai d x=some B:=by
    rw[w]
    show I1 (Iq (Ai-1)) d x=_
    dsimp only[I1,RT,br,vw,lr,cl,cs,br]
    have a1:¬d.kind=11:=by omega
    have A:¬d.kind=12:=by omega
    have a3:¬d.kind=10:=by omega
    rw[←he]
    simp only[a1,A,a3,decide_true,decide_false,HH,YB,if_false,I,Yg]
   dsimp only[X4,Vh,vw,lr,cl]
   rw[u]
   simp only[Yg,J,he,decide_true,NM]
 ·constructor
  ·dsimp only[PA,Ru,vw,lr,cl,Z5,Sv,br,vw,lr,cl,br]
   simp only[he,decide_false,TC,if_true,o8,Yg,IY,GZ]
  ·have w:(Ai:Nat)=(Ai-1)+1:=by have:=B0 (n:=1) (by omega);omega
   have u:Iq Ai d x=some (EZ d.kind x.kind):=by
    rw[w]
    show I1 (Iq (Ai-1)) d x=_
    dsimp only[I1,RT,br,vw,lr,cl,cs,br]
    simp only[he,decide_false,TC,if_true,ZSE,Yg]
   dsimp only[X4,Vh,vw,lr,cl]
   rw[u]
   simp only[he,decide_false,Yg,IY,GZ]
theorem ZR4{α ρ:Type}{B:Int×Int×List α→Option (Lv (Int×Int×List α) (Int×List α) ρ)}(l:List α)(p:α→Bool)
  (s:∀(i j:Nat) (r:List α) x,i≤j→r.length=l.length→r[j]?=some x→l[j]?=some x→B ((i:Int),(j:Int),r)=some (.nx (if p x then((i:Int),((j+1:Nat):Int),r)else(((i+1:Nat):Int),((j+1:Nat):Int),r.set i x))))
  (t:∀(i:Nat) r,B ((i:Int),(l.length:Int),r)=some (.ex ((i:Int),r))):
  ∀(k N i j:Nat) (r:List α),j+k=l.length→k<N→i≤j→r.length=l.length→r.take i=(l.take j).filter (fun x=>!p x)→i=((l.take j).filter fun x=>!p x).length→r.drop j=l.drop j→
  ∃(n:Nat) (o:List α),Am B N ((i:Int),(j:Int),r)=some (.inl ((n:Int),o))∧o.take n=l.filter (fun x=>!p x)∧n=(l.filter fun x=>!p x).length∧o.length=l.length:=by
 intro k
 induction k with
 |zero=>
  intro N i j r u hN b c d hi e
  obtain⟨N,rfl⟩:∃m,N=m+1:=⟨N-1,by omega⟩
  have:j=l.length:=by omega
  subst this
  rw[K5]at d hi
  exact⟨i,r,by rw[Am,t],d,hi,c⟩
 |succ k q=>
  intro N i j r u hN b c d hi e
  obtain⟨N,rfl⟩:∃m,N=m+1:=⟨N-1,by omega⟩
  have a:j<l.length:=by omega
  have hl:l[j]?=some l[j]:=Yb a
  have h:r[j]?=some l[j]:=by
   have:=congrArg (fun z=>z[0]?) e
   simpa[YF,a]using this
  have e0:l.take (j+1)=l.take j++[l[j]]:=Y0 a
  rw[Am,s i j r l[j] b c h hl]
  cases f:p l[j]with
  |true=>
   refine q N i (j+1) r (by omega) (by omega) (by omega) c ?_ ?_ ?_
   ·rw[e0,Y5,d];simp[f]
   ·rw[e0,Y5];simpa[f]using hi
   ·have:=congrArg (List.drop 1) e
    simpa[K7]using this
  |false=>
   have g:i<r.length:=by omega
   refine q N (i+1) (j+1) (r.set i l[j]) (by omega) (by omega) (by omega) (by rw[List.length_set];exact c) ?_ ?_ ?_
   ·rw[e0,Y5,←d,Y0 (by rw[List.length_set];exact g),List.take_set_of_le (Ye _),jR]
    simp[f]
   ·rw[e0,Y5,Yo,←hi]
    simp[f]
   ·rw[List.drop_set_of_lt (by omega)]
    have:=congrArg (List.drop 1) e
    simpa[K7]using this
theorem ZMN(l:List Slt)(f:Slt→Option Bool)(p:Slt→Bool)(d:∀x∈l,f x=some (p x))(h:l.length<4611686018427387904):Pv l f=some (Ds l p):=by
 unfold Pv
 simp only[Mt,Mj,Mo,Ms,al,KH,KQ,br,ix,CL,vz,vy,vw,vs,vg,v2,lr,Ay,ln,Al,lc,lf,Hz,ap,aq,a0,a1,ad,cl,cs,cf,wa,wi,ir,ca,cp,dd,mv,st,ss,sL,Bd.c,Bd.vl,sR,DR]
 rw[JB l p (fun i=>(i:Int)) () (hN:=B0 h) (he:=by simp[P3,Mt,Mj,Mo,Ms,al,KH,KQ,br,ix,CL,vz,vy,vw,vs,vg,v2,lr,Ay,ln,Al,lc,lf,Hz,ap,aq,a0,a1,ad,cl,cs,cf,wa,wi,ir,ca,cp,dd,mv,st,ss,sL,Bd.c,Bd.vl,sR,DR]) (hs:=by
  intro i y hy
  obtain⟨a,rfl⟩:=Yd.1 hy
  have b:i+1<9223372036854775808:=by omega
  have c:=d l[i] (Yi hy)
  simp[P3,Mt,Mj,Mo,Ms,al,KH,KQ,br,ix,CL,vz,vy,vw,vs,vg,v2,lr,Ay,ln,Al,lc,lf,Hz,ap,aq,a0,a1,ad,cl,cs,cf,wa,wi,ir,ca,cp,dd,mv,st,ss,sL,Bd.c,Bd.vl,sR,DR,a,b,c]
  cases p l[i]<;>rfl)]
 unfold Ds
 cases l.findIdx? _<;>rfl
theorem n41(l:List Slt)(f:Slt→Option Bool)(p:Slt→Bool)(k:∀x∈l,f x=some (p x))(h:l.length<549755813888):LZ l f=some (l.filter fun x=>!p x):=by
 have e0:=ZMN l f p k (by omega)
 unfold LZ
 dsimp only[V9,VW,vw,vs,vg,vz,cs,br,lr,lf,lc,wi]
 rw[e0,Yg]
 cases hi:l.findIdx? p with
 |none=>
  rw[show Ds l p= -1 from by unfold Ds;rw[hi]]
  rw[show l.filter (fun x=>!p x)=l from Tt.2 fun x a=>by rw[jI.1 hi x a];rfl]
  rfl
 |some i=>
  obtain⟨t,u,v⟩:=Y4.1 hi
  rw[show Ds l p=(i:Int)from by unfold Ds;rw[hi]]
  have b:((i:Int)= -1)=False:=eq_false (by omega)
  have m: -9223372036854775808≤(i:Int)+1∧(i:Int)+1<9223372036854775808:=by omega
  have y:(l.take i).filter (fun x=>!p x)=l.take i:=Tt.2 fun x a=>by
   obtain⟨j,H,rfl⟩:=jK.1 a
   rw[Bool.eq_false_iff.2 (v j (by omega))];rfl
  have g:(l.take (i+1)).filter (fun x=>!p x)=l.take i:=by rw[Y0 t,Y5,y];simp[u]
  obtain⟨c,E,z,A,C,D⟩:=ZR4 (B:=ML l f) l p (fun i j r x w I a hl=>by
    have G:=(Yd.1 hl).1
    have q:(j:Int)<(l.length:Int):=by omega
    have s:=k x (Yi hl)
    have F: -9223372036854775808≤(i:Int)+1∧(i:Int)+1<9223372036854775808:=by omega
    have w2: -9223372036854775808≤(j:Int)+1∧(j:Int)+1<9223372036854775808:=by omega
    have d:(0:Int)≤(j:Int):=by omega
    have e:(0:Int)≤(i:Int):=by omega
    have n:(i:Int)<(l.length:Int):=by omega
    have o:i<r.length:=by omega
    dsimp only[ML,SG,al,KH,KQ,br,ix,CL,vz,vy,vw,vs,vg,v2,lr,Ay,ln,Al,lc,lf,Hz,ap,aq,a0,a1,ad,cl,cs,cf,wa,wi,ir,ca,cp,dd,mv,st,ss,sL,Bd.c,Bd.vl,sR,DR,KJ,M6,iw,iz,rb,cr,M8,ch]
    simp only[Gx,DR,q,s,F,w2,d,e,n,o,a,and_self,and_true,true_and,decide_true,if_true,HN,Yg]
    cases p x<;>simp)
   (fun i r=>by
    dsimp only[ML,SG,al,KH,KQ,br,ix,CL,vz,vy,vw,vs,vg,v2,lr,Ay,ln,Al,lc,lf,Hz,ap,aq,a0,a1,ad,cl,cs,cf,wa,wi,ir,ca,cp,dd,mv,st,ss,sL,Bd.c,Bd.vl,sR,DR,KJ,M6,iw,iz,rb,cr,M8,ch]
    simp)
   (l.length-(i+1)) Ai i (i+1) l (by omega) (B0 (by omega)) (by omega) rfl g.symm (by rw[g,Yr];omega) rfl
  rw[show((i:Int)+1)=((i+1:Nat):Int)from rfl]at m⊢
  simp only[b,m,z,decide_false,decide_true,YB,and_self,if_true,if_false,Yg,Sum.elim_inl]
  have d:c≤l.length:=by rw[C];exact NE _ _
  have e:(c:Int)=((E.take c).length:Int):=by rw[Yr];omega
  simp[Vq,A,D,al,KH,KQ,br,ix,CL,vz,vy,vw,vs,vg,v2,lr,Ay,ln,Al,lc,lf,Hz,ap,aq,a0,a1,ad,cl,cs,cf,wa,wi,ir,ca,cp,dd,mv,st,ss,sL,Bd.c,Bd.vl,sR,DR,KJ,M6,iw,iz,rb,cr,M8,ch]
  omega
end Go.Proofs.YtchkcemlglpobaaGreat
