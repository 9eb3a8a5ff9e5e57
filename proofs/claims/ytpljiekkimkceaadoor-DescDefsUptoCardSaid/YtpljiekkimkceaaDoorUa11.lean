import Derived.Test.YtpljiekkimkceaaDoorUa08
import Derived.Test.YtpljiekkimkceaaDoorUa09
import Derived.Test.YtpljiekkimkceaaDoorUa10
import Derived.Shelf.Strings.SplitCore
import Derived.Shelf.Strings.Search3
import Derived.Shelf.Strings.Count
import Derived.Lib.SplitLaws
import Derived.Test.YtpljiekkimkceaaDoorUa00
namespace Go.Proofs.YtpljiekkimkceaaDoor
set_option linter.all false
open Go Go.Eng Go.Shelf Go.RowKit
def RZ:Go.Shelf.Ren:=⟨fun|221=>45|268=>56|138=>57|143=>58|195=>61|197=>62|218=>63|219=>64|260=>66|217=>67|225=>68|224=>69|267=>70|266=>73|314=>74|n=>n,fun|9=>9|3=>3|31=>29|4=>4|0=>0|105=>124|21=>21|5=>5|46=>90|119=>131|139=>134|138=>133|146=>135|51=>104|n=>n,fun|1=>0|3=>1|4=>2|n=>n⟩
set_option maxRecDepth 100000 in
theorem K2:Go.Proofs.Lays.n221 Tryd.prog RZ where
 mixed:=by kernel_rfl
 f138:=Tryd.func57.trans (congrArg some (by kernel_rfl))
 f143:=Tryd.func58.trans (congrArg some (by kernel_rfl))
 f195:=Tryd.func61.trans (congrArg some (by kernel_rfl))
 f197:=Tryd.func62.trans (congrArg some (by kernel_rfl))
 f217:=Tryd.func67.trans (congrArg some (by kernel_rfl))
 f218:=Tryd.func63.trans (congrArg some (by kernel_rfl))
 f219:=Tryd.func64.trans (congrArg some (by kernel_rfl))
 f221:=Tryd.func45.trans (congrArg some (by kernel_rfl))
 f224:=Tryd.func69.trans (congrArg some (by kernel_rfl))
 f225:=Tryd.func68.trans (congrArg some (by kernel_rfl))
 f260:=Tryd.func66.trans (congrArg some (by kernel_rfl))
 f266:=Tryd.func73.trans (congrArg some (by kernel_rfl))
 f267:=Tryd.func70.trans (congrArg some (by kernel_rfl))
 f268:=Tryd.func56.trans (congrArg some (by kernel_rfl))
 f314:=Tryd.func74.trans (congrArg some (by kernel_rfl))
 t0:=Tryd.underlying0
 a0:=Tryd.isAgg0
 z0:=Tryd.sizeOf0
 v0:=Tryd.zeroValue0
 t3:=Tryd.underlying3
 a3:=Tryd.isAgg3
 z3:=Tryd.sizeOf3
 v3:=Tryd.zeroValue3
 t4:=Tryd.underlying4
 a4:=Tryd.isAgg4
 z4:=Tryd.sizeOf4
 v4:=Tryd.zeroValue4
 t5:=Tryd.underlying5
 a5:=Tryd.isAgg5
 z5:=Tryd.sizeOf5
 v5:=Tryd.zeroValue5
 t9:=Tryd.underlying9
 a9:=Tryd.isAgg9
 z9:=Tryd.sizeOf9
 v9:=Tryd.zeroValue9
 t21:=Tryd.underlying21
 a21:=Tryd.isAgg21
 z21:=Tryd.sizeOf21
 v21:=Tryd.zeroValue21
 t31:=Tryd.underlying29
 a31:=Tryd.isAgg29
 z31:=Tryd.sizeOf29
 v31:=Tryd.zeroValue29
 t46:=Tryd.underlying90
 a46:=Tryd.isAgg90
 z46:=Tryd.sizeOf90
 v46:=Tryd.zeroValue90
 t51:=Tryd.underlying104
 a51:=Tryd.isAgg104
 z51:=Tryd.sizeOf104
 v51:=Tryd.zeroValue104
 t105:=Tryd.underlying124
 a105:=Tryd.isAgg124
 z105:=Tryd.sizeOf124
 v105:=Tryd.zeroValue124
 t119:=Tryd.underlying131
 a119:=Tryd.isAgg131
 z119:=Tryd.sizeOf131
 t138:=Tryd.underlying133
 a138:=Tryd.isAgg133
 z138:=Tryd.sizeOf133
 v138:=Tryd.zeroValue133
 t139:=Tryd.underlying134
 a139:=Tryd.isAgg134
 z139:=Tryd.sizeOf134
 v139:=Tryd.zeroValue134
 t146:=Tryd.underlying135
 a146:=Tryd.isAgg135
 z146:=Tryd.sizeOf135
 v146:=Tryd.zeroValue135
 g1:=by kernel_rfl
 g3:=by kernel_rfl
 g4:=by kernel_rfl
def Ng(s:ByteArray)(c:UInt8):List ByteArray:=Lib.splitB ⟨#[c]⟩ 0 (Lib.countB s ⟨#[c]⟩) s
theorem R8(ℓ:Nat)(ℋ:Hp)(s:ByteArray)(c:UInt8)(n:s.size<2147483648)(b:AV→Hp→Prop)(h:b (.d (.list ((Ng s c).map Ar))) ℋ):
  ZaR Tryd.prog 45 ℓ [.d (.str s),.d (.str ⟨#[c]⟩),.d (.int .i64 0),.d (.int .i64 (-1))] ℋ b:=by
 have g:(1:Nat)≤(⟨#[c]⟩:ByteArray).size:=Yc _
 have q:=Lib.countB_le ⟨#[c]⟩ g s.size s (Yc _)
 have a:=Lib.splitB_all ⟨#[c]⟩ g 0 _ s rfl
 refine Sj (ds:=[.str s,.str ⟨#[c]⟩,.int .i64 0,.int .i64 (-1)]) (V:=[.string s,.string ⟨#[c]⟩,.int .i64 (0:Nat),.int .i64 (-1)]) (es:=(Lib.splitB ⟨#[c]⟩ 0 (Lib.countB s ⟨#[c]⟩) s).map Ar)
  (C:=((Lib.splitB ⟨#[c]⟩ 0 (Lib.countB s ⟨#[c]⟩) s).map Value.string).toArray) (e:=9) (sz:=1) (cap:=Lib.countB s ⟨#[c]⟩+1) ⟨_,AH Tryd.f45,Tryd.func45,by kernel_rfl,by kernel_rfl⟩ rfl ?_ (by simp[a]) (by simp[Ar]) ?_ h
 ·intro w
  have l:=Any.strings_genSplit_core K2 (by kernel_rfl) s ⟨#[c]⟩ 0 (-1) (Lib.countB s ⟨#[c]⟩+1) w (by omega) g (CT _)
   (fun x k f=>(Any.strings_Index_one {K2 with } x c _).mono fun e w' ⟨he,m⟩=>⟨by rw[he];show _=Ending.returned (Value.int .i64 (Lib.index x.data.toList [c]));rw[Lib.index_one],m⟩)
   ((Any.strings_Count_one {K2 with } s c w).mono fun e w' ⟨he,m⟩=>⟨by
    rw[he]
    show _=Ending.returned (Value.int .i64 ((Lib.count s.data.toList [c]:Nat):Int))
    rw[Lib.count_one]
    rfl,m⟩) (by decide) (by decide) (by rw[Yt (by decide)];omega)
  rw[Nat.add_sub_cancel,a]at l
  have p:Lib.cellsOf (Lib.splitB ⟨#[c]⟩ 0 (Lib.countB s ⟨#[c]⟩) s) (Lib.countB s ⟨#[c]⟩+1)=((Lib.splitB ⟨#[c]⟩ 0 (Lib.countB s ⟨#[c]⟩) s).map Value.string).toArray:=by rw[←a];exact Lib.cellsOf_full _
  rw[p]at l
  rw[Ym,a]
  exact l
 ·intro i j x d hi o
  rw[Yn]at hi
  cases f:(Lib.splitB ⟨#[c]⟩ 0 (Lib.countB s ⟨#[c]⟩) s)[i]? with
  |none=>rw[f]at hi;cases hi
  |some y=>
   rw[f]at hi
   cases hi
   cases j with
   |zero=>cases o;exact⟨.string y,by simp[f],rfl⟩
   |succ j=>simp[Ar]at o
theorem S1{w:World}{a:Addr}{v:Value}(h:w.cell? a=some v):a.spot=none∧a.block<w.heap.size:=by
 unfold World.cell? at h
 cases b:w.heap[a.block]? with
 |none=>rw[b]at h;cases h
 |some o=>
  rw[b]at h
  refine⟨?_,(Yu.1 b).1⟩
  cases o<;>simp at h
  cases c:a.spot with
  |none=>rfl
  |some q=>rw[c]at h;simp at h
theorem KN{w:World}{S:Nat→Prop}{es:List (List D)}{v:Value}(h:RepD w S (.list es) v):∃a cap,v=.slice a es.length cap∧(∀sz:Nat,(∀e∈es,e.length=sz)→0<es.length→0<sz→∃(b off:Nat) (c:Nat→Nat→Value),a=some ⟨b,off,none⟩∧b<w.heap.size∧∀(i j:Nat) (e:List D) (x:D),es[i]?=some e→e[j]?=some x→w.cell? ⟨b,off+i*sz+j,none⟩=some (c i j)∧RepD w S x (c i j)):=by
 cases h with
 |nil=>exact⟨none,0,rfl,fun sz _ h=>absurd h (Nat.lt_irrefl 0)⟩
 |list _ a sz cap c z p g o t=>
  refine⟨some a,cap,rfl,fun m k f s=>?_⟩
  obtain⟨e0,d⟩:∃e,es[0]?=some e:=⟨_,Yb f⟩
  have hm:=Yp d
  have r:sz=m:=(g e0 hm).symm.trans (k e0 hm)
  subst r
  obtain⟨y,l⟩:∃x,e0[0]?=some x:=⟨_,Yb (by rw[g e0 hm];exact s)⟩
  have n:=o 0 0 e0 y d l
  rw[Hr,CR,show a.add 0=a from rfl]at n
  obtain⟨s1,s2⟩:=S1 n
  obtain⟨b,off,u⟩:=a
  have s1:u=none:=s1
  subst s1
  refine⟨b,off,c,rfl,s2,fun i j e x hi q=>⟨?_,t i j e x hi q⟩⟩
  have:=o i j e x hi q
  rw[Addr.add_lit,←Yr]at this
  exact this
theorem Ds{w:World}{S:Nat→Prop}{es:List (List D)}{v:Value}(h:RepD w S (.list es) v):∃a l c,v=.slice a l c:=by
 cases h with
 |nil=>exact⟨_,_,_,rfl⟩
 |list=>exact⟨_,_,_,rfl⟩
theorem Vq{w:World}{S:Nat→Prop}{l:List Enm}{v:Value}(h:RepD w S (.list (l.map Ay)) v):∃a cap,v=.slice a l.length cap∧C5 w.heap.size w a (l.map Enm.name):=by
 obtain⟨a,cap,e,h⟩:=KN h
 rw[Ym]at e h
 refine⟨a,cap,e,fun m=>?_⟩
 rw[Ym]at m
 obtain⟨b,off,c,u,A,B⟩:=h 5 (fun x g=>by obtain⟨y,_,rfl⟩:=YD.1 g;rfl) m (by decide)
 refine⟨b,off,u,A,fun j f=>?_⟩
 rw[Ym]at f
 have g:(l.map Ay)[j]?=some (Ay l[j]):=by rw[Yn,Yb f];rfl
 have D:((l.map Enm.name)[j]?.getD ⟨#[]⟩)=l[j].name:=by rw[Yn,Yb f];rfl
 have k:=fun i d C=>B j i _ d g C
 obtain⟨n,s⟩:=k 0 (.str l[j].name) rfl
 obtain⟨o,t⟩:=k 1 (.bool l[j].opn) rfl
 obtain⟨E,H⟩:=k 2 _ rfl
 obtain⟨F,I⟩:=k 3 _ rfl
 obtain⟨G,J⟩:=k 4 _ rfl
 rw[D]
 refine⟨?_,⟨l[j].opn,?_⟩,?_,?_,?_⟩
 ·have e:c j 0=.string l[j].name:=by generalize c j 0=z at s;cases s;rfl
  rw[e]at n;exact n
 ·have e:c j 1=.bool l[j].opn:=by generalize c j 1=z at t;cases t;rfl
  rw[e]at o;exact o
 ·obtain⟨p,q,r,e⟩:=Ds H;exact⟨p,q,r,by rw[E,e]⟩
 ·obtain⟨p,q,r,e⟩:=Ds I;exact⟨p,q,r,by rw[F,e]⟩
 ·obtain⟨p,q,r,e⟩:=Ds J;exact⟨p,q,r,by rw[G,e]⟩
theorem Vm{w:World}{S:Nat→Prop}{l:List Msg}{v:Value}(h:RepD w S (.list (l.map Am)) v):∃a cap,v=.slice a l.length cap∧C9 w.heap.size w a (l.map Msg.name):=by
 obtain⟨a,cap,e,h⟩:=KN h
 rw[Ym]at e h
 refine⟨a,cap,e,fun m=>?_⟩
 rw[Ym]at m
 obtain⟨b,off,c,s,t,u⟩:=h 5 (fun x g=>by obtain⟨y,_,rfl⟩:=YD.1 g;rfl) m (by decide)
 refine⟨b,off,s,t,fun j f=>?_⟩
 rw[Ym]at f
 have g:(l.map Am)[j]?=some (Am l[j]):=by rw[Yn,Yb f];rfl
 have B:((l.map Msg.name)[j]?.getD ⟨#[]⟩)=l[j].name:=by rw[Yn,Yb f];rfl
 have k:=fun i d A=>u j i _ d g A
 obtain⟨n,o⟩:=k 0 (.str l[j].name) rfl
 obtain⟨C,G⟩:=k 1 _ rfl
 obtain⟨D,H⟩:=k 2 _ rfl
 obtain⟨E,I⟩:=k 3 _ rfl
 obtain⟨F,J⟩:=k 4 _ rfl
 rw[B]
 refine⟨?_,?_,?_,?_,?_⟩
 ·have e:c j 0=.string l[j].name:=by generalize c j 0=z at o;cases o;rfl
  rw[e]at n;exact n
 ·obtain⟨p,q,r,e⟩:=Ds G;exact⟨p,q,r,by rw[C,e]⟩
 ·obtain⟨p,q,r,e⟩:=Ds H;exact⟨p,q,r,by rw[D,e]⟩
 ·obtain⟨p,q,r,e⟩:=Ds I;exact⟨p,q,r,by rw[E,e]⟩
 ·obtain⟨p,q,r,e⟩:=Ds J;exact⟨p,q,r,by rw[F,e]⟩
theorem Vb{w:World}{S:Nat→Prop}{l:List Svc}{v:Value}(h:RepD w S (.list (l.map Aw)) v):∃a cap,v=.slice a l.length cap∧C3 w.heap.size w a (l.map Svc.name):=by
 obtain⟨a,cap,e,h⟩:=KN h
 rw[Ym]at e h
 refine⟨a,cap,e,fun m=>?_⟩
 rw[Ym]at m
 obtain⟨b,off,c,s,t,u⟩:=h 3 (fun x g=>by obtain⟨y,_,rfl⟩:=YD.1 g;rfl) m (by decide)
 refine⟨b,off,s,t,fun j f=>?_⟩
 rw[Ym]at f
 have g:(l.map Aw)[j]?=some (Aw l[j]):=by rw[Yn,Yb f];rfl
 have B:((l.map Svc.name)[j]?.getD ⟨#[]⟩)=l[j].name:=by rw[Yn,Yb f];rfl
 have k:=fun i d A=>u j i _ d g A
 obtain⟨n,o⟩:=k 0 (.str l[j].name) rfl
 obtain⟨C,E⟩:=k 1 _ rfl
 obtain⟨D,F⟩:=k 2 _ rfl
 rw[B]
 refine⟨?_,?_,?_⟩
 ·have e:c j 0=.string l[j].name:=by generalize c j 0=z at o;cases o;rfl
  rw[e]at n;exact n
 ·obtain⟨p,q,r,e⟩:=Ds E;exact⟨p,q,r,by rw[C,e]⟩
 ·obtain⟨p,q,r,e⟩:=Ds F;exact⟨p,q,r,by rw[D,e]⟩
theorem SJ{l:Nat}{H:Hp}{m:Mu}{S:Nat→Prop}{w w':World}(h:Ok l H m S w)(c:Below w.heap.size w w'):Ok l H m S w'∧Ext l H m S w H m S w':=by
 have j:∀q:Aa,q.1≤l→(H q).live=true→(m q).cap≠0→(m q).b<w.heap.size:=fun q d hl f=>by
  obtain⟨C,c,_⟩:=h.blk q d hl f
  grind
 have a:Ext l H m S w H m S w':=⟨fun _ h=>h,fun b hs=>c.block b (h.sub b hs),fun _ _=>Yc _,fun _ _ _ h=>⟨h,rfl,rfl⟩,c.os,c.tape,c.output,c.size⟩
 refine⟨⟨fun b hs=>F9 (h.sub b hs) c.size,h.empty,h.fresh,h.inj,fun q d hl p=>?_,h.mp.step (Yc _) (fun _ _ e _=>⟨e,rfl,rfl⟩) (fun _ h=>h) (fun _ h=>.inl h) a.blk (fun b o k _=>(c.block b (Di k)).trans k)⟩,a⟩
 obtain⟨C,r,hs,g,n⟩:=h.blk q d hl p
 exact⟨C,(c.block _ (j q d hl p)).trans r,hs,g,fun i x v hi e=>⟨(n i x v hi e).1,(n i x v hi e).2.ext a d⟩⟩
theorem Sn{l:Nat}{H:Hp}{m:Mu}{S:Nat→Prop}{w w':World}(h:Ok l H m S w)(c:Below w.heap.size w w'){g:Nat}(y:w.heap.size≤g)(t:g<w'.heap.size):Ok l H m (fun b=>S b∨b=g) w'∧Ext l H m S w H m (fun b=>S b∨b=g) w':=by
 have f:∀q:Aa,q.1≤l→(H q).live=true→(m q).cap≠0→(m q).b<w.heap.size:=fun q d hl n=>by
  obtain⟨C,c,_⟩:=h.blk q d hl n
  exact(Yu.1 c).1
 have a:Ext l H m S w H m (fun b=>S b∨b=g) w':=⟨fun _ h=>.inl h,fun b hs=>c.block b (h.sub b hs),fun _ _=>Yc _,fun _ _ _ h=>⟨h,rfl,rfl⟩,c.os,c.tape,c.output,c.size⟩
 refine⟨⟨fun b hs=>hs.elim (fun hs=>F9 (h.sub b hs) c.size) (fun e=>by rw[e];exact t),h.empty,fun q d hl j hs=>?_,h.inj,fun q d hl j=>?_,h.mp.step (Yc _) (fun _ _ k _=>⟨k,rfl,rfl⟩) (fun _ h=>.inl h) (fun b hs=>hs.imp id fun e=>.inl (by omega)) a.blk (fun b o r _=>(c.block b (Di r)).trans r)⟩,a⟩
 ·rcases hs with hs|hs
  ·exact h.fresh q d hl j hs
  ·have:=f q d hl j
   omega
 ·obtain⟨C,u,hs,p,s⟩:=h.blk q d hl j
  exact⟨C,(c.block _ (f q d hl j)).trans u,hs,p,fun i x v hi k=>⟨(s i x v hi k).1,(s i x v hi k).2.ext a d⟩⟩
def BI(s:Scm):List ByteArray:=CF (Bm (s.enums.map Enm.name) (s.messages.map Msg.name) (s.services.map Svc.name))
def Gq(s:Scm):Option (List ByteArray):=if(s.enums.length≤1048576∧s.messages.length≤1048576∧s.services.length≤1048576)∧(∀z∈s.enums.map Enm.name,z.size≤1048576)∧(∀z∈s.messages.map Msg.name,z.size≤1048576)∧(∀z∈s.services.map Svc.name,z.size≤1048576)then some (BI s)else none
theorem RD{ℓ:Nat}{ℋ:Hp}(s:Scm){y:List ByteArray}(hy:Gq s=some y){a:AV→Hp→Prop}(h:a (.d (.list (y.map Ar))) ℋ):ZaR Tryd.prog 13 ℓ [.agg ((Bi s).map .d)] ℋ a:=
 ⟨⟨_,AH Tryd.f13,Tryd.func13,by kernel_rfl,by kernel_rfl⟩,fun m S w vs A M=>by
  unfold Gq at hy
  split at hy
  ·rename_i Q
   obtain⟨⟨F,G,H⟩,X,Y,z3⟩:=Q
   cases hy
   obtain⟨hs,o⟩:=M
   obtain⟨l⟩:=vs
   match l,hs,o with
   |[v0],_,o=>
    have L:=o 0 _ v0 rfl rfl
    cases L with
    |agg _ t hl Z c=>
     obtain⟨t⟩:=t
     match t,hl,c with
     |[B,C,D],_,c=>
      have U:RepD w S (.list (s.messages.map Am)) B:=by have:=c 0 _ B rfl rfl;cases this;assumption
      have V:RepD w S (.list (s.enums.map Ay)) C:=by have:=c 1 _ C rfl rfl;cases this;assumption
      have W:RepD w S (.list (s.services.map Aw)) D:=by have:=c 2 _ D rfl rfl;cases this;assumption
      obtain⟨E,J,rfl,O⟩:=Vm U
      obtain⟨ae,I,rfl,N⟩:=Vq V
      obtain⟨av,cv,rfl,P⟩:=Vb W
      refine(TL E ae av _ J _ I _ cv (s.enums.map Enm.name) (s.messages.map Msg.name) (s.services.map Svc.name) (by rw[Ym]) (by rw[Ym]) (by rw[Ym]) X Y z3 (by rw[Ym];exact F) (by rw[Ym];exact G) (by rw[Ym];exact H) w N O P).mono fun e w' R=>?_
      obtain⟨v,u,z,n⟩:=R
      rcases n with⟨n,rfl⟩|⟨g,cap,rfl,g1,K,g3,g4⟩
      ·obtain⟨p,r⟩:=SJ A z
       have e0:BI s=[]:=List.length_eq_zero_iff.1 (by unfold BI;rw[n,EZ];rfl)
       rw[e0]at h
       exact⟨_,_,ℋ,m,S,u,h,p,.d _ _ .nil,r⟩
      ·obtain⟨p,r⟩:=Sn A z g1 K
       refine⟨_,_,ℋ,m,_,u,h,p,.d _ _ ?_,r⟩
       have f:(Bm (s.enums.map Enm.name) (s.messages.map Msg.name) (s.services.map Svc.name)).length=((BI s).map Ar).length:=by rw[Ym];unfold BI;rw[EZ]
       rw[f]
       refine RepD.list ((BI s).map Ar) ⟨g,0,none⟩ 1 cap (fun i _=>.string ((BI s).getD i ⟨#[]⟩)) (fun _=>.inr rfl) (by rw[←f];exact g3) (fun x T=>by obtain⟨y,_,rfl⟩:=YD.1 T;rfl) (fun i j x d hi k=>?_) (fun i j x d hi k=>?_)
       ·rw[Yn]at hi
        cases b:(BI s)[i]? with
        |none=>rw[b]at hi;cases hi
        |some q=>
         rw[b]at hi
         cases hi
         cases j with
         |zero=>
          rw[Addr.add_lit,YH,Nat.mul_one,CR,Yz,b]
          exact g4 i q b
         |succ j=>simp[Ar]at k
       ·rw[Yn]at hi
        cases b:(BI s)[i]? with
        |none=>rw[b]at hi;cases hi
        |some q=>
         rw[b]at hi
         cases hi
         cases j with
         |zero=>
          cases k
          rw[Yz,b]
          exact .str _
         |succ j=>simp[Ar]at k
  ·cases hy⟩
end Go.Proofs.YtpljiekkimkceaaDoor
