import Derived.Test.YtalafnjhcecdpaaGreatDoorZb26
import Derived.Test.YtalafnjhcecdpaaGreatDoorZb20
import Derived.Test.YtalafnjhcecdpaaGreatDoorCards
import Derived.Test.YtalafnjhcecdpaaGreatDoorTie
import Derived.Lib.LaidTab
import Derived.WalkKit
import Derived.ProofKit
import Derived.OpenShut
import Derived.JoinedCond
import Derived.Test.YtalafnjhcecdpaaGreatDoorZb00
namespace Go.Proofs.YtalafnjhcecdpaaGreatDoor
set_option linter.all false
open Go Go.Eng
theorem Zkr{s:Scm}{n:ByteArray}{v:Val}(hs:An (Au s)≤1048576)(_:(0:Nat)≤1)(hv:An (Ai v)≤1048576):Zo s n v=some true:=by
 obtain⟨b1,e1,j⟩:=o16 hs
 dsimp only[Zo,br,vy,wg,lr,lc,cl,AD,Aj,br]
 rw[e1,yH]
 cases b1 with
 |false=>simp
 |true=>
 have g:=wD (j rfl) hs
 have d:AR v:=hv
 have e2:=dI hs g n v d
 rw[e2]
 by_cases c:Jf s true n v=0
 ·obtain⟨c1,ok,c3⟩:=cX.1 c
  obtain⟨V,W,X,Y⟩:=qc g 15 n v d ok
  have e4:=WL hs g n v d ok
  have hF:=fun x (hx:x∈v.slots)=>ZwB (PD g ok hx).2.2 (Gp d hx) (ok.sl x hx).2
  have pw:v.slots.Pairwise fun a b=>a.num≠b.num:=ok.pw.imp fun h=>h.1
  have hS:∀z∈(Av s 16 n v).slots,∃x∈v.slots,z=.mk x.num (Bo (Av s 15) (AL (AW s n) x.num) x.val)∧Bj (AL (AW s n) x.num) x.val=false:=fun z M=>oL g ok M
  have U:Gw (Av s 16 n v).slots:=Pi (Px (g.asc n)) pw
  have hm:∀x∈v.slots,Bj (AL (AW s n) x.num) x.val=false→Slt.mk x.num (Bo (Av s 15) (AL (AW s n) x.num) x.val)∈(Av s 16 n v).slots:=fun x hx o=>by
   obtain⟨a1,a2,_⟩:=PD g ok hx
   exact MM.2 ⟨_,a1,x,hx,a2.symm,o,by rw[a2]⟩
  have hl:(Av s 16 n v).slots.length≤v.slots.length:=by
   show(Cm (Bo (Av s 15)) (AW s n) v.slots).length≤_
   rw[←bN (N:=Bo (Av s 15)) (g.asc n) pw fun x hx=>(ok.sl x hx).1,YC]
   exact CP (QU _ _) (JU (Dv v.slots).length_eq)
  have hr:(Av s 16 n v).raws.Perm v.raws:=by
   show(Dy v.raws).Perm v.raws
   rw[Kt]
   exact Dv v.raws
  have ha:(Av s 16 n v).raws.Pairwise fun x y=>x.num≤y.num:=cC v.raws
  have f:AR (Av s 16 n v):=CP (cY g.asc 16 n v) d
  have r:Av s 16 n (Av s 16 n v)=Av s 16 n v:=W
  have O:cnt (Av s 16 n v)≤cnt v:=X
  have P:dp (Av s 16 n v)≤dp v:=Y
  have q:OkM s true 15 (Bl s n).1 (Av s 16 n v):=V
  clear V W X Y
  generalize Av s 16 n v=w at*
  have S:Jf s true n w=0:=cX.2 ⟨c1,q,by omega⟩
  have e5:=dI hs g n w f
  obtain⟨b6,e6,K⟩:=v6 hs g n w f
  have K:=K.2 ⟨S,r.symm⟩
  subst K
  have T:=WL hs g n w f q
  rw[r]at T
  obtain⟨b8,e8,L⟩:=xq f f
  have L:=L.2 rfl
  subst L
  have Z:=CE f
  have z1:=Z.s
  have z2:=Z.r
  have Q:w.slots.length<4611686018427387904:=by omega
  have w2:w.raws.length<4611686018427387904:=by omega
  have zv:=CE d
  have z3:=zv.s
  have w3:v.slots.length<4611686018427387904:=by omega
  have q1:Ah (Ox v w) Ag 1=some (.inl ()):=bP w.slots.length () (fun i l k=>by
   have j:(i:Int)<(w.slots.length:Int):=by omega
   have E:i+1<9223372036854775808:=by omega
   have F:((i:Int)-1)=((i-1:Nat):Int):=by omega
   have G:=Ya k
   have m:i-1<w.slots.length:=by omega
   have H:=Ya m
   have g7:=Y6.1 U (i-1) i m k (by omega)
   have I:¬w.slots[i].num≤w.slots[i-1].num:=by omega
   have J: -9223372036854775808≤((i-1:Nat):Int)∧((i-1:Nat):Int)<9223372036854775808:=by omega
   dsimp only[Ox,br,ix,CD,vz,wg,vs,Ar,ln,Af,wa,wi,Aj,br]
   rw[F]
   simp[Q,j,E,G,H,I,J]) (fun i l k=>by
   have j:¬(i:Int)<(w.slots.length:Int):=by omega
   dsimp only[Ox,br,ix,CD,vz,wg,vs,Ar,ln,Af,wa,wi,Aj,br]
   simp[Q,j]) Ag 1 (Yf _) (by have:=AZ (n:=w.slots.length) (by omega);omega) (AZ (by omega))
  have q2:Ah (OK v w) Ag 1=some (.inl ()):=bP w.raws.length () (fun i l k=>by
   have j:(i:Int)<(w.raws.length:Int):=by omega
   have E:i+1<9223372036854775808:=by omega
   have F:((i:Int)-1)=((i-1:Nat):Int):=by omega
   have G:=Ya k
   have m:i-1<w.raws.length:=by omega
   have H:=Ya m
   have g7:=Y6.1 ha (i-1) i m k (by omega)
   have I:¬w.raws[i].num<w.raws[i-1].num:=by omega
   have J: -9223372036854775808≤((i-1:Nat):Int)∧((i-1:Nat):Int)<9223372036854775808:=by omega
   dsimp only[OK,br,ix,CD,vz,wg,vs,Ar,ln,Af,wa,wi,Aj,br]
   rw[F]
   simp[w2,j,E,G,H,I,J]) (fun i l k=>by
   have j:¬(i:Int)<(w.raws.length:Int):=by omega
   dsimp only[OK,br,ix,CD,vz,wg,vs,Ar,ln,Af,wa,wi,Aj,br]
   simp[w2,j]) Ag 1 (Yf _) (by have:=AZ (n:=w.raws.length) (by omega);omega) (AZ (by omega))
  have t:Sq v w=some true:=ZtN v w d f (fun x hx=>by
   obtain⟨k1,k2⟩:=hF x hx
   cases o:Bj (AL (AW s n) x.num) x.val with
   |true=>
    refine .inl ⟨ro.2 fun z M e=>?_,k1 o⟩
    obtain⟨y,hy,rfl,p⟩:=hS z M
    have e:y.num=x.num:=e
    have D:y=x:=LB fun ne=>absurd e (dn (R:=fun a b:Slt=>a.num≠b.num) (fun h=>h.symm) pw hy hx ne)
    rw[D,o]at p
    cases p
   |false=>
    have l:=hm x hx o
    exact .inr ⟨_,l,Zt6 (pg U) l,k2⟩) hr
  have u:=cJ Ag w (Oe f) f
  have A:=cJ Ag v (Oe d) d
  have B:=T3 Ag w (Oe f) f
  have C:=T3 Ag v (Oe d) d
  have l1:(w.slots.length:Int)≤v.slots.length:=by omega
  have l2:(dp w:Int)≤dp v:=by omega
  have l3:(cnt w:Int)≤cnt v:=by omega
  simp[c,e4,e5,S,e6,T,e8,q1,q2,t,u,A,B,C,hl,Q,w3,P,O,l1,l2,l3]
 ·simp[c]
end Go.Proofs.YtalafnjhcecdpaaGreatDoor
namespace Go.Proofs.YtalafnjhcecdpaaGreatDoor
set_option linter.all false
open Go Go.Eng Go.ChangeShapes Go.WideShapes Go.ChangeAt Go.RowKit
theorem own:ownKnob Tryz.prog.godebug=none:=by kernel_rfl
def wH:Obj→Obj
 |.cells _ t frozen=>.cells #[.int .u64 1,.int .u64 10,.int .u64 100,.int .u64 1000,.int .u64 10000,.int .u64 100000,.int .u64 1000000,.int .u64 10000000,.int .u64 100000000,.int .u64 1000000000,.int .u64 10000000000,.int .u64 100000000000,.int .u64 1000000000000,.int .u64 10000000000000,.int .u64 100000000000000,.int .u64 1000000000000000,.int .u64 10000000000000000,.int .u64 100000000000000000,.int .u64 1000000000000000000,.int .u64 10000000000000000000] t frozen
 |o=>o
def wK:Obj→Obj
 |.cells _ t frozen=>.cells #[.int .u8 0,.int .u8 1,.int .u8 28,.int .u8 2,.int .u8 29,.int .u8 14,.int .u8 24,.int .u8 3,.int .u8 30,.int .u8 22,.int .u8 20,.int .u8 15,.int .u8 25,.int .u8 17,.int .u8 4,.int .u8 8,.int .u8 31,.int .u8 27,.int .u8 13,.int .u8 23,.int .u8 21,.int .u8 19,.int .u8 16,.int .u8 7,.int .u8 26,.int .u8 12,.int .u8 18,.int .u8 6,.int .u8 11,.int .u8 5,.int .u8 10,.int .u8 9] t frozen
 |o=>o
def xn:Obj→Obj
 |.cells _ t frozen=>.cells #[.int .u8 0,.int .u8 1,.int .u8 56,.int .u8 2,.int .u8 57,.int .u8 49,.int .u8 28,.int .u8 3,.int .u8 61,.int .u8 58,.int .u8 42,.int .u8 50,.int .u8 38,.int .u8 29,.int .u8 17,.int .u8 4,.int .u8 62,.int .u8 47,.int .u8 59,.int .u8 36,.int .u8 45,.int .u8 43,.int .u8 51,.int .u8 22,.int .u8 53,.int .u8 39,.int .u8 33,.int .u8 30,.int .u8 24,.int .u8 18,.int .u8 12,.int .u8 5,.int .u8 63,.int .u8 55,.int .u8 48,.int .u8 27,.int .u8 60,.int .u8 41,.int .u8 37,.int .u8 16,.int .u8 46,.int .u8 35,.int .u8 44,.int .u8 21,.int .u8 52,.int .u8 32,.int .u8 23,.int .u8 11,.int .u8 54,.int .u8 26,.int .u8 40,.int .u8 15,.int .u8 34,.int .u8 20,.int .u8 31,.int .u8 10,.int .u8 25,.int .u8 14,.int .u8 19,.int .u8 9,.int .u8 13,.int .u8 8,.int .u8 7,.int .u8 6] t frozen
 |o=>o
noncomputable def aW(os:Os):World:=
 {World.holding Tryz.prog os ⟨#[],#[],[]⟩with heap:=(((World.holding Tryz.prog os ⟨#[],#[],[]⟩).heap.modify 0 wH).modify 2 wK).modify 3 xn }
namespace ValueNormal
open Go.Proofs.YtalafnjhcecdpaaGreatDoor
set_option maxRecDepth 100000 in
theorem Zwp(H:Type)(enc:TypeId×Value→H)(W:World)(base:Nat)(args:Array Value)(ds gs:List (DataW H))(before:List MemPlace)
  (hval:∀(j:Nat) t v,Tryz.f4.params[j]?=some t→args[j]?=some v→Value.okWide Tryz.prog W .any base t v)
  (hW:DataW.Whole enc Tryz.prog Tryz.f4.params.toList Rows.valueNormalSpec.vars false W args.toList ds gs before) (hk:Rows.uptoSmall H (ds++gs)=true):
  Calls Tryz.prog 4 args W fun e W'=>∃v,e=.returned v∧Rows.valueNormalSpec.post enc Tryz.prog Tryz.f4 false true false false W args v W':=by
 obtain⟨p,q,hA0,hV,rfl,hfz,hnd⟩:=id hW
 have hA:DataW.TrodAll enc Tryz.prog W 0 (fun _=>true) true Tryz.f4.params.toList args.toList ds p:=hA0
 rw[Tryz.params4]at hA hval
 obtain⟨v0,vs0,d0,ds0,p0,q0,hargs,rfl,rfl,h0,r0⟩:=trodAll_cons hA
 obtain⟨v1,vs1,d1,ds1,p1,q1,rfl,rfl,rfl,h1,r1⟩:=trodAll_cons r0
 obtain⟨v2,vs2,d2,ds2,p2,q2,rfl,rfl,rfl,h2,r2⟩:=trodAll_cons r1
 obtain⟨rfl,rfl,rfl⟩:=trodAll_nil r2
 obtain rfl:args=#[v0,v1,v2]:=by cases args;simp_all
 have hb:Rows.uptoBulkAll ([d0,d1,d2]++gs)≤1048576:=YX hk
 simp only[IK,F3,Rows.uptoBulkAll]at hb
 obtain⟨s,re0,fe0⟩:=pc wv Tryz.underlying26 (hval 0 26 v0 rfl rfl) h0
 obtain⟨n,re1,fe1⟩:=uQ Tryz.underlying9 (hval 1 9 v1 rfl rfl) h1
 obtain⟨v,re2,fe2⟩:=pc da Tryz.underlying33 (hval 2 33 v2 rfl rfl) h2
 obtain⟨rfl,rfl⟩:=trodVars_none hV
 have A:=(sY s n v).k 0 fi true (Zkr (by omega) (by omega) (by omega))
 refine(A.2 (fun _=>⟨0,0,0⟩) (· <W.heap.size) W #[v0,v1,v2] (ok0 _) (s7 (xs:=[.agg ((Au s).map .d),.d (.str n),.agg ((Ai v).map .d)]) (vs:=[v0,v1,v2]) ⟨re0 _ _,re1 _ _ _ _,re2 _ _,trivial⟩)).mono fun e W' ⟨r,v,H',m',S',he,hp,hO,hr,hx⟩=>?_
 obtain⟨hp,_⟩:=hp
 subst he
 subst hp
 cases hr
 rename_i hd
 cases hd
 exact⟨_,rfl,ZsA hW rfl (by kernel_rfl) (by rw[Tryz.params4];exact(by decide+kernel)) (by kernel_rfl) Tryz.underlying4 rfl ⟨hx.os,hx.tape,hx.output,hx.size,hx.blk⟩⟩
theorem ZuD(os:Os):laidMet Tryz.prog Rows.valueNormalUptoRow.laid ((aW os).forCall (fun _ _=>0) ⟨#[],#[.agg #[.slice none 0 0,.slice none 0 0,.slice none 0 0],.string ⟨#[]⟩,.agg #[.int .i64 0,.int .u64 0,.string ⟨#[]⟩,.slice none 0 0,.slice none 0 0,.slice none 0 0,.slice none 0 0]],[]⟩).memory:=
 laidMet_of_run' 8 (by kernel_rfl) (by kernel_rfl)
theorem yf(os:Os){H:Type}(enc:TypeId×Value→H):∃a,DataW.whole enc Tryz.prog ((aW os).forCall (fun _ _=>0) ⟨#[],#[.agg #[.slice none 0 0,.slice none 0 0,.slice none 0 0],.string ⟨#[]⟩,.agg #[.int .i64 0,.int .u64 0,.string ⟨#[]⟩,.slice none 0 0,.slice none 0 0,.slice none 0 0,.slice none 0 0]],[]⟩).memory Tryz.f4.params.toList Rows.valueNormalSpec.vars false (#[.agg #[.slice none 0 0,.slice none 0 0,.slice none 0 0],.string ⟨#[]⟩,.agg #[.int .i64 0,.int .u64 0,.string ⟨#[]⟩,.slice none 0 0,.slice none 0 0,.slice none 0 0,.slice none 0 0]]:Array Value).toList 8=some ([.agg [.nil,.nil,.nil],.lit (.string []),.agg [.lit (.int .i64 0),.lit (.int .u64 0),.lit (.string []),.nil,.nil,.nil,.nil]],[],a):=
 ⟨[],by kernel_rfl⟩
set_option maxRecDepth 100000 in
theorem Zo7(os:Os)(started:os.Started)(H:Type)(enc:TypeId×Value→H)(F:Stop.Interp):
  ReturnsInHanded {} Tryz.checked os 4 .any ((Rows.OpenSpec.upto Rows.valueNormalSpec).preRow enc Tryz.prog Tryz.f4 Rows.valueNormalUptoRow.domain false Rows.valueNormalUptoRow.laid) (((Rows.OpenSpec.upto Rows.valueNormalSpec).at F).post enc Tryz.prog Tryz.f4 false true false false):=by
 obtain⟨places,hx⟩:=yf os enc
 refine returnsInHanded_of_row (C:=Tryz.checked) (s:=Rows.OpenSpec.upto Rows.valueNormalSpec) own started (by kernel_rfl) Tryz.func4
  (witness_row_at (enc:=enc) (C:=Tryz.checked) false (aW os) #[.agg #[.slice none 0 0,.slice none 0 0,.slice none 0 0],.string ⟨#[]⟩,.agg #[.int .i64 0,.int .u64 0,.string ⟨#[]⟩,.slice none 0 0,.slice none 0 0,.slice none 0 0,.slice none 0 0]] rfl (by kernel_rfl) (by kernel_rfl) (by kernel_rfl)
   (OpenSpec.preRow_of_cond 8 hx (by kernel_rfl) (fun k hk=>by cases hk;kernel_rfl) (by kernel_rfl) (ZuD os))) ?_
 intro W base args ds gs before hval hW _ hcond _ hL _ _
 exact Zwp H enc W base args ds gs before hval hW (hcond _ rfl)
end ValueNormal
end Go.Proofs.YtalafnjhcecdpaaGreatDoor
namespace Go.Proofs.YtalafnjhcecdpaaGreatDoor
set_option linter.all false
open Go Go.ChangeShapes Go.WideShapes Go.ChangeAt Go.RowKit
namespace ValueNormal
open Go.Proofs.YtalafnjhcecdpaaGreatDoor
theorem BU{a b:Bool}(c:a=true)(d:b=true):(a&&b)=true:=by rw[c,d];rfl
set_option maxRecDepth 100000 in
set_option maxHeartbeats 4000000 in
theorem tD:joinedFacts Tryz.pinned.checked.prog 4 Tryz.f4 (Rows.OpenSpec.upto Rows.valueNormalSpec).bare Rows.valueNormalUptoRow=true:=by
 unfold joinedFacts
 refine BU (BU (BU (BU (BU (BU (BU (BU (BU (BU (BU (BU (BU (BU (BU (BU (BU (BU (BU (BU (BU (BU (BU (BU (BU (BU (BU (BU (BU (BU (BU ?_ ?_) ?_) ?_) ?_) ?_) ?_) ?_) ?_) ?_) ?_) ?_) ?_) ?_) ?_) ?_) ?_) ?_) ?_) ?_) ?_) ?_) ?_) ?_) ?_) ?_) ?_) ?_) ?_) ?_) ?_) ?_
 all_goals(as_aux_lemma=>kernel_rfl)
end ValueNormal
end Go.Proofs.YtalafnjhcecdpaaGreatDoor
