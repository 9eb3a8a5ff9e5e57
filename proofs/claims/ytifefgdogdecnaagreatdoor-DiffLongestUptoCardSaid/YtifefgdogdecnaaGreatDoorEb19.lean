import Derived.Test.YtifefgdogdecnaaGreatDoorEb17
import Derived.Test.YtifefgdogdecnaaGreatDoorEb18
import Derived.Test.YtifefgdogdecnaaGreatDoorCards
import Derived.Test.YtifefgdogdecnaaGreatDoorTie
import Derived.Lib.LaidTab
import Derived.WalkKit
import Derived.ProofKit
import Derived.OpenShut
import Derived.JoinedCond
import Derived.Test.YtifefgdogdecnaaGreatDoorEb00
namespace Go.Proofs.YtifefgdogdecnaaGreatDoor
set_option linter.all false
open Go Go.Eng Go.ChangeShapes Go.WideShapes Go.ChangeAt Go.RowKit
theorem own:ownKnob Tryz.prog.godebug=none:=by kernel_rfl
def iS:Obj→Obj
 |.cells _ t frozen=>.cells #[.int .u64 1,.int .u64 10,.int .u64 100,.int .u64 1000,.int .u64 10000,.int .u64 100000,.int .u64 1000000,.int .u64 10000000,.int .u64 100000000,.int .u64 1000000000,.int .u64 10000000000,.int .u64 100000000000,.int .u64 1000000000000,.int .u64 10000000000000,.int .u64 100000000000000,.int .u64 1000000000000000,.int .u64 10000000000000000,.int .u64 100000000000000000,.int .u64 1000000000000000000,.int .u64 10000000000000000000] t frozen
 |o=>o
def jR:Obj→Obj
 |.cells _ t frozen=>.cells #[.int .u8 0,.int .u8 1,.int .u8 28,.int .u8 2,.int .u8 29,.int .u8 14,.int .u8 24,.int .u8 3,.int .u8 30,.int .u8 22,.int .u8 20,.int .u8 15,.int .u8 25,.int .u8 17,.int .u8 4,.int .u8 8,.int .u8 31,.int .u8 27,.int .u8 13,.int .u8 23,.int .u8 21,.int .u8 19,.int .u8 16,.int .u8 7,.int .u8 26,.int .u8 12,.int .u8 18,.int .u8 6,.int .u8 11,.int .u8 5,.int .u8 10,.int .u8 9] t frozen
 |o=>o
def jU:Obj→Obj
 |.cells _ t frozen=>.cells #[.int .u8 0,.int .u8 1,.int .u8 56,.int .u8 2,.int .u8 57,.int .u8 49,.int .u8 28,.int .u8 3,.int .u8 61,.int .u8 58,.int .u8 42,.int .u8 50,.int .u8 38,.int .u8 29,.int .u8 17,.int .u8 4,.int .u8 62,.int .u8 47,.int .u8 59,.int .u8 36,.int .u8 45,.int .u8 43,.int .u8 51,.int .u8 22,.int .u8 53,.int .u8 39,.int .u8 33,.int .u8 30,.int .u8 24,.int .u8 18,.int .u8 12,.int .u8 5,.int .u8 63,.int .u8 55,.int .u8 48,.int .u8 27,.int .u8 60,.int .u8 41,.int .u8 37,.int .u8 16,.int .u8 46,.int .u8 35,.int .u8 44,.int .u8 21,.int .u8 52,.int .u8 32,.int .u8 23,.int .u8 11,.int .u8 54,.int .u8 26,.int .u8 40,.int .u8 15,.int .u8 34,.int .u8 20,.int .u8 31,.int .u8 10,.int .u8 25,.int .u8 14,.int .u8 19,.int .u8 9,.int .u8 13,.int .u8 8,.int .u8 7,.int .u8 6] t frozen
 |o=>o
noncomputable def Ot(os:Os):World:=
 {World.holding Tryz.prog os ⟨#[],#[],[]⟩with heap:=(((World.holding Tryz.prog os ⟨#[],#[],[]⟩).heap.modify 1 iS).modify 2 jR).modify 3 jU }
namespace DiffLongest
open Go.Proofs.YtifefgdogdecnaaGreatDoor
set_option maxRecDepth 100000 in
theorem eF(H:Type)(enc:TypeId×Value→H)(W:World)(base:Nat)(args:Array Value)(ds gs:List (DataW H))(before:List MemPlace)
  (hval:∀(j:Nat) t v,Tryz.f4.params[j]?=some t→args[j]?=some v→Value.okWide Tryz.prog W .any base t v)
  (hW:DataW.Whole enc Tryz.prog Tryz.f4.params.toList Rows.diffLongestSpec.vars false W args.toList ds gs before) (hk:Rows.uptoSmall H (ds++gs)=true):
  Calls Tryz.prog 4 args W fun e W'=>∃v,e=.returned v∧Rows.diffLongestSpec.post enc Tryz.prog Tryz.f4 false true false false W args v W':=by
 obtain⟨p,q,hA0,hV,rfl,hfz,hnd⟩:=id hW
 have hA:DataW.TrodAll enc Tryz.prog W 0 (fun _=>true) true Tryz.f4.params.toList args.toList ds p:=hA0
 rw[Tryz.params4]at hA hval
 obtain⟨v0,vs0,d0,ds0,p0,q0,hargs,rfl,rfl,h0,r0⟩:=trodAll_cons hA
 obtain⟨v1,vs1,d1,ds1,p1,q1,rfl,rfl,rfl,h1,r1⟩:=trodAll_cons r0
 obtain⟨rfl,rfl,rfl⟩:=trodAll_nil r1
 obtain rfl:args=#[v0,v1]:=by cases args;simp_all
 have hb:Rows.uptoBulkAll ([d0,d1]++gs)≤1048576:=Fj hk
 simp only[J9,Et,Rows.uptoBulkAll]at hb
 obtain⟨a,re0,fe0⟩:=SM (e:=Af) (fun n=>Hn Tryz.underlying22 (by kernel_rfl:Tryz.prog.cellsOf 35=7) (by decide) (fun x=>by rw[Cz];rfl) (fun m _=>Ja Cz (UZ m))) Tryz.underlying22 (hval 0 22 v0 rfl rfl) h0
 simp only[bk]at fe0
 obtain⟨b,re1,fe1⟩:=SM (e:=Af) (fun n=>Hn Tryz.underlying22 (by kernel_rfl:Tryz.prog.cellsOf 35=7) (by decide) (fun x=>by rw[Cz];rfl) (fun m _=>Ja Cz (UZ m))) Tryz.underlying22 (hval 1 22 v1 rfl rfl) h1
 simp only[bk]at fe1
 obtain⟨rfl,rfl⟩:=trodVars_none hV
 have A:=(ZT a b).k 0 QZ true (aI (by omega) (by omega))
 refine(A.2 (fun _=>⟨0,0,0⟩) (· <W.heap.size) W #[v0,v1] (mB _) (ge (xs:=[.d (.list (a.map Af)),.d (.list (b.map Af))]) (vs:=[v0,v1]) ⟨re0 _ _ _,re1 _ _ _,trivial⟩)).mono fun e W' ⟨r,v,H',m',S',he,hp,hO,hr,hx⟩=>?_
 obtain⟨hp,_⟩:=hp
 subst he
 subst hp
 cases hr
 rename_i hd
 cases hd
 exact⟨_,rfl,dp hW rfl (by kernel_rfl) (by rw[Tryz.params4];exact(by decide+kernel)) (by kernel_rfl) Tryz.underlying4 rfl ⟨hx.os,hx.tape,hx.output,hx.size,hx.blk⟩⟩
theorem ez(os:Os):laidMet Tryz.prog Rows.diffLongestUptoRow.laid ((Ot os).forCall (fun _ _=>0) ⟨#[],#[.slice none 0 0,.slice none 0 0],[]⟩).memory:=
 laidMet_of_run' 8 (by kernel_rfl) (by kernel_rfl)
theorem kd(os:Os){H:Type}(enc:TypeId×Value→H):∃a,DataW.whole enc Tryz.prog ((Ot os).forCall (fun _ _=>0) ⟨#[],#[.slice none 0 0,.slice none 0 0],[]⟩).memory Tryz.f4.params.toList Rows.diffLongestSpec.vars false (#[.slice none 0 0,.slice none 0 0]:Array Value).toList 8=some ([.nil,.nil],[],a):=
 ⟨[],by kernel_rfl⟩
set_option maxRecDepth 100000 in
theorem cO(os:Os)(started:os.Started)(H:Type)(enc:TypeId×Value→H)(F:Stop.Interp):
  ReturnsInHanded {} Tryz.checked os 4 .any ((Rows.OpenSpec.upto Rows.diffLongestSpec).preRow enc Tryz.prog Tryz.f4 Rows.diffLongestUptoRow.domain false Rows.diffLongestUptoRow.laid) (((Rows.OpenSpec.upto Rows.diffLongestSpec).at F).post enc Tryz.prog Tryz.f4 false true false false):=by
 obtain⟨places,hx⟩:=kd os enc
 refine returnsInHanded_of_row (C:=Tryz.checked) (s:=Rows.OpenSpec.upto Rows.diffLongestSpec) own started (by kernel_rfl) Tryz.func4
  (witness_row_at (enc:=enc) (C:=Tryz.checked) false (Ot os) #[.slice none 0 0,.slice none 0 0] rfl (by kernel_rfl) (by kernel_rfl) (by kernel_rfl)
   (OpenSpec.preRow_of_cond 8 hx (by kernel_rfl) (fun k hk=>by cases hk;kernel_rfl) (by kernel_rfl) (ez os))) ?_
 intro W base args ds gs before hval hW _ hcond _ hL _ _
 exact eF H enc W base args ds gs before hval hW (hcond _ rfl)
end DiffLongest
end Go.Proofs.YtifefgdogdecnaaGreatDoor
namespace Go.Proofs.YtifefgdogdecnaaGreatDoor
set_option linter.all false
open Go Go.ChangeShapes Go.WideShapes Go.ChangeAt Go.RowKit
namespace DiffLongest
open Go.Proofs.YtifefgdogdecnaaGreatDoor
theorem A9{a b:Bool}(c:a=true)(d:b=true):(a&&b)=true:=by rw[c,d];rfl
set_option maxRecDepth 100000 in
set_option maxHeartbeats 4000000 in
theorem fQ:joinedFacts Tryz.pinned.checked.prog 4 Tryz.f4 (Rows.OpenSpec.upto Rows.diffLongestSpec).bare Rows.diffLongestUptoRow=true:=by
 unfold joinedFacts
 refine A9 (A9 (A9 (A9 (A9 (A9 (A9 (A9 (A9 (A9 (A9 (A9 (A9 (A9 (A9 (A9 (A9 (A9 (A9 (A9 (A9 (A9 (A9 (A9 (A9 (A9 (A9 (A9 (A9 (A9 (A9 ?_ ?_) ?_) ?_) ?_) ?_) ?_) ?_) ?_) ?_) ?_) ?_) ?_) ?_) ?_) ?_) ?_) ?_) ?_) ?_) ?_) ?_) ?_) ?_) ?_) ?_) ?_) ?_) ?_) ?_) ?_) ?_
 all_goals(as_aux_lemma=>kernel_rfl)
end DiffLongest
end Go.Proofs.YtifefgdogdecnaaGreatDoor
