import Derived.Test.YtifefgdogdecnaaGreatDoorEb12
import Derived.WalkKit
import Derived.BigCall
import Derived.Deep.LoopGhost
import Derived.Deep.OwnRows
import Derived.Test.YtifefgdogdecnaaGreatDoorEb00
namespace Go.Proofs.YtifefgdogdecnaaGreatDoor
set_option linter.all false
open Go Go.Eng Go.RowKit Go.Deep
set_option maxRecDepth 100000 in
theorem kx:(Tryz.prog.info? 9).map (fun i=>(i.zero,i.size,i.bytes))=some (some (.string ⟨#[]⟩),1,16):=by kernel_rfl
theorem Dy{w:World}{b:Nat}{c:Array Value}{t:TypeId}{z:Nat×Nat}{i:Nat}{v:Value}(h:w.heap[b]?=some (.cells c t z))(hv:c[i]?=some v):w.cell? ⟨b,i,none⟩=some v:=by
 simp[World.cell?,h,hv]
theorem I3{w:World}{b:Nat}{c:Array Value}{t:TypeId}{i:Nat}(h:w.heap[b]?=some (.cells c t (0,0))):w.frozen? ⟨b,i,none⟩=false:=by
 simp[World.frozen?,h]
theorem bn(w:World)(n:Nat)(hn:w.heap.size=n)(v:Value)(t:TypeId):∀j u,([v]:List Value)[j]?=some u→(w.alloc (.cells #[v] t)).cell? ((⟨n,0,none⟩:Addr).add j)=some u:=by
 subst hn
 intro j u hj
 match j,hj with
 |0,hj=>
  simp at hj
  subst hj
  exact Dy (blk_alloc_new w (.cells #[v] t)) rfl
 |j+1,hj=>simp at hj
theorem Gu{w:World}{b:Nat}{o:Obj}(h:w.heap[b]?=some o)(x:Obj):(w.alloc x).heap[b]?=some o:=(blk_alloc_lt _ _ _ (Yz.1 h).1).trans h
set_option maxRecDepth 100000 in
theorem iP(w:World):Calls Tryz.prog 31 #[.int .i64 2] w fun e w'=>e=.returned (.string ⟨#[99,108,101,97,114]⟩)∧w.Since w.heap.size w':=by
 have hi:∀w:World,(Instr.index 129 (.agg #[.string ⟨#[]⟩,.string ⟨#[115,101,116]⟩,.string ⟨#[99,108,101,97,114]⟩,.string ⟨#[105,110,115,101,114,116]⟩,.string ⟨#[114,101,109,111,118,101]⟩,.string ⟨#[114,97,119,115]⟩]) (.int .i64 2)).run Tryz.prog w=.ok (.string ⟨#[99,108,101,97,114]⟩) w:=fun w=>by kernel_rfl
 go_enter Tryz.func31,Tryz.ntmps31
 go_wp2
 go_ret
 exact⟨rfl,World.Since.refl _ _⟩
theorem fh(w:World):Calls Tryz.prog 32 #[.int .i64 2] w fun e w'=>e=.returned (.bool false)∧w'=w:=by
 go_enter Tryz.func32,Tryz.ntmps32
 go_wp2
 go_ret
 exact⟨rfl,rfl⟩
set_option maxHeartbeats 6400000 in
set_option maxRecDepth 1000000 in
theorem fE(R:World→Array Value→Prop)(W0:World)(s0 s1 s2:Value)(nm:ByteArray)(bl ol kl bp op kp:Nat)(q0 q1:Int)(q2:ByteArray)(a3 a4 a5 a6:Option Addr)(n3 n4 n5 n6 c3 c4 c5 c6:Nat)(X0 X1 y0 y1:Int)(X2:Bool)(y2:ByteArray)(b3 b4 b5 b6:Option Addr)(l3 l4 l5 l6 d3 d4 d5 d6:Nat)(t:ByteArray)
  (he0:W0.cell? ⟨bl,ol,none⟩=some (.slice (some ⟨bp,op,none⟩) 1 kp)) (he1:W0.cell? ⟨bl,ol+1,none⟩=some (.int .i64 2)) (hv0:W0.cell? ⟨bl,ol+2,none⟩=some (.int .i64 q0)) (hv1:W0.cell? ⟨bl,ol+3,none⟩=some (.int .u64 q1)) (hv2:W0.cell? ⟨bl,ol+4,none⟩=some (.string q2)) (hv3:W0.cell? ⟨bl,ol+5,none⟩=some (.slice a3 n3 c3)) (hv4:W0.cell? ⟨bl,ol+6,none⟩=some (.slice a4 n4 c4)) (hv5:W0.cell? ⟨bl,ol+7,none⟩=some (.slice a5 n5 c5)) (hv6:W0.cell? ⟨bl,ol+8,none⟩=some (.slice a6 n6 c6))
  (hx0:W0.cell? ⟨bp,op,none⟩=some (.int .i64 X0)) (hx1:W0.cell? ⟨bp,op+1,none⟩=some (.int .i64 X1)) (hx2:W0.cell? ⟨bp,op+2,none⟩=some (.bool X2)) (hx3:W0.cell? ⟨bp,op+3,none⟩=some (.int .i64 y0)) (hx4:W0.cell? ⟨bp,op+4,none⟩=some (.int .u64 y1)) (hx5:W0.cell? ⟨bp,op+5,none⟩=some (.string y2)) (hx6:W0.cell? ⟨bp,op+6,none⟩=some (.slice b3 l3 d3)) (hx7:W0.cell? ⟨bp,op+7,none⟩=some (.slice b4 l4 d4)) (hx8:W0.cell? ⟨bp,op+8,none⟩=some (.slice b5 l5 d5)) (hx9:W0.cell? ⟨bp,op+9,none⟩=some (.slice b6 l6 d6))
  (hM:∀W,W0.Since W0.heap.size W→Calls Tryz.prog 27 #[.agg #[s0,s1,s2],.string nm] W fun e W'=>∃(M0:ByteArray) (A1:Option Addr) (N1 C1:Nat) (A2:Option Addr) (N2 C2:Nat) (A3:Option Addr) (N3 C3:Nat) (A4:Option Addr) (N4 C4:Nat) (ok:Bool),e=.returned (.tuple #[.agg #[.string M0,.slice A1 N1 C1,.slice A2 N2 C2,.slice A3 N3 C3,.slice A4 N4 C4],.bool ok])∧W.Since W.heap.size W'∧R W' #[.string M0,.slice A1 N1 C1,.slice A2 N2 C2,.slice A3 N3 C3,.slice A4 N4 C4])
  (hS:∀W W' M0 A1 N1 C1 A2 N2 C2 A3 N3 C3 A4 N4 C4,W0.Since W0.heap.size W→R W #[.string M0,.slice A1 N1 C1,.slice A2 N2 C2,.slice A3 N3 C3,.slice A4 N4 C4]→W.Since W.heap.size W'→Calls Tryz.prog 28 #[.agg #[s0,s1,s2],.agg #[.string M0,.slice A1 N1 C1,.slice A2 N2 C2,.slice A3 N3 C3,.slice A4 N4 C4],.agg #[.int .i64 X0,.int .i64 X1,.bool X2,.int .i64 y0,.int .u64 y1,.string y2,.slice b3 l3 d3,.slice b4 l4 d4,.slice b5 l5 d5,.slice b6 l6 d6]] W' fun e W''=>∃(M0:ByteArray) (A1:Option Addr) (N1 C1:Nat) (A2:Option Addr) (N2 C2:Nat) (A3:Option Addr) (N3 C3:Nat) (A4:Option Addr) (N4 C4:Nat),e=.returned (.tuple #[.string t,.agg #[.string M0,.slice A1 N1 C1,.slice A2 N2 C2,.slice A3 N3 C3,.slice A4 N4 C4]])∧W'.Since W'.heap.size W'')
  (ht:t.size≤100000):
  Calls Tryz.prog 15 #[.agg #[s0,s1,s2],.string nm,.slice (some ⟨bl,ol,none⟩) 1 kl] W0 fun e W'=>e=.returned (.string ((⟨#[99,108,101,97,114]⟩++⟨#[32]⟩)++t++⟨#[10]⟩))∧W0.Since W0.heap.size W':=by
 go_enter Tryz.func15,Tryz.ntmps15
 go_wp2
 go_loopg [19] 1 (fun g s19 wr=>(g=1∧s19=.int .i64 0∧wr=(W0.alloc (.cells #[s0,s1,s2] 52)).alloc (.cells #[.pointer none,.slice none 0 0] 86))∨(g=0∧s19=.int .i64 1∧Lib.IsBuilderF 86 5 (W0.heap.size+1) (W0.heap.size+1) (Lib.byteCells (([99,108,101,97,114]++[32])++t.data.toList++[10])) wr∧W0.Since W0.heap.size wr))
 case atStart=>exact .inl ⟨rfl,rfl,rfl⟩
 case round=>
  rcases hrel with⟨rfl,rfl,rfl⟩|⟨rfl,rfl,hB,hs⟩
  ·have hbl:bl<W0.heap.size:=World.block_lt_of_cell? _ _ he0
   have eo:∀o1 o2 j (u:Value),W0.cell? ⟨bl,ol+j,none⟩=some u→((W0.alloc o1).alloc o2).cell? ⟨bl,ol+j,none⟩=some u:=fun o1 o2 j u h=>by
    rw[World.cell?_of_block (w:=W0.alloc o1) (blk_alloc_lt _ _ _ (by simp;try omega)),World.cell?_of_block (w:=W0) (blk_alloc_lt _ _ _ (by dsimp only;omega))];exact h
   have e7:=fun o1 o2=>eo o1 o2 0 _ he0
   have e8:=fun o1 o2=>eo o1 o2 1 _ he1
   simp only[Dw]at e7
   have e0:=fun o1 o2=>eo o1 o2 2 _ hv0
   have e1:=fun o1 o2=>eo o1 o2 3 _ hv1
   have e2:=fun o1 o2=>eo o1 o2 4 _ hv2
   have e3:=fun o1 o2=>eo o1 o2 5 _ hv3
   have e4:=fun o1 o2=>eo o1 o2 6 _ hv4
   have e5:=fun o1 o2=>eo o1 o2 7 _ hv5
   have e6:=fun o1 o2=>eo o1 o2 8 _ hv6
   clear eo
   have hsA:∀o,W0.Since W0.heap.size (((W0.alloc (.cells #[s0,s1,s2] 52)).alloc (.cells #[.pointer none,.slice none 0 0] 86)).alloc o):=fun o=>((((World.Since.refl _ W0).alloc (Ye _) _).alloc (by simp) _).alloc (by simp;try omega) _)
   go_wp2_with (go_at_call 27;refine(hM _ (hsA _)).mono ?_)
   rintro e W1 ⟨M0,A1,N1,C1,A2,N2,C2,A3,N3,C3,A4,N4,C4,ok,rfl,h1,r1⟩
   have bS:W1.heap[W0.heap.size]?=some (.cells #[s0,s1,s2] 52 (0,0)):=(h1.block _ (by simp;try omega)).trans (Gu (Gu (blk_alloc_new _ _) _) _)
   have bB:W1.heap[W0.heap.size+1]?=some (.cells #[.pointer none,.slice none 0 0] 86 (0,0)):=(h1.block _ (by simp;try omega)).trans (Gu (by have:=blk_alloc_new (W0.alloc (.cells #[s0,s1,s2] 52)) (.cells #[.pointer none,.slice none 0 0] 86);simpa using this) _)
   have bE:W1.heap[W0.heap.size+2]?=some (.cells #[.slice (some ⟨bp,op,none⟩) 1 kp,.int .i64 2,.int .i64 q0,.int .u64 q1,.string q2,.slice a3 n3 c3,.slice a4 n4 c4,.slice a5 n5 c5,.slice a6 n6 c6] 59 (0,0)):=(h1.block _ (by simp;try omega)).trans (by have:=blk_alloc_new ((W0.alloc (.cells #[s0,s1,s2] 52)).alloc (.cells #[.pointer none,.slice none 0 0] 86)) (.cells #[.slice (some ⟨bp,op,none⟩) 1 kp,.int .i64 2,.int .i64 q0,.int .u64 q1,.string q2,.slice a3 n3 c3,.slice a4 n4 c4,.slice a5 n5 c5,.slice a6 n6 c6] 59);simpa using this)
   have hsz1:W0.heap.size+3≤W1.heap.size:=by have:=h1.size;simpa using this
   have hs1:W0.Since W0.heap.size W1:=(hsA _).trans ⟨h1.os,h1.tape,h1.output,h1.size,fun k hk=>h1.block k (by simp;try omega)⟩
   clear h1 hsA hM
   have c0:∀o,(W1.alloc o).cell? ⟨W0.heap.size+2,0,none⟩=some (.slice (some ⟨bp,op,none⟩) 1 kp):=fun o=>Dy (Gu bE o) rfl
   go_wp2
   clear c0 e0 e1 e2 e3 e4 e5 e6 e7 e8 he0 he1 hv0 hv1 hv2 hv3 hv4 hv5 hv6
   go_loopg [32,12] 1 (fun g s32 s12 wr=>(g=1∧s32=.int .i64 0∧s12=.slice none 0 0∧wr=W1.alloc (.cells #[.string M0,.slice A1 N1 C1,.slice A2 N2 C2,.slice A3 N3 C3,.slice A4 N4 C4] 47))∨(g=0∧s32=.int .i64 1∧(∃c bq,s12=.slice (some ⟨bq,0,none⟩) 1 c∧1≤c∧wr.cell? ⟨bq,0,none⟩=some (.string t)∧bq<wr.heap.size)∧W1.Since W1.heap.size wr))
   case atStart=>exact .inl ⟨rfl,rfl,rfl,rfl⟩
   case round=>
    rcases hrel with⟨rfl,rfl,rfl,rfl⟩|⟨rfl,rfl,⟨c,bq,rfl,hc1,hct,hbq⟩,hs2⟩
    ·have hbp:bp<W0.heap.size:=World.block_lt_of_cell? _ _ hx0
     have hxa:∀j o (u:Value),W0.cell? ⟨bp,op+j,none⟩=some u→(W1.alloc o).cell? ⟨bp,op+j,none⟩=some u:=fun j o u h=>by
      rw[World.cell?_of_block (w:=W1) (blk_alloc_lt _ _ _ (by dsimp only;omega)),hs1.cell (a:=⟨bp,op+j,none⟩) hbp];exact h
     have x0:=fun o=>hxa 0 o _ hx0
     have x1:=fun o=>hxa 1 o _ hx1
     have x2:=fun o=>hxa 2 o _ hx2
     have x3:=fun o=>hxa 3 o _ hx3
     have x4:=fun o=>hxa 4 o _ hx4
     have x5:=fun o=>hxa 5 o _ hx5
     have x6:=fun o=>hxa 6 o _ hx6
     have x7:=fun o=>hxa 7 o _ hx7
     have x8:=fun o=>hxa 8 o _ hx8
     have x9:=fun o=>hxa 9 o _ hx9
     simp only[Dw]at x0
     have so:∀o1 o2 j u,(#[s0,s1,s2]:Array Value)[j]?=some u→((W1.alloc o1).alloc o2).cell? ⟨W0.heap.size,j,none⟩=some u:=fun o1 o2 j u h=>Dy (Gu (Gu bS o1) o2) h
     have z0:=fun o1 o2=>so o1 o2 0 _ rfl
     have z1:=fun o1 o2=>so o1 o2 1 _ rfl
     have z2:=fun o1 o2=>so o1 o2 2 _ rfl
     clear so
     have hsB:∀o1 o2,W1.Since W1.heap.size ((W1.alloc o1).alloc o2):=fun o1 o2=>((World.Since.refl _ W1).alloc (Ye _) _).alloc (by simp) _
     go_wp2_with (go_at_call 28;refine(hS W1 _ _ _ _ _ _ _ _ _ _ _ _ _ _ hs1 r1 (hsB _ _)).mono ?_)
     rintro e W2 ⟨KM0,KA1,KN1,KC1,KA2,KN2,KC2,KA3,KN3,KC3,KA4,KN4,KC4,rfl,h2⟩
     have bM:W2.heap[W1.heap.size]?=some (.cells #[.string M0,.slice A1 N1 C1,.slice A2 N2 C2,.slice A3 N3 C3,.slice A4 N4 C4] 47 (0,0)):=(h2.block _ (by simp;try omega)).trans (Gu (blk_alloc_new _ _) _)
     have hsz2:W1.heap.size+2≤W2.heap.size:=by have:=h2.size;simpa using this
     have hs2:W1.Since W1.heap.size W2:=(hsB _ _).trans ⟨h2.os,h2.tape,h2.output,h2.size,fun k hk=>h2.block k (by simp;omega)⟩
     clear h2 hsB hS x0 x1 x2 x3 x4 x5 x6 x7 x8 x9 hxa hx0 hx1 hx2 hx3 hx4 hx5 hx6 hx7 hx8 hx9 z0 z1 z2
     have y0:W2.cell? ⟨W1.heap.size,0,none⟩=some (.string M0):=Dy bM rfl
     have f0:W2.frozen? ⟨W1.heap.size,0,none⟩=false:=I3 bM
     have y1:W2.cell? ⟨W1.heap.size,1,none⟩=some (.slice A1 N1 C1):=Dy bM rfl
     have f1:W2.frozen? ⟨W1.heap.size,1,none⟩=false:=I3 bM
     have y2:W2.cell? ⟨W1.heap.size,2,none⟩=some (.slice A2 N2 C2):=Dy bM rfl
     have f2:W2.frozen? ⟨W1.heap.size,2,none⟩=false:=I3 bM
     have y3:W2.cell? ⟨W1.heap.size,3,none⟩=some (.slice A3 N3 C3):=Dy bM rfl
     have f3:W2.frozen? ⟨W1.heap.size,3,none⟩=false:=I3 bM
     have y4:W2.cell? ⟨W1.heap.size,4,none⟩=some (.slice A4 N4 C4):=Dy bM rfl
     have f4:W2.frozen? ⟨W1.heap.size,4,none⟩=false:=I3 bM
     obtain⟨i0,hi,hz0,hz1,hz2⟩:=info_parts kx
     go_wp2_with (at_builtin;refine wpList_append_own _ rfl _ _ 45 rfl 0 9 i0 (.string ⟨#[]⟩) 1 16 Tryz.underlying45 hi hz0 hz1 hz2 rfl (by decide) (.slice none 0 0) 0 [] rfl ⟨rfl,.inl ⟨rfl,rfl⟩⟩ ⟨W2.heap.size,0,none⟩ 1 1 [.string t] rfl rfl (bn _ _ (by simp) _ _) (fun x hx=>by simp at hx;subst hx;rfl) (by unfold maxLen;omega) (by omega) (by simp) ?_)
     intro v' w3 hown hgr _
     have hs3:W1.Since W1.heap.size w3:=by
      refine World.Since.grown ?_ hgr (by simp;omega) (fun k h=>by cases h)
      refine World.Since.alloc ?_ (by simp;omega) _
      exact(((((hs2.setCell (Ye _) _).setCell (Ye _) _).setCell (Ye _) _).setCell (Ye _) _).setCell (Ye _) _)
     obtain⟨c,bq,rfl,hc1,hct,hbq⟩:∃c bq,v'=.slice (some ⟨bq,0,none⟩) 1 c∧1≤c∧w3.cell? ⟨bq,0,none⟩=some (.string t)∧bq<w3.heap.size:=by
      obtain⟨_,h⟩:=hown
      rcases h with⟨_,h⟩|⟨g,cap,cur,rfl,_,hb,hle,_,hsz,htk⟩
      ·cases h
      ·refine⟨cap,g,rfl,hle,Dy hb ?_,(Yz.1 hb).1⟩
       have:=congrArg (fun l:List Value=>l[0]?) htk
       simpa using this
     clear hown hgr
     go_wp2
     go_roundg 0
     case measure=>omega
     case rel=>
      exact .inr ⟨rfl,rfl,⟨c,bq,rfl,hc1,hct,hbq⟩,hs3⟩
    ·have bB2:wr.heap[W0.heap.size+1]?=some (.cells #[.pointer none,.slice none 0 0] 86 (0,0)):=(hs2.block _ (by omega)).trans bB
     have bE2:wr.heap[W0.heap.size+2]?=some (.cells #[.slice (some ⟨bp,op,none⟩) 1 kp,.int .i64 2,.int .i64 q0,.int .u64 q1,.string q2,.slice a3 n3 c3,.slice a4 n4 c4,.slice a5 n5 c5,.slice a6 n6 c6] 59 (0,0)):=(hs2.block _ (by omega)).trans bE
     have k1:wr.cell? ⟨W0.heap.size+1+1,1,none⟩=some (.int .i64 2):=Dy bE2 rfl
     have hs3:W0.Since W0.heap.size wr:=hs1.trans ⟨hs2.os,hs2.tape,hs2.output,hs2.size,fun k hk=>hs2.block k (by omega)⟩
     go_wp2_with (first|(go_at_call 29;refine(Any.strings_Join_one Ph PS bq 0 c t _ wr hct).mono ?_;rintro e w' ⟨rfl,rfl⟩)|(go_at_call 31;refine(iP _).mono ?_))
     rintro e w4 ⟨rfl,h4⟩
     have hs4:W0.Since W0.heap.size w4:=hs3.trans ⟨h4.os,h4.tape,h4.output,h4.size,fun k hk=>h4.block k (by have:=hs3.size;omega)⟩
     have hz4:W0.heap.size+3≤w4.heap.size:=by have:=h4.size;have:=hs2.size;omega
     have bB3:=(h4.block _ (Yz.1 bB2).1).trans bB2
     have bE3:=(h4.block _ (Yz.1 bE2).1).trans bE2
     clear k1 h4 hs3 bE2 bB2 bE bB bS hs2 hct hbq hc1 hs1 r1
     have hB0:Lib.IsBuilderF 86 5 (W0.heap.size+1) (W0.heap.size+1) [] w4:=Lib.IsBuilderF.of (.inl ⟨Ye _,.slice none 0 0,bB3,World.ownsRow_nil _ _ _ _,by simp[Value.ownBlock]⟩)
     have hl1:([]:List Value).length+((({data:=#[99,108,101,97,114] }:ByteArray)++({data:=#[32] }:ByteArray)++t)).size≤140737488355328:=by
      simp only[Fl,M4]
      have:(⟨#[99,108,101,97,114]⟩:ByteArray).size=5:=rfl
      have:(⟨#[32]⟩:ByteArray).size=1:=rfl
      omega
     have hle4:W0.heap.size+1≤w4.heap.size:=by omega
     have hw:=Xp (W0.heap.size+1) (W0.heap.size+1) [] (({data:=#[99,108,101,97,114] }:ByteArray)++({data:=#[32] }:ByteArray)++t) w4 hB0 hl1 hle4
     go_wp2_with (go_at_call 30;refine hw.mono ?_)
     rintro e w5 ⟨rfl,h5,b5',k5⟩
     have bE5:=k5 (W0.heap.size+2) _ bE3 (by simp) (fun c fz h=>by cases h)
     have k2:w5.cell? ⟨W0.heap.size+1+1,1,none⟩=some (.int .i64 2):=Dy bE5 rfl
     have hs5:W0.Since W0.heap.size w5:=hs4.trans ⟨b5'.os,b5'.tape,b5'.output,b5'.size,fun k hk=>b5'.block k (by omega)⟩
     have hle5:W0.heap.size+1≤w5.heap.size:=by have:=b5'.size;omega
     clear bE5 bE3 bB3 k5 b5' hB0 hw
     have hl2:(([]:List Value)++Lib.strCells (({data:=#[99,108,101,97,114] }:ByteArray)++({data:=#[32] }:ByteArray)++t)).length+({data:=#[10] }:ByteArray).size≤140737488355328:=by
      rw[Et,Lib.strCells_length]
      have:(⟨#[10]⟩:ByteArray).size=1:=rfl
      simp only[M4]
      have:(⟨#[99,108,101,97,114]⟩:ByteArray).size=5:=rfl
      have:(⟨#[32]⟩:ByteArray).size=1:=rfl
      omega
     have hw2:=Xp (W0.heap.size+1) (W0.heap.size+1) _ ({data:=#[10] }:ByteArray) w5 (Or.inr h5) hl2 hle5
     go_wp2_with (first|(go_at_call 32;refine(fh _).mono ?_;rintro e w' ⟨rfl,rfl⟩)|(go_at_call 30;refine hw2.mono ?_))
     rintro e w6 ⟨rfl,h6,b6',k6⟩
     go_wp2
     go_roundg 0
     case measure=>omega
     case rel=>
      refine .inr ⟨rfl,rfl,?_,hs5.trans ⟨b6'.os,b6'.tape,b6'.output,b6'.size,fun k hk=>b6'.block k (by omega)⟩⟩
      have e:Lib.byteCells ([99,108,101,97,114]++[32]++t.data.toList++[10])=([]:List Value)++Lib.strCells (({data:=#[99,108,101,97,114] }:ByteArray)++({data:=#[32] }:ByteArray)++t)++Lib.strCells ({data:=#[10] }:ByteArray):=by
       rw[Et,Lib.strCells_eq,Lib.strCells_eq,←Lib.byteCells_append]
       simp[Re]
      rw[e]
      exact Or.inr h6
  ·have hz:W0.heap.size+1≤wr.heap.size:=by
    rcases hB with⟨_,v,h,_⟩|⟨_,v,h,_⟩<;>exact Nat.le_of_lt (Yz.1 h).1
   have hw:=Any.Builder_String_any_k {Ph with } PS (W0.heap.size+1) (W0.heap.size+1) _ wr hB hz
   go_wp2_with (go_at_call 34;refine hw.mono ?_)
   rintro e w7 ⟨rfl,_,b7,_⟩
   go_wp2
   go_ret
   refine⟨?_,hs.trans ⟨b7.os,b7.tape,b7.output,b7.size,fun k hk=>b7.block k (by omega)⟩⟩
   have e:(⟨(99::108::101::97::114::32::(t.data.toList++[10])).toArray⟩:ByteArray)=(({data:=#[99,108,101,97,114] }:ByteArray)++({data:=#[32] }:ByteArray))++t++({data:=#[10] }:ByteArray):=by
    apply ByteArray.ext
    apply BO
    simp[Re]
   exact congrArg (fun s=>Ending.returned (.string s)) e
theorem Dd{w:World}{S:Nat→Prop}{es:List (List D)}{v:Value}(h:RepD w S (.list es) v):∃a n c,v=.slice a n c:=by
 cases h<;>exact⟨_,_,_,rfl⟩
theorem OQ{w:World}{S:Nat→Prop}{H:Hp}{m:Mu}{l:Nat}{ds:List D}{v:Value}(h:RepA w S H m l (.agg (ds.map .d)) v):∃vs:Array Value,v=.agg vs∧vs.size=ds.length∧∀(i:Nat) (d:D) (u:Value),ds[i]?=some d→vs[i]?=some u→RepD w S d u:=by
 cases h with
 |agg _ vs hx h1 h=>
  refine⟨vs,rfl,by rw[←hx,YF],fun i d u hd hu=>?_⟩
  have:=h i (.d d) u (by rw[Yt,hd];rfl) hu
  cases this;assumption
theorem Pm{w:World}{S:Nat→Prop}{H:Hp}{m:Mu}{l:Nat}{ds:List D}{vs:Array Value}(hs:vs.size=ds.length)(h:∀(i:Nat) (d:D) (u:Value),ds[i]?=some d→vs[i]?=some u→RepD w S d u):RepA w S H m l (.agg (ds.map .d)) (.agg vs):=by
 refine .agg _ _ (by rw[YF,hs]) (fun i u hu=>?_) (fun i x u hx hu=>?_)
 ·have hi:i<ds.length:=by rw[←hs];exact(Yz.1 hu).1
  exact(h i _ u (Yb hi) hu).one
 ·rw[Yt]at hx
  obtain⟨d,hd,rfl⟩:=YS.1 hx
  exact .d _ _ (h i d u hd hu)
theorem Zb{w:World}{S:Nat→Prop}{d0:D}{ds:List D}{v:Value}(h:RepD w S (.list [d0::ds]) v):
  ∃(b o cap:Nat) (c:Nat→Value),v=.slice (some ⟨b,o,none⟩) 1 cap∧∀(j:Nat) (d:D),(d0::ds)[j]?=some d→w.cell? ⟨b,o+j,none⟩=some (c j)∧RepD w S d (c j):=by
 generalize hes:[d0::ds]=es at h
 cases h with
 |nil=>cases hes
 |list _ a sz cap c hb hcap hsz hc hr=>
  subst hes
  have hcell:∀(j:Nat) (d:D),(d0::ds)[j]?=some d→w.cell? (a.add j)=some (c 0 j):=fun j d hd=>by
   have:=hc 0 j _ d rfl hd
   rw[Hc,YL]at this;exact this
  have ha:a.spot=none:=by
   have:=hcell 0 d0 rfl
   rw[show a.add 0=a from rfl]at this
   unfold World.cell? at this
   cases hbk:w.heap[a.block]? with
   |none=>rw[hbk]at this;cases this
   |some o=>
    rw[hbk]at this
    cases o<;>simp at this
    cases hsp:a.spot with
    |none=>rfl
    |some q=>
     rw[hsp]at this
     simp at this
  obtain⟨bk,o,sp⟩:=a
  cases ha
  refine⟨bk,o,cap,c 0,rfl,fun j d hd=>⟨?_,hr 0 j _ d rfl hd⟩⟩
  have:=hcell j d hd
  unfold Addr.add at this
  split at this
  ·rename_i h;subst h;exact this
  ·exact this
theorem Vq{f:FuncId}{xs:List AV}{γ:Type}{M:Option γ}{e:γ→AV}(K:KC Tryz.prog f xs M e){y:γ}(hy:M=some y){W:World}{vs:List Value}(ha:P9 W (· <W.heap.size) dH (fun _=>⟨0,0,0⟩) 0 xs vs):
  Calls Tryz.prog f vs.toArray W fun en W'=>∃v H' m' S',en=.returned v∧W.Since W.heap.size W'∧RepA W' S' H' m' 0 (e y) v∧∀b,S' b→b<W'.heap.size:=by
 refine((K.k 0 dH y hy).2 (fun _=>⟨0,0,0⟩) (· <W.heap.size) W vs.toArray (ZF _) (Pv ha)).mono ?_
 rintro en W' ⟨r,v,H',m',S',rfl,⟨rfl,rfl⟩,hO,hr,hx⟩
 exact⟨v,_,_,S',rfl,⟨hx.os,hx.tape,hx.output,hx.size,fun k hk=>hx.blk k hk⟩,hr,hO.sub⟩
def RM(p:Msg)(W:World)(vs:Array Value):Prop:=vs.size=5∧∀(i:Nat) (d:D) (u:Value),(Ao p)[i]?=some d→vs[i]?=some u→RepD W (· <W.heap.size) d u
theorem RM.shape{p:Msg}{W:World}{vs:Array Value}(h:RM p W vs):∃(M0:ByteArray) (A1:Option Addr) (N1 C1:Nat) (A2:Option Addr) (N2 C2:Nat) (A3:Option Addr) (N3 C3:Nat) (A4:Option Addr) (N4 C4:Nat),vs=#[.string M0,.slice A1 N1 C1,.slice A2 N2 C2,.slice A3 N3 C3,.slice A4 N4 C4]:=by
 obtain⟨h1,h2⟩:=h
 obtain⟨l⟩:=vs
 match l,h1 with
 |[v0,v1,v2,v3,v4],_=>
  have k0:=h2 0 _ v0 rfl rfl
  obtain⟨_,_,_,rfl⟩:=Dd (h2 1 _ v1 rfl rfl)
  obtain⟨_,_,_,rfl⟩:=Dd (h2 2 _ v2 rfl rfl)
  obtain⟨_,_,_,rfl⟩:=Dd (h2 3 _ v3 rfl rfl)
  obtain⟨_,_,_,rfl⟩:=Dd (h2 4 _ v4 rfl rfl)
  cases k0
  exact⟨_,_,_,_,_,_,_,_,_,_,_,_,_,rfl⟩
def V4(Ms:Option (Msg×Bool))(St:Msg→Stp→Option (ByteArray×Msg)):List Edt→Option ByteArray
 |[⟨[x],k,_⟩]=>if k=2 then Ms.bind fun y=>(St y.1 x).bind fun z=>if z.1.size≤100000 then some (((⟨#[99,108,101,97,114]⟩:ByteArray)++⟨#[32]⟩)++z.1++⟨#[10]⟩)else none else none
 |_=>none
theorem S3{w:World}{S:Nat→Prop}{b:Bool}{v:Value}(h:RepD w S (.bool b) v):v=.bool b:=by cases h;rfl
theorem Gv{w:World}{S:Nat→Prop}{k:IntKind}{b:Int}{v:Value}(h:RepD w S (.int k b) v):v=.int k b:=by cases h;rfl
theorem K1{w:World}{S:Nat→Prop}{b:ByteArray}{v:Value}(h:RepD w S (.str b) v):v=.string b:=by cases h;rfl
set_option maxHeartbeats 2000000 in
theorem iX{Ms:Scm→ByteArray→Option (Msg×Bool)}{St:Scm→Msg→Stp→Option (ByteArray×Msg)}(hM:∀s n,KC Tryz.prog 27 [.agg ((AO s).map .d),.d (.str n)] (Ms s n) (fun y=>.tup [.agg ((Ao y.1).map .d),.d (.bool y.2)]))
  (hS:∀s m x,KC Tryz.prog 28 [.agg ((AO s).map .d),.agg ((Ao m).map .d),.agg ((Ar x).map .d)] (St s m x) (fun y=>.tup [.d (.str y.1),.agg ((Ao y.2).map .d)])) (p0:Scm) (p1:ByteArray) (p2:List Edt):
  KC Tryz.prog 15 [.agg ((AO p0).map .d),.d (.str p1),.d (.list (p2.map Av))] (V4 (Ms p0 p1) (St p0) p2) (fun y=>.d (.str y)):=
 ⟨fun l H y hy=>by
  match p2,hy with
  |[⟨[x],k,ev⟩],hy=>
   obtain⟨hk,hy⟩:=Bt hy
   subst hk
   obtain⟨⟨msg,ok⟩,hm1,hy⟩:=bind_some hy
   obtain⟨⟨t,msg2⟩,hm2,hy⟩:=bind_some hy
   obtain⟨ht,hy⟩:=Bt hy
   cases hy
   refine⟨⟨_,AB Tryz.f15,Tryz.func15,by kernel_rfl,by kernel_rfl⟩,fun m S w vs hO hA=>?_⟩
   obtain⟨hs,hr⟩:=hA
   obtain⟨l'⟩:=vs
   match l',hs,hr with
   |[v0,v1,v2],_,hr=>
    have h0:=hr 0 _ v0 rfl rfl
    have h1:=hr 1 _ v1 rfl rfl
    have h2:=hr 2 _ v2 rfl rfl
    obtain⟨sv,rfl,hsz,hsd⟩:=OQ h0
    obtain⟨sl⟩:=sv
    match sl,hsz,hsd with
    |[s0,s1,s2],_,hsd=>
     cases h1 with
     |d _ _ h1=>
      have h1:=K1 h1
      subst h1
      cases h2 with
      |d _ _ h2=>
       obtain⟨bl,ol,kl,ce,rfl,hce⟩:=Zb h2
       have g0:=hce 0 _ rfl
       obtain⟨bp,op,kp,cx,ecx,hcx⟩:=Zb g0.2
       have g1:=hce 1 _ rfl
       have g2:=hce 2 _ rfl
       have g3:=hce 3 _ rfl
       have g4:=hce 4 _ rfl
       have g5:=hce 5 _ rfl
       have g6:=hce 6 _ rfl
       have g7:=hce 7 _ rfl
       have g8:=hce 8 _ rfl
       have e1:=Gv g1.2
       have e2:=Gv g2.2
       have e3:=Gv g3.2
       have e4:=K1 g4.2
       obtain⟨a3,n3,c3,e5⟩:=Dd g5.2
       obtain⟨a4,n4,c4,e6⟩:=Dd g6.2
       obtain⟨a5,n5,c5,e7⟩:=Dd g7.2
       obtain⟨a6,n6,c6,e8⟩:=Dd g8.2
       have x0:=hcx 0 _ rfl
       have x1:=hcx 1 _ rfl
       have x2:=hcx 2 _ rfl
       have x3:=hcx 3 _ rfl
       have x4:=hcx 4 _ rfl
       have x5:=hcx 5 _ rfl
       have x6:=hcx 6 _ rfl
       have x7:=hcx 7 _ rfl
       have x8:=hcx 8 _ rfl
       have x9:=hcx 9 _ rfl
       have f0:=Gv x0.2
       have f1:=Gv x1.2
       have f2:=S3 x2.2
       have f3:=Gv x3.2
       have f4:=Gv x4.2
       have f5:=K1 x5.2
       obtain⟨b3,l3,d3,f6⟩:=Dd x6.2
       obtain⟨b4,l4,d4,f7⟩:=Dd x7.2
       obtain⟨b5,l5,d5,f8⟩:=Dd x8.2
       obtain⟨b6,l6,d6,f9⟩:=Dd x9.2
       have up:∀{W:World} {d:D} {u:Value},w.Since w.heap.size W→RepD w S d u→RepD W (· <W.heap.size) d u:=fun hW h=>h.mono (fun b hb=>Hf (hO.sub b hb) hW.size) (fun b hb=>hW.block b (hO.sub b hb))
       have hsc:∀{W:World},w.Since w.heap.size W→RepA W (· <W.heap.size) dH (fun _=>⟨0,0,0⟩) 0 (.agg ((AO p0).map .d)) (.agg #[s0,s1,s2]):=fun hW=>Pm rfl fun i d u hd hu=>up hW (hsd i d u hd hu)
       have key:=fE (RM msg) w s0 s1 s2 p1 bl ol kl bp op kp ev.kind ev.bits ev.text a3 a4 a5 a6 n3 n4 n5 n6 c3 c4 c5 c6 x.num x.pos x.key.kind x.key.bits x.hasKey x.key.text b3 b4 b5 b6 l3 l4 l5 l6 d3 d4 d5 d6 t
        (g0.1.trans (congrArg some ecx)) (g1.1.trans (congrArg some e1)) (g2.1.trans (congrArg some e2)) (g3.1.trans (congrArg some e3)) (g4.1.trans (congrArg some e4)) (g5.1.trans (congrArg some e5)) (g6.1.trans (congrArg some e6)) (g7.1.trans (congrArg some e7)) (g8.1.trans (congrArg some e8))
        (x0.1.trans (congrArg some f0)) (x1.1.trans (congrArg some f1)) (x2.1.trans (congrArg some f2)) (x3.1.trans (congrArg some f3)) (x4.1.trans (congrArg some f4)) (x5.1.trans (congrArg some f5)) (x6.1.trans (congrArg some f6)) (x7.1.trans (congrArg some f7)) (x8.1.trans (congrArg some f8)) (x9.1.trans (congrArg some f9))
        (fun W hW=>by
         refine(Vq (hM p0 p1) hm1 (W:=W) (vs:=[.agg #[s0,s1,s2],.string p1]) ⟨hsc hW,.d _ _ (.str _),trivial⟩).mono ?_
         rintro en W' ⟨v,H',m',S',rfl,hW',hr,hS'⟩
         cases hr with
         |tup _ us hx h=>
          obtain⟨ul⟩:=us
          match ul,hx,h with
          |[u0,u1],_,h=>
           have k0:=h 0 _ u0 rfl rfl
           have k1:=h 1 _ u1 rfl rfl
           obtain⟨ms,rfl,hms,hmd⟩:=OQ k0
           have hRM:RM msg W' ms:=⟨hms,fun i d u hd hu=>(hmd i d u hd hu).mono hS' (fun _ _=>rfl)⟩
           cases k1 with
           |d _ _ k1=>
            have k1:=S3 k1
            subst k1
            obtain⟨M0,A1,N1,C1,A2,N2,C2,A3,N3,C3,A4,N4,C4,rfl⟩:=hRM.shape
            exact⟨M0,A1,N1,C1,A2,N2,C2,A3,N3,C3,A4,N4,C4,_,rfl,hW',hRM⟩)
        (fun W W' M0 A1 N1 C1 A2 N2 C2 A3 N3 C3 A4 N4 C4 hW hRM hWW'=>by
         have hW2:w.Since w.heap.size W':=hW.trans ⟨hWW'.os,hWW'.tape,hWW'.output,hWW'.size,fun k hk=>hWW'.block k (Hf hk hW.size)⟩
         refine(Vq (hS p0 msg x) hm2 (W:=W') (vs:=[.agg #[s0,s1,s2],.agg #[.string M0,.slice A1 N1 C1,.slice A2 N2 C2,.slice A3 N3 C3,.slice A4 N4 C4],.agg #[.int .i64 x.num,.int .i64 x.pos,.bool x.hasKey,.int .i64 x.key.kind,.int .u64 x.key.bits,.string x.key.text,.slice b3 l3 d3,.slice b4 l4 d4,.slice b5 l5 d5,.slice b6 l6 d6]]) ⟨hsc hW2,Pm rfl fun i d u hd hu=>(hRM.2 i d u hd hu).mono (fun b hb=>Hf hb hWW'.size) (fun b hb=>hWW'.block b hb),Pm rfl fun i d u hd hu=>?_,trivial⟩).mono ?_
         ·have hi:i<10:=(Yk.1 hd).1
          match i,hi with
          |0,_=>cases hd;cases hu;exact up hW2 (f0▸x0.2)
          |1,_=>cases hd;cases hu;exact up hW2 (f1▸x1.2)
          |2,_=>cases hd;cases hu;exact up hW2 (f2▸x2.2)
          |3,_=>cases hd;cases hu;exact up hW2 (f3▸x3.2)
          |4,_=>cases hd;cases hu;exact up hW2 (f4▸x4.2)
          |5,_=>cases hd;cases hu;exact up hW2 (f5▸x5.2)
          |6,_=>cases hd;cases hu;exact up hW2 (f6▸x6.2)
          |7,_=>cases hd;cases hu;exact up hW2 (f7▸x7.2)
          |8,_=>cases hd;cases hu;exact up hW2 (f8▸x8.2)
          |9,_=>cases hd;cases hu;exact up hW2 (f9▸x9.2)
         ·rintro en W'' ⟨v,H',m',S',rfl,hW',hr,hS'⟩
          cases hr with
          |tup _ us hx h=>
           obtain⟨ul⟩:=us
           match ul,hx,h with
           |[u0,u1],_,h=>
            have k0:=h 0 _ u0 rfl rfl
            have k1:=h 1 _ u1 rfl rfl
            obtain⟨ms,rfl,hms,hmd⟩:=OQ k1
            have hRM:RM msg2 W'' ms:=⟨hms,fun i d u hd hu=>(hmd i d u hd hu).mono hS' (fun _ _=>rfl)⟩
            cases k0 with
            |d _ _ k0=>
             have k0:=K1 k0
             subst k0
             obtain⟨M0,A1,N1,C1,A2,N2,C2,A3,N3,C3,A4,N4,C4,rfl⟩:=hRM.shape
             exact⟨M0,A1,N1,C1,A2,N2,C2,A3,N3,C3,A4,N4,C4,rfl,hW'⟩) ht
       refine key.mono fun en w' ⟨h1,hT⟩=>?_
       obtain⟨k1,k2⟩:=Ok.since hO hT
       exact⟨_,_,H,m,_,h1,⟨rfl,rfl⟩,k1,.d _ _ (.str _),k2⟩,fun r=>by kernel_rfl,fun r y=>rfl⟩
end Go.Proofs.YtifefgdogdecnaaGreatDoor
