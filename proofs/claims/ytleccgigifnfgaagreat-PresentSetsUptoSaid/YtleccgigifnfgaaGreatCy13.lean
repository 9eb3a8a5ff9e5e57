import Derived.Test.YtleccgigifnfgaaGreatProg
import Derived.Test.YtleccgigifnfgaaGreatCy08
import Derived.Test.YtleccgigifnfgaaGreatCy12
import Derived.Sort.Walk0
import Derived.Shelf.RegionOpenPlain
import Derived.WalkKit
import Derived.Lib.Walk
import Derived.Lib.SliceRun
import Derived.Lib.JoinLaws
import Derived.Lib.AppendZeros
import Derived.Lib.AppendZerosOnto
import Derived.Lib.Overlaps
import Derived.Laws.Externs
import Derived.Laws.IdiomCopy
import Derived.Laws.NewBlocks
import Derived.Shelf.Spec.SlicesInsert
import Derived.Test.YtleccgigifnfgaaGreatCy00
namespace Go.Proofs.YtleccgigifnfgaaGreat
open Go Go.Eng
def tS(e n:Nat):TI:={kin:=4,elm:=some (e,n),zer:=some [.e0],byt:=some 256 }
def tI(k:IntKind):TI:={kin:=3,zer:=some [.d (.int k 0)],ik:=some k,byt:=some 256 }
def tF:TI:={zer:=some [.p .nilFunc] }
def tQ:TI:={zer:=some [.p (.pointer none)] }
def tT(n:Nat)(f:List (Nat×Nat×Bool))(z:List AV)(e:Option (List Nat)):TI:={agg:=true,siz:=n,fld:=f,zer:=some z,eqt:=e,str:=true,byt:=some 256 }
def tl:List (Nat×TI):=[(3,tI .i64),(4,{kin:=1,zer:=some [.d (.bool false)],byt:=some 256 }),(5,tI .u8),(9,{kin:=2,zer:=some [.d (.str ⟨#[]⟩)],byt:=some 256 }),(20,{zer:=some [.p .nilIface] }),(21,tI .i32),(22,tS 48 5),(23,tS 93 5),(24,tS 98 3),(26,tT 3 [(0,1,false),(1,1,false),(2,1,false)] [.e0,.e0,.e0] none),(27,tI .u64),(28,tS 33 7),(29,tS 81 14),(30,tS 67 8),(31,tS 83 4),(33,tT 7 [(0,1,false),(1,1,false),(2,1,false),(3,1,false),(4,1,false),(5,1,false),(6,1,false)] [.d (.int .i64 0),.d (.int .u64 0),.d (.str ⟨#[]⟩),.e0,.e0,.e0,.e0] none),(37,tI .i64),(43,tS 54 16),(44,tS 201 2),(45,tS 9 1),(46,tS 122 8),(48,tT 5 [(0,1,false),(1,1,false),(2,1,false),(3,1,false),(4,1,false)] [.d (.str ⟨#[]⟩),.e0,.e0,.e0,.e0] none),(52,tT 2 [(0,1,false),(1,1,false)] [.d (.int .i64 0),.d (.str ⟨#[]⟩)] (some [3,2])),(54,tT 16 [(0,1,false),(1,1,false),(2,1,false),(3,1,false),(4,2,true),(6,1,false),(7,1,false),(8,7,true),(15,1,false)] [.d (.int .i64 0),.d (.str ⟨#[]⟩),.d (.int .i64 0),.d (.int .i64 0),.d (.int .i64 0),.d (.str ⟨#[]⟩),.d (.str ⟨#[]⟩),.d (.bool false),.d (.int .i64 0),.d (.int .u64 0),.d (.str ⟨#[]⟩),.e0,.e0,.e0,.e0,.e0] none),(67,tT 8 [(0,1,false),(1,7,true)] [.d (.int .i64 0),.d (.int .i64 0),.d (.int .u64 0),.d (.str ⟨#[]⟩),.e0,.e0,.e0,.e0] none),(69,tT 8 [(0,5,true),(5,3,true)] [.d (.str ⟨#[]⟩),.e0,.e0,.e0,.e0,.e0,.e0,.e0] none),(81,tT 14 [(0,7,true),(7,7,true)] [.d (.int .i64 0),.d (.int .u64 0),.d (.str ⟨#[]⟩),.e0,.e0,.e0,.e0,.d (.int .i64 0),.d (.int .u64 0),.d (.str ⟨#[]⟩),.e0,.e0,.e0,.e0] none),(83,tT 4 [(0,1,false),(1,1,false),(2,1,false),(3,1,false)] [.d (.int .i64 0),.d (.int .i64 0),.d (.int .u64 0),.d (.str ⟨#[]⟩)] (some [3,3,3,2])),(86,tF),(91,tS 95 3),(93,tT 5 [(0,1,false),(1,1,false),(2,1,false),(3,1,false),(4,1,false)] [.d (.str ⟨#[]⟩),.d (.bool false),.e0,.e0,.e0] none),(95,tT 3 [(0,1,false),(1,1,false),(2,1,false)] [.d (.str ⟨#[]⟩),.d (.int .i64 0),.e0] none),(96,tS 100 5),(98,tT 3 [(0,1,false),(1,1,false),(2,1,false)] [.d (.str ⟨#[]⟩),.e0,.e0] none),(100,tT 5 [(0,1,false),(1,1,false),(2,1,false),(3,1,false),(4,1,false)] [.d (.str ⟨#[]⟩),.d (.str ⟨#[]⟩),.d (.str ⟨#[]⟩),.d (.int .i64 0),.e0] none),(101,tS 159 3),(106,tF),(111,tF),(122,tT 8 [(0,1,false),(1,7,true)] [.d (.str ⟨#[]⟩),.d (.int .i64 0),.d (.int .u64 0),.d (.str ⟨#[]⟩),.e0,.e0,.e0,.e0] none),(124,tT 2 [(0,1,false),(1,1,false)] [.d (.str ⟨#[]⟩),.e0] none),(129,tS 4 1),(135,{mp:=some (false,[.int .i64 0]),zer:=some [.p (.map none)] }),(136,{mp:=some (true,[.str ⟨#[]⟩,.list [],.list [],.list [],.list []]),zer:=some [.p (.map none)] }),(137,{mp:=some (false,[.bool false]),zer:=some [.p (.map none)] }),(139,tT 2 [(0,1,false),(1,1,false)] [.p (.map none),.p (.map none)] none),(143,tF),(145,tF),(147,tF),(151,tF),(153,tF),(157,tQ),(159,tT 3 [(0,1,false),(1,1,false),(2,1,false)] [.d (.str ⟨#[]⟩),.d (.int .i64 0),.d (.int .i64 0)] (some [2,3,3])),(168,tF),(173,tT 7 [(0,1,false),(1,1,false),(2,1,false),(3,1,false),(4,1,false),(5,1,false),(6,1,false)] [.d (.int .i64 0),.d (.int .u64 0),.d (.str ⟨#[]⟩),.e0,.e0,.e0,.e0] none),(174,tS 33 7),(176,tS 81 14),(178,tF),(180,tT 2 [(0,1,false),(1,1,false)] [.e0,.e0] none),(183,tF),(185,tF),(189,tF),(201,tT 2 [(0,1,false),(1,1,false)] [.d (.int .i64 0),.d (.int .i64 0)] (some [3,3])),(207,tS 3 1),(223,tI .u64),(234,tI .i64),(243,tI .u32),(249,tI .u64),(253,tQ),(257,tQ)]
theorem tkk{t:TypeId}{i:TI}(e:C7 Tryz.prog t=some i.agg:=by kernel_rfl)(f:Go.Eng.kin Tryz.prog t=i.kin:=by kernel_rfl)(g:(Tryz.prog).cellsOf t=i.siz:=by kernel_rfl)(h:i.elm=none∨Go.Eng.elm Tryz.prog t=i.elm:=by first|exact .inl rfl|exact .inr (by kernel_rfl))
  (k:((List.range i.fld.length).map fun j=>(Go.Eng.fld Tryz.prog t j,JJ Tryz.prog t j))=i.fld.map (fun x=>(some (x.1,x.2.1),some x)):=by kernel_rfl) (l:i.zer=none∨Go.Eng.zer Tryz.prog t=i.zer:=by first|exact .inl rfl|exact .inr (by kernel_rfl)) (m:i.eqt=none∨Lu Tryz.prog t=i.eqt:=by first|exact .inl rfl|exact .inr (by kernel_rfl)) (n:i.str=false∨JY Tryz.prog t=true:=by first|exact .inl rfl|exact .inr (by kernel_rfl))
  (o:i.ik=none∨(Tryz.prog).underlying t=i.ik.map .int:=by first|exact .inl rfl|exact .inr (by kernel_rfl)) (a:i.byt=none∨(∃b,(Tryz.prog).bytesOf t≤b∧(Tryz.prog).bytesOf t≠0∧i.byt=some b):=by first|exact .inl rfl|exact .inr ⟨256,by decide+kernel,by decide+kernel,rfl⟩|exact .inr ⟨4096,by decide+kernel,by decide+kernel,rfl⟩) (c:i.zer=none∨(i.zer.getD []).all AV.flat=true:=by first|exact .inl rfl|exact .inr rfl) (d:i.mp=none∨GG Tryz.prog t=i.mp:=by first|exact .inl rfl|exact .inr (by kernel_rfl)):TIok Tryz.prog t i:=.of e f g h k l m n o a c d
theorem Aa:A7 Tryz.prog (AE tl):=n3 tl (by
 intro p a
 simp only[tl,YM,List.not_mem_nil,or_false]at a
 rcases a with rfl|rfl|rfl|rfl|rfl|rfl|rfl|rfl|rfl|rfl|rfl|rfl|rfl|rfl|rfl|rfl|rfl|rfl|rfl|rfl|rfl|rfl|rfl|rfl|rfl|rfl|rfl|rfl|rfl|rfl|rfl|rfl|rfl|rfl|rfl|rfl|rfl|rfl|rfl|rfl|rfl|rfl|rfl|rfl|rfl|rfl|rfl|rfl|rfl|rfl|rfl|rfl|rfl|rfl|rfl|rfl|rfl|rfl|rfl|rfl|rfl|rfl|rfl|rfl|rfl|rfl|rfl|rfl|rfl<;>exact tkk)
theorem Ad:Tryz.prog.follows .mixedOrders=true:=by kernel_rfl
end Go.Proofs.YtleccgigifnfgaaGreat
namespace Go.Eng
set_option linter.all false
open Go
theorem xW(a b:ByteArray):Bm a b=true↔Bw a<Bw b:=by
 unfold Bm Bw
 rw[ByteArray.toList_eq,ByteArray.toList_eq,Go.Proofs.bytesLess_eq,Ye]
theorem ZEn{a b:ByteArray}(h:Bw a=Bw b):a=b:=by
 unfold Bw at h
 obtain⟨⟨a⟩⟩:=a
 obtain⟨⟨b⟩⟩:=b
 simp only at h
 rw[h]
theorem yr{a b:ByteArray}(h:Bm a b=false):Bw b≤Bw a:=fun c=>by rw[(xW a b).2 c]at h;cases h
def Iq(x:ByteArray):List ByteArray→List ByteArray
 |[]=>[x]
 |y::l=>match Bm y x with
  |true=>y::Iq x l
  |false=>x::y::l
def Ol:List ByteArray→List ByteArray
 |[]=>[]
 |x::l=>Iq x (Ol l)
theorem db(x:ByteArray):∀l,(Iq x l).Perm (x::l)
 |[]=>.refl _
 |y::l=>by
  unfold Iq
  split
  ·exact((db x l).cons y).trans (.swap ..)
  ·exact .refl _
theorem vn:∀l,(Ol l).Perm l
 |[]=>.refl _
 |x::l=>(db x _).trans ((vn l).cons x)
theorem x0(x:ByteArray):∀l,(l.Pairwise fun x y=>Bw x≤Bw y)→((Iq x l).Pairwise fun x y=>Bw x≤Bw y)
 |[],_=>by simp[Iq]
 |y::l,h=>by
  rw[O8]at h
  unfold Iq
  split
  ·rename_i e
   rw[O8]
   refine⟨fun z a=>?_,x0 x l h.2⟩
   rcases YM.1 ((db x l).mem_iff.1 a)with rfl|a
   ·exact List.le_of_lt ((xW y z).1 e)
   ·exact h.1 z a
  ·rename_i e
   rw[O8,O8]
   refine⟨fun z a=>?_,h⟩
   rcases YM.1 a with rfl|a
   ·exact yr e
   ·exact List.le_trans (yr e) (h.1 z a)
theorem xe:∀l,(Ol l).Pairwise fun x y=>Bw x≤Bw y
 |[]=>.nil
 |x::l=>x0 x _ (xe l)
theorem Zxw(xs:List ByteArray):(HC xs).Pairwise fun x y=>Bw x≤Bw y:=by
 have:=List.pairwise_mergeSort (le:=fun x y:ByteArray=>decide (Bw x≤Bw y)) (fun a b c d e=>by simp only[Ye]at*;exact List.le_trans d e) (fun a b=>by simp only[Yj,Ye];exact List.le_total _ _) xs
 exact this.imp fun h=>by simpa using h
theorem Zwn(l:List ByteArray):Ol l=HC l:=
 ((vn l).trans (List.mergeSort_perm _ _).symm).eq_of_pairwise (fun a b _ _ c d=>ZEn (List.le_antisymm c d)) (xe l) (Zxw l)
end Go.Eng
namespace Go.Proofs.YtleccgigifnfgaaGreat
set_option linter.all false
open Go Go.RowKit Go.Lib Go.Sort Go.Eng Go.Shelf
def GX:Value:=.agg #[.int .i64 0,.int .i64 0,.int .u64 0,.string ⟨#[]⟩,.slice none 0 0,.slice none 0 0,.slice none 0 0,.slice none 0 0]
theorem nZ:(Tryz.prog.info? 67).map (fun i=>(i.zero,i.size,i.bytes))=some (some GX,8,136):=by kernel_rfl
theorem QW{P:Program}(W:World){i t ty el:TypeId}{it:TypeInfo}(s:P.underlying i=some (.slice el))(hi:P.info? el=some it)(b o d g:Nat)(a:Addr)(c f n:Nat)(news:List Value)(r:Nat.min c d=n)(hl:news.length=n*it.size)
  (h:∀j v,news[j]?=some v→W.cell? (a.add j)=some v) (C:Array Value) (e:TypeId) (p:W.heap[b]?=some (.cells C e (0,0))) (q:o+news.length≤C.size) (l:∀v∈news,v.oneCell'=true):
  (Builtin.copy_ #[i,t] ty #[.slice (some ⟨b,o,none⟩) d g,.slice (some a) c f]).run P W=.ok (goInt n) (W.setRow b (C.toList.take o++news++C.toList.drop (o+news.length)).toArray):=by
 have m:=run_firstCells_some (P:=P) (w:=W) it.size n a c f news hl h
 have k:=run_storeCells_at (P:=P) b o e news 0 C W p (by omega) l
 simp only[DS]at k
 simp[Builtin.copy_,run_underlying s,Builtin.lenOf,sizeOf,typeInfo,hi,r,m,k]
def CC(C:Array Value)(o:Nat)(news:List Value):Array Value:=(C.toList.take o++news++C.toList.drop (o+news.length)).toArray
set_option maxHeartbeats 4000000 in
set_option maxRecDepth 1000000 in
theorem Zvd(b off n c i vb voff vc:Nat)(cs vs:List Value)(w:World)(hi:i<n)(hroom:n+1≤c)(hn63:n<549755813888)(hvb:vb≠b)(hcl:cs.length=n*8)(hvl:vs.length=8)
  (C D:Array Value) (e2:TypeId) (hb:w.heap[b]?=some (.cells C 67 (0,0))) (hC:C.size=off+c*8) (hcs:∀j v,cs[j]?=some v→C[off+j]?=some v) (hD:w.heap[vb]?=some (.cells D e2 (0,0))) (hvs:∀j v,vs[j]?=some v→D[voff+j]?=some v)
  (h1c:∀v∈cs,v.oneCell'=true) (h1v:∀v∈vs,v.oneCell'=true):
  Calls Tryz.prog 64 #[.slice (some ⟨b,off,none⟩) n c,.int .i64 i,.slice (some ⟨vb,voff,none⟩) 1 vc] w fun e w'=>
   e=.returned (.slice (some ⟨b,off,none⟩) (n+1) c)∧w'=(w.drew.setRow b (CC C (off+(i+1)*8) (cs.drop (i*8)))).setRow b (CC (CC C (off+(i+1)*8) (cs.drop (i*8))) (off+i*8) vs):=by
 obtain⟨i0,hi0,hz0,hz1,hz2⟩:=info_parts nZ
 have hq2:¬((i:Int)=(n:Int)):=by omega
 have hov:∀lb cb,(callFunc 98 #[.slice (some ⟨vb,voff,none⟩) 1 vc,.slice (some ⟨b,off+(i+1)*8,none⟩) lb cb]).run Tryz.prog w=.ok (.value (.bool false)) w:=fun lb cb=>by
  rw[run_callFunc_extern Tryz.func98 (by kernel_rfl) (by kernel_rfl) (by kernel_rfl) (e:=Extern.SlicesOverlaps.overlaps #[30,30] #[4]) (by kernel_rfl),
   Lib.run_overlaps_apart w 30 4 67 Tryz.underlying30 8 Tryz.sizeOf67 ⟨vb,voff,none⟩ ⟨b,off+(i+1)*8,none⟩ 1 vc lb cb hvb e2 67 D.size C.size (by simp[World.shape?,hD]) (by simp[World.shape?,hb]) (by omega) (by simp[World.frozen?,hD]) (by simp[World.frozen?,hD])]
  rfl
 have hdl:(cs.drop (i*8)).length=(n-i)*8:=by rw[Y2,hcl,L4]
 have hw1:IntKind.i64.wrap ((i:Int)+1)=(i:Int)+1:=by rw[IntKind.wrap_i64];omega
 have hw2:IntKind.i64.wrap ((n:Int)+1)=(n:Int)+1:=by rw[IntKind.wrap_i64];omega
 obtain⟨R1,hR1⟩:∃R1,R1=CC C (off+(i+1)*8) (cs.drop (i*8)):=⟨_,rfl⟩
 have hR1s:R1.size=C.size:=by
  rw[hR1]
  unfold CC
  simp only[If,Yv,YF,Y2,YX,hcl]
  omega
 obtain⟨W1,hW1⟩:∃W1,W1=w.drew.setRow b R1:=⟨_,rfl⟩
 have hcp1:∀ty dc sc,(Builtin.copy_ #[30,30] ty #[.slice (some ⟨b,off+(i+1)*8,none⟩) (n-i) dc,.slice (some ⟨b,off+i*8,none⟩) (n+1-i) sc]).run Tryz.prog w.drew=.ok (goInt ((n-i:Nat):Int)) W1:=fun ty dc sc=>by
  rw[QW w.drew Tryz.underlying30 hi0 b (off+(i+1)*8) (n-i) dc ⟨b,off+i*8,none⟩ (n+1-i) sc (n-i) (cs.drop (i*8)) (by simp only[OU];split<;>omega) (by rw[hdl,hz1])
   (fun j v hj=>by
    rw[YN]at hj
    rw[Addr.add_lit]
    unfold World.cell?
    simp only[World.drew,hb]
    rw[YI]
    exact hcs _ v hj) C 67 hb (by omega) (fun v hv=>h1c v (O4 hv)),hW1,hR1]
  rfl
 have BF:W1.heap[b]?=some (.cells R1 67 (0,0)):=by rw[hW1];exact setRow_heap w.drew _ C _ _ _ hb
 have hD1:W1.heap[vb]?=some (.cells D e2 (0,0)):=by rw[hW1,setRow_other w.drew _ _ _ hvb];exact hD
 have hcp2:∀(W:World),W.heap=W1.heap→∀ty dc,(Builtin.copy_ #[30,30] ty #[.slice (some ⟨b,off+i*8,none⟩) (n+1-i) dc,.slice (some ⟨vb,voff,none⟩) 1 vc]).run Tryz.prog W=.ok (goInt 1) (W.setRow b (CC R1 (off+i*8) vs)):=fun W hW ty dc=>
  QW W Tryz.underlying30 hi0 b (off+i*8) (n+1-i) dc ⟨vb,voff,none⟩ 1 vc 1 vs (by simp only[OU];split<;>omega) (by rw[hvl,hz1])
   (fun j v hj=>by
    rw[Addr.add_lit]
    unfold World.cell?
    simp only[hW,hD1]
    exact hvs j v hj) R1 67 (by rw[hW];exact BF) (by omega) h1v
 have mixed:Tryz.prog.follows Departure.mixedOrders=true:=by kernel_rfl
 have z63:=Tryz.sizeOf67
 have t32:=Tryz.underlying30
 have u32:=run_underlying Tryz.underlying30
 have hb1':(0:Int)≤(i:Int)+1:=by omega
 have hin:i≤n:=by omega
 have htn:((i:Int)+1).toNat=i+1:=by omega
 have Aw:¬(c=i+1):=by omega
 have Uc:(i:Int)≤(n:Int)+1:=by omega
 have kT:¬(c=i):=by omega
 go_enter Tryz.func64,Tryz.ntmps64
 go_wp2_with (simp only[hov])
 go_region_law_o (refine step_copy_runI rfl _ _ 30 30 rfl _ _ (by simp[Act.eval,Act.put]) (by simp[Act.eval,Act.put]) (hcp1 _ _ _) ?_)
 go_wp2_with (refine wpList_copy_runI _ rfl _ _ 30 30 rfl _ _ rfl rfl (hcp2 _ (by rfl) _ _) ?_)
 go_ret
 exact⟨rfl,rfl⟩
set_option maxHeartbeats 4000000 in
set_option maxRecDepth 1000000 in
theorem Zwx(b off n c i vb voff vc:Nat)(cs vs:List Value)(w:World)(hi:i<n)(hnc:n≤c)(hroom:c<n+1)(hbig:(n+1)*136≤140737488355328)(hcl:cs.length=n*8)(hvl:vs.length=8)
  (hcs:∀j v,cs[j]?=some v→w.cell? ⟨b,off+j,none⟩=some v) (hvs:∀j v,vs[j]?=some v→w.cell? ⟨vb,voff+j,none⟩=some v)
  (h1c:∀v∈cs,v.oneCell'=true) (h1v:∀v∈vs,v.oneCell'=true) (ROW:Array Value) (hROW:ROW=(cs.take (i*8)).toArray++Builtin.zeroCells GX.cells (n+1-i)++Builtin.zeroCells GX.cells (grownCap w (n+1) c 67-(n+1))):
  Calls Tryz.prog 64 #[.slice (some ⟨b,off,none⟩) n c,.int .i64 i,.slice (some ⟨vb,voff,none⟩) 1 vc] w fun e w'=>
   e=.returned (.slice (some ⟨w.heap.size,0,none⟩) (n+1) (grownCap w (n+1) c 67))∧
   w'.heap=(((w.alloc (.cells ROW 67)).setRow w.heap.size (CC ROW (i*8) vs)).setRow w.heap.size (CC (CC ROW (i*8) vs) ((i+1)*8) (cs.drop (i*8)))).heap∧w'.os=w.os∧w'.tape=w.tape∧w'.output=w.output:=by
 obtain⟨i0,hi0,hz0,hz1,hz2⟩:=info_parts nZ
 have hq2:¬((i:Int)=(n:Int)):=by omega
 have hq3:(c:Int)<(n:Int)+1:=by omega
 have hbw:b<w.heap.size:=block_lt_of_cell (hcs 0 _ (Yh (by omega)))
 have hvw:vb<w.heap.size:=block_lt_of_cell (hvs 0 _ (Yh (by omega)))
 have hkk:(n:Int)+1-(i:Int)=((n+1-i:Nat):Int):=by omega
 have hik:i+(n+1-i)=n+1:=by omega
 have hold:(Builtin.firstCells i0.size i (.slice (some ⟨b,off,none⟩) i c)).run Tryz.prog w.drew=.ok (cs.take (i*8)).toArray w.drew:=by
  rw[hz1]
  exact run_firstCells_some w.drew 8 i ⟨b,off,none⟩ i c (cs.take (i*8)) (by rw[YF];omega) (fun j v hj=>by
   rw[Addr.add_lit]
   rw[YU]at hj
   split at hj
   ·exact hcs j v hj
   ·cases hj)
 have hrz:∀ty,(Builtin.append_ #[30,3] ty #[.slice (some ⟨b,off,none⟩) i c,.int .i64 ((n:Int)+1-(i:Int))]).run Tryz.prog w=
   .ok (.slice (some ⟨w.heap.size,0,none⟩) (n+1) (grownCap w (n+1) c 67)) (w.drew.alloc (.cells ((cs.take (i*8)).toArray++Builtin.zeroCells GX.cells (n+1-i)++Builtin.zeroCells GX.cells (grownCap w (n+1) c 67-(n+1))) 67)):=fun ty=>by
  have h:=Lib.run_append_grow_zeros w 30 3 ty 67 i0 _ .i64 .i64 Tryz.underlying30 Tryz.underlying3 hi0 hz0 (some ⟨b,off,none⟩) i c (cs.take (i*8)) hold (n+1-i) (by omega) (by omega) (by omega) (by omega) (by rw[hz2];omega) (by rw[hz2,hik];exact growslice_fits hroom hbig)
  rw[hik]at h
  rw[hkk]
  exact h
 obtain⟨G,hG⟩:∃G,G=grownCap w (n+1) c 67:=⟨_,rfl⟩
 have hGn:n+1≤G:=by rw[hG];exact grownCap_ge w _ _ _
 have hG63:G≤9223372036854775807:=by
  have:=grownCap_le_maxLen w (n+1) c 67 (by unfold maxLen;omega)
  rw[←hG]at this
  unfold maxLen at this
  omega
 rw[←hG]at hrz hROW⊢
 rw[←hROW]at hrz
 have hRs:ROW.size=G*8:=by
  rw[hROW]
  simp only[Pb,If,YF,hcl,Q7]
  rw[show GX.cells.size=8 from rfl]
  omega
 obtain⟨R1,hR1⟩:∃R1,R1=CC ROW (i*8) vs:=⟨_,rfl⟩
 have hR1s:R1.size=ROW.size:=by
  rw[hR1]
  unfold CC
  simp only[If,Yv,YF,Y2,YX,hvl]
  omega
 have hdl:(cs.drop (i*8)).length=(n-i)*8:=by rw[Y2,hcl,L4]
 have hcpA:∀(W:World),W.heap=(w.alloc (.cells ROW 67)).heap→∀ty dc,(Builtin.copy_ #[30,30] ty #[.slice (some ⟨w.heap.size,i*8,none⟩) (n+1-i) dc,.slice (some ⟨vb,voff,none⟩) 1 vc]).run Tryz.prog W=.ok (goInt 1) (W.setRow w.heap.size R1):=fun W hW ty dc=>by
  rw[QW W Tryz.underlying30 hi0 w.heap.size (i*8) (n+1-i) dc ⟨vb,voff,none⟩ 1 vc 1 vs (by simp only[OU];split<;>omega) (by rw[hvl,hz1])
   (fun j v hj=>by
    rw[Addr.add_lit]
    unfold World.cell?
    simp only[hW]
    have:=hvs j v hj
    unfold World.cell? at this
    rw[show(w.alloc (.cells ROW 67)).heap[vb]?=w.heap[vb]? from by show(w.heap.push _)[vb]?=_;rw[G6,Yr (by omega)]]
    exact this) ROW 67 (by rw[hW];show(w.heap.push _)[w.heap.size]?=_;simp) (by omega) h1v,hR1]
  rfl
 have hcpB:∀(W:World),W.heap=((w.alloc (.cells ROW 67)).setRow w.heap.size R1).heap→∀ty dc sc,(Builtin.copy_ #[30,30] ty #[.slice (some ⟨w.heap.size,(i+1)*8,none⟩) (n-i) dc,.slice (some ⟨b,off+i*8,none⟩) (n-i) sc]).run Tryz.prog W=.ok (goInt ((n-i:Nat):Int)) (W.setRow w.heap.size (CC R1 ((i+1)*8) (cs.drop (i*8)))):=fun W hW ty dc sc=>by
  have hA:(w.alloc (.cells ROW 67)).heap[w.heap.size]?=some (.cells ROW 67 (0,0)):=by show(w.heap.push _)[w.heap.size]?=_;simp
  exact QW W Tryz.underlying30 hi0 w.heap.size ((i+1)*8) (n-i) dc ⟨b,off+i*8,none⟩ (n-i) sc (n-i) (cs.drop (i*8)) (by simp only[OU];split<;>omega) (by rw[hdl,hz1])
   (fun j v hj=>by
    rw[YN]at hj
    rw[Addr.add_lit]
    unfold World.cell?
    simp only[hW]
    rw[setRow_other (w.alloc (.cells ROW 67)) _ _ _ (by omega:b≠w.heap.size)]
    have:=hcs _ v hj
    unfold World.cell? at this
    rw[show(w.alloc (.cells ROW 67)).heap[b]?=w.heap[b]? from by show(w.heap.push _)[b]?=_;rw[G6,Yr (by omega)]]
    rw[YI]
    exact this) R1 67 (by rw[hW];exact setRow_heap _ _ ROW _ _ _ hA) (by rw[hdl];omega) (fun v hv=>h1c v (O4 hv))
 have mixed:Tryz.prog.follows Departure.mixedOrders=true:=by kernel_rfl
 have z63:=Tryz.sizeOf67
 have t32:=Tryz.underlying30
 have u32:=run_underlying Tryz.underlying30
 have hw1:IntKind.i64.wrap ((i:Int)+1)=(i:Int)+1:=by rw[IntKind.wrap_i64];omega
 have hw2:IntKind.i64.wrap ((n:Int)+1)=(n:Int)+1:=by rw[IntKind.wrap_i64];omega
 have hw3:IntKind.i64.wrap ((n:Int)+1-i)=(n:Int)+1-i:=by rw[IntKind.wrap_i64];omega
 have hb1':(0:Int)≤(i:Int)+1:=by omega
 have hin:i≤n:=by omega
 have htn:((i:Int)+1).toNat=i+1:=by omega
 have hGi:¬(G=i):=by omega
 have hGim:¬(G=i+1):=by omega
 have hci:¬(c=i):=by omega
 have Uc:(i:Int)≤(n:Int):=by omega
 have hbN:b≠w.heap.size:=by omega
 rw[←hR1]
 clear hkk hik hold hROW hG hR1
 go_enter Tryz.func64,Tryz.ntmps64
 go_wp2_with (first
  |(at_builtin;refine Lib.wpList_append_run _ rfl _ _ _ _ rfl _ _ rfl rfl _ _ (hrz _) ?_)
  |(refine wpList_copy_runI _ rfl _ _ 30 30 rfl _ _ rfl rfl (hcpA _ (by rfl) _ _) ?_)
  |(refine wpList_copy_runI _ rfl _ _ 30 30 rfl _ _ rfl rfl (hcpB _ (by rfl) _ _ _) ?_))
 go_region_law_o (refine step_copy_runI rfl _ _ 30 30 rfl (.slice (some ⟨w.heap.size,(i+1)*8,none⟩) (n-i) (G-(i+1))) (.slice (some ⟨b,off+i*8,none⟩) (n-i) (c-i)) (by simp[Act.eval,Act.put]) (by simp[Act.eval,Act.put]) (hcpB _ (by rfl) 3 (G-(i+1)) (c-i)) ?_)
 go_wp2
 go_ret
 exact⟨rfl,rfl,rfl,rfl,rfl⟩
theorem Rc(w:World)(b:Nat)(R:Array Value):(w.setRow b R).heap.size=w.heap.size:=by simp[World.setRow]
theorem KM{C:Array Value}{o:Nat}{news:List Value}(h:o+news.length≤C.size)(j:Nat):(CC C o news)[j]?=if j<o then C[j]? else if j<o+news.length then news[j-o]? else C[j]?:=by
 unfold CC
 have c:(C.toList.take o).length=o:=by rw[YF,YX];omega
 rw[O3]
 by_cases a:j<o
 ·rw[Ys a,Eg,Yt (by omega),YU,Ys a,Yz]
 ·rw[Yr a]
  by_cases b:j<o+news.length
  ·rw[Ys b,Yt (by rw[Yv];omega),YC (by omega),c]
  ·rw[Yr b,YC (by rw[Yv];omega),YN,Yv,c,Yz]
   congr 1
   omega
theorem Rg{C:Array Value}{o:Nat}{news:List Value}(h:o+news.length≤C.size):(CC C o news).size=C.size:=by
 unfold CC
 simp only[If,Yv,YF,Y2,YX]
 omega
theorem Jc(x:Slt):(Ag x).length=8:=by rw[Hy];rfl
theorem ws(xs:List Slt)(x:Slt)(i:Nat)(hi:i<xs.length)(j:Nat):(Ae Ag (xs.take i++x::xs.drop i))[j]?=if j<i*8 then(Ae Ag xs)[j]? else if j<(i+1)*8 then(Ae Ag [x])[j-i*8]? else(Ae Ag xs)[j-8]?:=by
 have c:(Ae Ag (xs.take i)).length=i*8:=by rw[Df Jc,YF];omega
 have d:(Ae Ag [x]).length=8:=by rw[Df Jc];rfl
 rw[show xs.take i++x::xs.drop i=xs.take i++([x]++xs.drop i)from rfl,KD,KD]
 by_cases a:j<i*8
 ·rw[Ys a,Yt (by omega),←RB Jc,YU,Ys a]
 ·rw[Yr a,YC (by omega),c]
  by_cases b:j<(i+1)*8
  ·rw[Ys b,Yt (by omega)]
  ·rw[Yr b,YC (by omega),d,←Ku Jc,YN]
   congr 1
   omega
theorem mK{C:Array Value}{o n:Nat}(h:o+n≤C.size)(j:Nat):((C.extract o (o+n)).toList)[j]?=if j<n then C[o+j]? else none:=by
 rw[Yz,Hc]
 by_cases a:j<n
 ·rw[Ys a,Ys (by omega)]
 ·rw[Yr a,Yr (by omega)]
set_option maxRecDepth 100000 in
theorem ZpB{ℓ:Nat}{ℋ:Hp}{k0 k1:Ac}(hk0:k0.1≤ℓ)(hk1:k1.1≤ℓ)(hne:k0≠k1){g0 g1:Nat}(xs:List Slt)(x:Slt)(i:Nat)(hi:i<xs.length)(hb:xs.length<549755813888)(hH0:ℋ k0=⟨g0,true,.t 67,8,Ae Ag xs⟩)(hH1:ℋ k1=⟨g1,true,.t 67,8,Ae Ag [x]⟩)
  {Post:AV→Hp→Prop} (h:Post (.ref k0 (g0+1) 0 (xs.length+1)) (updH ℋ k0 ⟨g0+1,true,.t 67,8,Ae Ag (xs.take i++x::xs.drop i)⟩)):Zcq Tryz.prog 64 ℓ [.ref k0 g0 0 xs.length,.d (.int .i64 i),.ref k1 g1 0 1] ℋ Post:=
 ⟨⟨_,AB Tryz.f64,Tryz.func64,by kernel_rfl,by kernel_rfl⟩,fun m S w vs hO hA=>by
  obtain⟨hs,hr⟩:=hA
  obtain⟨vl⟩:=vs
  match vl,hs,hr with
  |[v0,v1,v2],_,hr=>
   have h0:=hr 0 _ v0 rfl rfl
   have h1:=hr 1 _ v1 rfl rfl
   have h2:=hr 2 _ v2 rfl rfl
   cases h1 with
   |d _ _ h1=>
   cases h1 with
   |int _ _=>
   have hl0:(ℋ k0).live=true:=by rw[hH0]
   have hg0:(ℋ k0).g=g0:=by rw[hH0]
   have hl1:(ℋ k1).live=true:=by rw[hH1]
   have hg1:(ℋ k1).g=g1:=by rw[hH1]
   cases h0 with
   |refD _ _ _ _ _ _ _ hd _=>rw[hd hg0.symm]at hl0;cases hl0
   |refL _ _ _ a0 _ _ hcap0 ha0=>
   cases h2 with
   |refD _ _ _ _ _ _ _ hd _=>rw[hd hg1.symm]at hl1;cases hl1
   |refL _ _ _ a1 _ _ hcap1 ha1=>
    rw[JG,YP]at*
    have hc0:(m k0).cap≠0:=by omega
    have hc1:(m k1).cap≠0:=by omega
    obtain⟨C,c1,c2,c3,c4⟩:=hO.blk k0 hk0 hl0 hc0
    obtain⟨D,d1,d2,d3,d4⟩:=hO.blk k1 hk1 hl1 hc1
    have ha0':=ha0 (by omega)
    have ha1':=ha1 (by omega)
    rw[Gj,DS]at ha0' ha1'
    subst ha0'
    subst ha1'
    rw[hH0]at c1 c2 c3 c4
    rw[hH1]at d1 d2 d3 d4
    dsimp only at c1 c2 c3 c4 d1 d2 d3 d4
    have hbb:(m k1).b≠(m k0).b:=fun e=>hne (hO.inj k1 k0 hk1 hk0 hl1 hl0 hc1 hc0 e).symm
    have hn8:xs.length*8≤(m k0).cap*8:=YY _ hcap0
    have hlen:(Ae Ag xs).length=xs.length*8:=Df Jc xs
    have hlen1:(Ae Ag [x]).length=8:=by rw[Df Jc];rfl
    obtain⟨cs,hcs⟩:∃cs,cs=(C.extract (m k0).o ((m k0).o+xs.length*8)).toList:=⟨_,rfl⟩
    obtain⟨vs,hvs⟩:∃vs,vs=(D.extract (m k1).o ((m k1).o+8)).toList:=⟨_,rfl⟩
    have hcl:cs.length=xs.length*8:=by rw[hcs,YX,Array.size_extract];omega
    have hvl:vs.length=8:=by rw[hvs,YX,Array.size_extract];omega
    have hca:∀j,cs[j]?=if j<xs.length*8 then C[(m k0).o+j]? else none:=fun j=>by rw[hcs];exact mK (by omega) j
    have hva:∀j,vs[j]?=if j<8 then D[(m k1).o+j]? else none:=fun j=>by rw[hvs];exact mK (by omega) j
    have hca':∀j v,cs[j]?=some v→C[(m k0).o+j]?=some v:=fun j v hj=>by
     rw[hca]at hj
     split at hj
     ·exact hj
     ·cases hj
    have hva':∀j v,vs[j]?=some v→D[(m k1).o+j]?=some v:=fun j v hj=>by
     rw[hva]at hj
     split at hj
     ·exact hj
     ·cases hj
    have low:∀{y:AV} {v:Value},y∈Ae Ag [x]→RepA w S ℋ m k1.1 y v→RepA w S ℋ m k0.1 y v:=fun {y v} hy hr=>by
     obtain⟨d,rfl⟩:∃d,y=.d d:=by
      obtain⟨d,_,rfl⟩:=Y0.1 hy
      exact⟨d,rfl⟩
     cases hr with
     |d _ _ h=>exact .d _ _ h
    have crep:∀(j:Nat) (y:AV) (v:Value),(Ae Ag xs)[j]?=some y→cs[j]?=some v→v.oneCell'=true∧RepA w S ℋ m k0.1 y v:=fun j y v hy hv=>by
     rw[hca]at hv
     split at hv
     ·exact c4 j y v hy hv
     ·cases hv
    have vrep:∀(j:Nat) (y:AV) (v:Value),(Ae Ag [x])[j]?=some y→vs[j]?=some v→v.oneCell'=true∧RepA w S ℋ m k0.1 y v:=fun j y v hy hv=>by
     rw[hva]at hv
     split at hv
     ·exact⟨(d4 j y v hy hv).1,low (Yu hy) (d4 j y v hy hv).2⟩
     ·cases hv
    have h1c:∀v∈cs,v.oneCell'=true:=fun v hv=>by
     obtain⟨j,hj,rfl⟩:=List.mem_iff_getElem.1 hv
     exact(crep j _ _ (Yh (by omega)) (Yh hj)).1
    have h1v:∀v∈vs,v.oneCell'=true:=fun v hv=>by
     obtain⟨j,hj,rfl⟩:=List.mem_iff_getElem.1 hv
     exact(vrep j _ _ (Yh (by omega)) (Yh hj)).1
    have hdl:(cs.drop (i*8)).length=(xs.length-i)*8:=by rw[Y2,hcl,L4]
    have ref:∀(W:World) (M:MB),xs.length+1≤M.cap→RepA W S (updH ℋ k0 ⟨(ℋ k0).g+1,true,.t 67,8,Ae Ag (xs.take i++x::xs.drop i)⟩) (A1 m k0 M) ℓ (.ref k0 ((ℋ k0).g+1) 0 (xs.length+1)) (.slice (some ⟨M.b,M.o,none⟩) (xs.length+1) M.cap):=fun W M hM=>by
     have:=RepA.refL (w:=W) (S:=S) (H:=updH ℋ k0 ⟨(ℋ k0).g+1,true,.t 67,8,Ae Ag (xs.take i++x::xs.drop i)⟩) (m:=A1 m k0 M) (l:=ℓ) k0 0 (xs.length+1) (some ⟨M.b,M.o,none⟩) hk0 (by rw[AN]) (by rw[AU];omega) (fun _=>by rw[AU,Gj,DS])
     rw[AN,AU]at this
     exact this
    have hnl:(Ae Ag (xs.take i++x::xs.drop i)).length=(xs.length+1)*8:=by
     rw[Df Jc]
     simp only[Yv,YF,Db,Y2]
     omega
    by_cases hroom:xs.length+1≤(m k0).cap
    ·have hr8:(xs.length+1)*8≤(m k0).cap*8:=YY _ hroom
     have hcall:=Zvd (m k0).b (m k0).o xs.length (m k0).cap i (m k1).b (m k1).o (m k1).cap cs vs w hi hroom hb hbb hcl hvl C D 67 c1 c2 hca' d1 hva' h1c h1v
     refine hcall.mono fun e' w' ⟨q1,q2⟩=>?_
     obtain⟨R1,hR1⟩:∃R1,R1=CC C ((m k0).o+(i+1)*8) (cs.drop (i*8)):=⟨_,rfl⟩
     have s1:(m k0).o+(i+1)*8+(cs.drop (i*8)).length≤C.size:=by rw[hdl];omega
     have hR1s:R1.size=C.size:=by rw[hR1];exact Rg s1
     have s2:(m k0).o+i*8+vs.length≤R1.size:=by rw[hR1s,hvl];omega
     rw[←hR1]at q2
     have BF:(w.drew.setRow (m k0).b R1).heap[(m k0).b]?=some (.cells R1 67 (0,0)):=setRow_heap w.drew _ C _ _ _ c1
     obtain⟨k1',k2'⟩:=hO.over k0 hk0 ⟨(ℋ k0).g+1,true,.t 67,8,Ae Ag (xs.take i++x::xs.drop i)⟩ ⟨(m k0).b,(m k0).o,(m k0).cap⟩ (Dc _) rfl hc0
      (CC R1 ((m k0).o+i*8) vs) w'
      (fun b=>by
       rw[q2]
       by_cases e:b=(m k0).b
       ·subst e;rw[Ys rfl];exact setRow_heap _ _ R1 _ _ _ BF
       ·rw[Yr e,setRow_other _ _ _ _ e,setRow_other w.drew _ _ _ e];rfl)
      (.inr ⟨rfl,hl0,hc0⟩) (by rw[Rg s2,hR1s];exact c2) (by rw[hnl];exact hr8)
      (fun j y v hy hv=>by
       have hjl:=(Yn.1 hy).1
       rw[hnl]at hjl
       rw[ws xs x i hi]at hy
       dsimp only at hv
       rw[KM s2]at hv
       by_cases j1:j<i*8
       ·rw[Ys j1]at hy
        rw[Ys (by omega),hR1,KM s1,Ys (by omega)]at hv
        exact c4 j y v hy hv
       ·rw[Yr j1]at hy
        rw[Yr (by omega)]at hv
        by_cases j2:j<(i+1)*8
        ·rw[Ys j2]at hy
         rw[Ys (by omega),show(m k0).o+j-((m k0).o+i*8)=j-i*8 by omega]at hv
         exact vrep _ y v hy hv
        ·rw[Yr j2]at hy
         rw[Yr (by omega),hR1,KM s1,Yr (by omega),Ys (by rw[hdl];omega),YN,show i*8+((m k0).o+j-((m k0).o+(i+1)*8))=j-8 by omega]at hv
         exact crep _ y v hy hv)
      (by rw[q2,Rc,Rc];exact Yp _) (by rw[q2];rfl) (by rw[q2];rfl) (by rw[q2];rfl)
     exact⟨_,_,_,_,_,q1,h,k1',ref _ ⟨(m k0).b,(m k0).o,(m k0).cap⟩ hroom,k2'⟩
    ·have hcall:=Zwx (m k0).b (m k0).o xs.length (m k0).cap i (m k1).b (m k1).o (m k1).cap cs vs w hi hcap0 (by omega) (by omega) hcl hvl (fun j v hj=>by rw[FR c1];exact hca' j v hj) (fun j v hj=>by rw[FR d1];exact hva' j v hj) h1c h1v _ rfl
     refine hcall.mono fun e' w' ⟨q1,q2,q3,q4,q5⟩=>?_
     obtain⟨G,hG⟩:∃G,G=grownCap w (xs.length+1) (m k0).cap 67:=⟨_,rfl⟩
     have hGn:xs.length+1≤G:=by rw[hG];exact grownCap_ge w _ _ _
     rw[←hG]at q1 q2
     obtain⟨ROW,hROW⟩:∃ROW:Array Value,ROW=(cs.take (i*8)).toArray++Builtin.zeroCells GX.cells (xs.length+1-i)++Builtin.zeroCells GX.cells (G-(xs.length+1)):=⟨_,rfl⟩
     rw[←hROW]at q2
     have hRs:ROW.size=G*8:=by
      rw[hROW]
      simp only[Pb,If,YF,hcl,Q7]
      rw[show GX.cells.size=8 from rfl]
      omega
     have s1:i*8+vs.length≤ROW.size:=by rw[hvl,hRs];omega
     obtain⟨R1,hR1⟩:∃R1,R1=CC ROW (i*8) vs:=⟨_,rfl⟩
     have hR1s:R1.size=ROW.size:=by rw[hR1];exact Rg s1
     have s2:(i+1)*8+(cs.drop (i*8)).length≤R1.size:=by rw[hR1s,hdl,hRs];omega
     rw[←hR1]at q2
     have hA:(w.alloc (.cells ROW 67)).heap[w.heap.size]?=some (.cells ROW 67 (0,0)):=by show(w.heap.push _)[w.heap.size]?=_;simp
     have BF:((w.alloc (.cells ROW 67)).setRow w.heap.size R1).heap[w.heap.size]?=some (.cells R1 67 (0,0)):=setRow_heap _ _ ROW _ _ _ hA
     have hG0:G≠0:=by omega
     obtain⟨k1',k2'⟩:=hO.over k0 hk0 ⟨(ℋ k0).g+1,true,.t 67,8,Ae Ag (xs.take i++x::xs.drop i)⟩ ⟨w.heap.size,0,G⟩ (Dc _) rfl hG0
      (CC R1 ((i+1)*8) (cs.drop (i*8))) w'
      (fun b=>by
       rw[q2]
       by_cases e:b=w.heap.size
       ·subst e;rw[Ys rfl];exact setRow_heap _ _ R1 _ _ _ BF
       ·rw[Yr e,setRow_other _ _ _ _ e,setRow_other _ _ _ _ e,Gx,Yr e])
      (.inl rfl) (by rw[Rg s2,hR1s,hRs,YP]) (by rw[hnl];exact YY _ hGn)
      (fun j y v hy hv=>by
       have hjl:=(Yn.1 hy).1
       rw[hnl]at hjl
       rw[ws xs x i hi]at hy
       dsimp only at hv
       rw[YP,KM s2]at hv
       by_cases j1:j<i*8
       ·rw[Ys j1]at hy
        rw[Ys (by omega),hR1,KM s1,Ys j1,hROW,Array.append_assoc,LZ (by simp only[If,YF];omega),O3,YU,Ys j1]at hv
        exact crep j y v hy hv
       ·rw[Yr j1]at hy
        by_cases j2:j<(i+1)*8
        ·rw[Ys j2]at hy
         rw[Ys j2,hR1,KM s1,Yr j1,Ys (by omega)]at hv
         exact vrep _ y v hy hv
        ·rw[Yr j2]at hy
         rw[Yr j2,Ys (by rw[hdl];omega),YN,show i*8+(j-(i+1)*8)=j-8 by omega]at hv
         exact crep _ y v hy hv)
      (by rw[q2,Rc,Rc];show w.heap.size≤(w.heap.push _).size;simp) q3 q4 q5
     exact⟨_,_,_,_,_,q1,h,k1',ref _ ⟨w.heap.size,0,G⟩ hGn,k2'⟩⟩
end Go.Proofs.YtleccgigifnfgaaGreat
