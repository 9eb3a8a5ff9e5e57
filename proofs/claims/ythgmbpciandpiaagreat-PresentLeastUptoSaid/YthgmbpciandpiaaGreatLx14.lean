import Derived.Test.YthgmbpciandpiaaGreatProg
import Derived.Test.YthgmbpciandpiaaGreatLx09
import Derived.Test.YthgmbpciandpiaaGreatLx13
import Derived.Sort.Walk0
import Derived.Shelf.RegionOpenPlain
import Derived.WalkKit
import Derived.Lib.Walk
import Derived.Lib.SliceRun
import Derived.Lib.JoinLaws
import Derived.Lib.AppendZeros
import Derived.Lib.AppendZerosOnto
import Derived.Lib.Overlaps
import Derived.Laws.Externs
import Derived.Laws.IdiomCopy
import Derived.Laws.NewBlocks
import Derived.Shelf.Spec.SlicesInsert
import Derived.Test.YthgmbpciandpiaaGreatLx00
namespace Go.Proofs.YthgmbpciandpiaaGreat
open Go Go.Eng
def tS(e n:Nat):TI:={kin:=4,elm:=some (e,n),zer:=some [.e0],byt:=some 256 }
def tI(k:IntKind):TI:={kin:=3,zer:=some [.d (.int k 0)],ik:=some k,byt:=some 256 }
def tF:TI:={zer:=some [.p .nilFunc] }
def tQ:TI:={zer:=some [.p (.pointer none)] }
def tT(n:Nat)(f:List (Nat×Nat×Bool))(z:List AV)(e:Option (List Nat)):TI:={agg:=true,siz:=n,fld:=f,zer:=some z,eqt:=e,str:=true,byt:=some 256 }
def tl:List (Nat×TI):=[(3,tI .i64),(4,{kin:=1,zer:=some [.d (.bool false)],byt:=some 256 }),(5,tI .u8),(9,{kin:=2,zer:=some [.d (.str ⟨#[]⟩)],byt:=some 256 }),(20,{zer:=some [.p .nilIface] }),(21,tI .i32),(22,tS 61 5),(23,tS 92 5),(24,tS 97 3),(26,tT 3 [(0,1,false),(1,1,false),(2,1,false)] [.e0,.e0,.e0] none),(27,tI .u64),(28,tS 33 7),(29,tS 85 14),(30,tS 65 8),(31,tS 87 4),(33,tT 7 [(0,1,false),(1,1,false),(2,1,false),(3,1,false),(4,1,false),(5,1,false),(6,1,false)] [.d (.int .i64 0),.d (.int .u64 0),.d (.str ⟨#[]⟩),.e0,.e0,.e0,.e0] none),(38,tI .i64),(53,tT 2 [(0,1,false),(1,1,false)] [.d (.int .i64 0),.d (.str ⟨#[]⟩)] (some [3,2])),(54,tS 132 8),(56,tT 16 [(0,1,false),(1,1,false),(2,1,false),(3,1,false),(4,2,true),(6,1,false),(7,1,false),(8,7,true),(15,1,false)] [.d (.int .i64 0),.d (.str ⟨#[]⟩),.d (.int .i64 0),.d (.int .i64 0),.d (.int .i64 0),.d (.str ⟨#[]⟩),.d (.str ⟨#[]⟩),.d (.bool false),.d (.int .i64 0),.d (.int .u64 0),.d (.str ⟨#[]⟩),.e0,.e0,.e0,.e0,.e0] none),(57,tS 56 16),(58,tS 207 2),(59,tS 9 1),(61,tT 5 [(0,1,false),(1,1,false),(2,1,false),(3,1,false),(4,1,false)] [.d (.str ⟨#[]⟩),.e0,.e0,.e0,.e0] none),(65,tT 8 [(0,1,false),(1,7,true)] [.d (.int .i64 0),.d (.int .i64 0),.d (.int .u64 0),.d (.str ⟨#[]⟩),.e0,.e0,.e0,.e0] none),(68,tT 8 [(0,5,true),(5,3,true)] [.d (.str ⟨#[]⟩),.e0,.e0,.e0,.e0,.e0,.e0,.e0] none),(82,tS 3 1),(85,tT 14 [(0,7,true),(7,7,true)] [.d (.int .i64 0),.d (.int .u64 0),.d (.str ⟨#[]⟩),.e0,.e0,.e0,.e0,.d (.int .i64 0),.d (.int .u64 0),.d (.str ⟨#[]⟩),.e0,.e0,.e0,.e0] none),(87,tT 4 [(0,1,false),(1,1,false),(2,1,false),(3,1,false)] [.d (.int .i64 0),.d (.int .i64 0),.d (.int .u64 0),.d (.str ⟨#[]⟩)] (some [3,3,3,2])),(90,tS 94 3),(92,tT 5 [(0,1,false),(1,1,false),(2,1,false),(3,1,false),(4,1,false)] [.d (.str ⟨#[]⟩),.d (.bool false),.e0,.e0,.e0] none),(94,tT 3 [(0,1,false),(1,1,false),(2,1,false)] [.d (.str ⟨#[]⟩),.d (.int .i64 0),.e0] none),(95,tS 99 5),(97,tT 3 [(0,1,false),(1,1,false),(2,1,false)] [.d (.str ⟨#[]⟩),.e0,.e0] none),(99,tT 5 [(0,1,false),(1,1,false),(2,1,false),(3,1,false),(4,1,false)] [.d (.str ⟨#[]⟩),.d (.str ⟨#[]⟩),.d (.str ⟨#[]⟩),.d (.int .i64 0),.e0] none),(100,tS 170 3),(108,tF),(110,tF),(114,tF),(124,{mp:=some (false,[.int .i64 0]),zer:=some [.p (.map none)] }),(125,{mp:=some (true,[.str ⟨#[]⟩,.list [],.list [],.list [],.list []]),zer:=some [.p (.map none)] }),(126,{mp:=some (false,[.bool false]),zer:=some [.p (.map none)] }),(128,tT 2 [(0,1,false),(1,1,false)] [.p (.map none),.p (.map none)] none),(132,tT 8 [(0,1,false),(1,7,true)] [.d (.str ⟨#[]⟩),.d (.int .i64 0),.d (.int .u64 0),.d (.str ⟨#[]⟩),.e0,.e0,.e0,.e0] none),(134,tT 2 [(0,1,false),(1,1,false)] [.d (.str ⟨#[]⟩),.e0] none),(139,tS 4 1),(145,tF),(150,tF),(151,tF),(154,tF),(158,tF),(167,tF),(168,tQ),(170,tT 3 [(0,1,false),(1,1,false),(2,1,false)] [.d (.str ⟨#[]⟩),.d (.int .i64 0),.d (.int .i64 0)] (some [2,3,3])),(182,tT 7 [(0,1,false),(1,1,false),(2,1,false),(3,1,false),(4,1,false),(5,1,false),(6,1,false)] [.d (.int .i64 0),.d (.int .u64 0),.d (.str ⟨#[]⟩),.e0,.e0,.e0,.e0] none),(183,tS 33 7),(185,tS 85 14),(187,tF),(189,tT 2 [(0,1,false),(1,1,false)] [.e0,.e0] none),(192,tF),(194,tF),(198,tF),(207,tT 2 [(0,1,false),(1,1,false)] [.d (.int .i64 0),.d (.int .i64 0)] (some [3,3])),(223,tI .u64),(235,tI .i64),(244,tI .u32),(251,tI .u64),(255,tQ),(259,tQ)]
theorem tkk{t:TypeId}{i:TI}(e:DR Tryz.prog t=some i.agg:=by kernel_rfl)(f:Go.Eng.kin Tryz.prog t=i.kin:=by kernel_rfl)(g:(Tryz.prog).cellsOf t=i.siz:=by kernel_rfl)(h:i.elm=none∨Go.Eng.elm Tryz.prog t=i.elm:=by first|exact .inl rfl|exact .inr (by kernel_rfl))
  (k:((List.range i.fld.length).map fun j=>(Go.Eng.fld Tryz.prog t j,LV Tryz.prog t j))=i.fld.map (fun x=>(some (x.1,x.2.1),some x)):=by kernel_rfl) (l:i.zer=none∨Go.Eng.zer Tryz.prog t=i.zer:=by first|exact .inl rfl|exact .inr (by kernel_rfl)) (m:i.eqt=none∨Ng Tryz.prog t=i.eqt:=by first|exact .inl rfl|exact .inr (by kernel_rfl)) (n:i.str=false∨Lm Tryz.prog t=true:=by first|exact .inl rfl|exact .inr (by kernel_rfl))
  (o:i.ik=none∨(Tryz.prog).underlying t=i.ik.map .int:=by first|exact .inl rfl|exact .inr (by kernel_rfl)) (a:i.byt=none∨(∃b,(Tryz.prog).bytesOf t≤b∧(Tryz.prog).bytesOf t≠0∧i.byt=some b):=by first|exact .inl rfl|exact .inr ⟨256,by decide+kernel,by decide+kernel,rfl⟩|exact .inr ⟨4096,by decide+kernel,by decide+kernel,rfl⟩) (c:i.zer=none∨(i.zer.getD []).all AV.flat=true:=by first|exact .inl rfl|exact .inr rfl) (d:i.mp=none∨H4 Tryz.prog t=i.mp:=by first|exact .inl rfl|exact .inr (by kernel_rfl)):TIok Tryz.prog t i:=.of e f g h k l m n o a c d
theorem Aa:Bg Tryz.prog (Az tl):=rL tl (by
 intro p a
 simp only[tl,YG,XH,or_false]at a
 rcases a with rfl|rfl|rfl|rfl|rfl|rfl|rfl|rfl|rfl|rfl|rfl|rfl|rfl|rfl|rfl|rfl|rfl|rfl|rfl|rfl|rfl|rfl|rfl|rfl|rfl|rfl|rfl|rfl|rfl|rfl|rfl|rfl|rfl|rfl|rfl|rfl|rfl|rfl|rfl|rfl|rfl|rfl|rfl|rfl|rfl|rfl|rfl|rfl|rfl|rfl|rfl|rfl|rfl|rfl|rfl|rfl|rfl|rfl|rfl|rfl|rfl|rfl|rfl|rfl|rfl|rfl|rfl|rfl|rfl<;>exact tkk)
theorem Ac:Tryz.prog.follows .mixedOrders=true:=by kernel_rfl
end Go.Proofs.YthgmbpciandpiaaGreat
namespace Go.Eng
set_option linter.all false
open Go
theorem Zrj(a b:ByteArray):BZ a b=true↔BR a<BR b:=by
 unfold BZ BR
 rw[ByteArray.toList_eq,ByteArray.toList_eq,Go.Proofs.bytesLess_eq,Yw]
theorem ZxA{a b:ByteArray}(h:BR a=BR b):a=b:=by
 unfold BR at h
 obtain⟨⟨a⟩⟩:=a
 obtain⟨⟨b⟩⟩:=b
 simp only at h
 rw[h]
theorem tc{a b:ByteArray}(h:BZ a b=false):BR b≤BR a:=fun c=>by rw[(Zrj a b).2 c]at h;cases h
def JL(x:ByteArray):List ByteArray→List ByteArray
 |[]=>[x]
 |y::l=>match BZ y x with
  |true=>y::JL x l
  |false=>x::y::l
def HR:List ByteArray→List ByteArray
 |[]=>[]
 |x::l=>JL x (HR l)
theorem gn(x:ByteArray):∀l,(JL x l).Perm (x::l)
 |[]=>.refl _
 |y::l=>by
  unfold JL
  split
  ·exact((gn x l).cons y).trans (.swap ..)
  ·exact .refl _
theorem Kh:∀l,(HR l).Perm l
 |[]=>.refl _
 |x::l=>(gn x _).trans ((Kh l).cons x)
theorem Zvy(x:ByteArray):∀l,(l.Pairwise fun x y=>BR x≤BR y)→((JL x l).Pairwise fun x y=>BR x≤BR y)
 |[],_=>by simp[JL]
 |y::l,h=>by
  rw[Hk]at h
  unfold JL
  split
  ·rename_i e
   rw[Hk]
   refine⟨fun z a=>?_,Zvy x l h.2⟩
   rcases YG.1 ((gn x l).mem_iff.1 a)with rfl|a
   ·exact List.le_of_lt ((Zrj y z).1 e)
   ·exact h.1 z a
  ·rename_i e
   rw[Hk,Hk]
   refine⟨fun z a=>?_,h⟩
   rcases YG.1 a with rfl|a
   ·exact tc e
   ·exact List.le_trans (tc e) (h.1 z a)
theorem TZ:∀l,(HR l).Pairwise fun x y=>BR x≤BR y
 |[]=>.nil
 |x::l=>Zvy x _ (TZ l)
theorem Zyu(xs:List ByteArray):(I4 xs).Pairwise fun x y=>BR x≤BR y:=by
 have:=List.pairwise_mergeSort (le:=fun x y:ByteArray=>decide (BR x≤BR y)) (fun a b c d e=>by simp only[Yw]at*;exact List.le_trans d e) (fun a b=>by simp only[YF,Yw];exact List.le_total _ _) xs
 exact this.imp fun h=>by simpa using h
theorem ZyD(l:List ByteArray):HR l=I4 l:=
 ((Kh l).trans (List.mergeSort_perm _ _).symm).eq_of_pairwise (fun a b _ _ c d=>ZxA (List.le_antisymm c d)) (TZ l) (Zyu l)
end Go.Eng
namespace Go.Proofs.YthgmbpciandpiaaGreat
set_option linter.all false
open Go Go.RowKit Go.Lib Go.Sort Go.Eng Go.Shelf
def Ic:Value:=.agg #[.int .i64 0,.int .i64 0,.int .u64 0,.string ⟨#[]⟩,.slice none 0 0,.slice none 0 0,.slice none 0 0,.slice none 0 0]
theorem qk:(Tryz.prog.info? 65).map (fun i=>(i.zero,i.size,i.bytes))=some (some Ic,8,136):=by kernel_rfl
theorem Tt{P:Program}(W:World){i t ty el:TypeId}{it:TypeInfo}(s:P.underlying i=some (.slice el))(hi:P.info? el=some it)(b o d g:Nat)(a:Addr)(c f n:Nat)(news:List Value)(r:Nat.min c d=n)(hl:news.length=n*it.size)
  (h:∀j v,news[j]?=some v→W.cell? (a.add j)=some v) (C:Array Value) (e:TypeId) (p:W.heap[b]?=some (.cells C e (0,0))) (q:o+news.length≤C.size) (l:∀v∈news,v.oneCell'=true):
  (Builtin.copy_ #[i,t] ty #[.slice (some ⟨b,o,none⟩) d g,.slice (some a) c f]).run P W=.ok (goInt n) (W.setRow b (C.toList.take o++news++C.toList.drop (o+news.length)).toArray):=by
 have m:=run_firstCells_some (P:=P) (w:=W) it.size n a c f news hl h
 have k:=run_storeCells_at (P:=P) b o e news 0 C W p (by omega) l
 simp only[EA]at k
 simp[Builtin.copy_,run_underlying s,Builtin.lenOf,sizeOf,typeInfo,hi,r,m,k]
def De(C:Array Value)(o:Nat)(news:List Value):Array Value:=(C.toList.take o++news++C.toList.drop (o+news.length)).toArray
set_option maxHeartbeats 4000000 in
set_option maxRecDepth 1000000 in
theorem ZvM(b off n c i vb voff vc:Nat)(cs vs:List Value)(w:World)(hi:i<n)(hroom:n+1≤c)(hn63:n<549755813888)(hvb:vb≠b)(hcl:cs.length=n*8)(hvl:vs.length=8)
  (C D:Array Value) (e2:TypeId) (hb:w.heap[b]?=some (.cells C 65 (0,0))) (hC:C.size=off+c*8) (hcs:∀j v,cs[j]?=some v→C[off+j]?=some v) (hD:w.heap[vb]?=some (.cells D e2 (0,0))) (hvs:∀j v,vs[j]?=some v→D[voff+j]?=some v)
  (h1c:∀v∈cs,v.oneCell'=true) (h1v:∀v∈vs,v.oneCell'=true):
  Calls Tryz.prog 66 #[.slice (some ⟨b,off,none⟩) n c,.int .i64 i,.slice (some ⟨vb,voff,none⟩) 1 vc] w fun e w'=>
   e=.returned (.slice (some ⟨b,off,none⟩) (n+1) c)∧w'=(w.drew.setRow b (De C (off+(i+1)*8) (cs.drop (i*8)))).setRow b (De (De C (off+(i+1)*8) (cs.drop (i*8))) (off+i*8) vs):=by
 obtain⟨i0,hi0,hz0,hz1,hz2⟩:=info_parts qk
 have hq2:¬((i:Int)=(n:Int)):=by omega
 have hov:∀lb cb,(callFunc 100 #[.slice (some ⟨vb,voff,none⟩) 1 vc,.slice (some ⟨b,off+(i+1)*8,none⟩) lb cb]).run Tryz.prog w=.ok (.value (.bool false)) w:=fun lb cb=>by
  rw[run_callFunc_extern Tryz.func100 (by kernel_rfl) (by kernel_rfl) (by kernel_rfl) (e:=Extern.SlicesOverlaps.overlaps #[30,30] #[4]) (by kernel_rfl),
   Lib.run_overlaps_apart w 30 4 65 Tryz.underlying30 8 Tryz.sizeOf65 ⟨vb,voff,none⟩ ⟨b,off+(i+1)*8,none⟩ 1 vc lb cb hvb e2 65 D.size C.size (by simp[World.shape?,hD]) (by simp[World.shape?,hb]) (by omega) (by simp[World.frozen?,hD]) (by simp[World.frozen?,hD])]
  rfl
 have hdl:(cs.drop (i*8)).length=(n-i)*8:=by rw[YP,hcl,NJ]
 have hw1:IntKind.i64.wrap ((i:Int)+1)=(i:Int)+1:=by rw[IntKind.wrap_i64];omega
 have hw2:IntKind.i64.wrap ((n:Int)+1)=(n:Int)+1:=by rw[IntKind.wrap_i64];omega
 obtain⟨R1,hR1⟩:∃R1,R1=De C (off+(i+1)*8) (cs.drop (i*8)):=⟨_,rfl⟩
 have hR1s:R1.size=C.size:=by
  rw[hR1]
  unfold De
  simp only[Js,Yo,Yy,YP,YW,hcl]
  omega
 obtain⟨W1,hW1⟩:∃W1,W1=w.drew.setRow b R1:=⟨_,rfl⟩
 have hcp1:∀ty dc sc,(Builtin.copy_ #[30,30] ty #[.slice (some ⟨b,off+(i+1)*8,none⟩) (n-i) dc,.slice (some ⟨b,off+i*8,none⟩) (n+1-i) sc]).run Tryz.prog w.drew=.ok (goInt ((n-i:Nat):Int)) W1:=fun ty dc sc=>by
  rw[Tt w.drew Tryz.underlying30 hi0 b (off+(i+1)*8) (n-i) dc ⟨b,off+i*8,none⟩ (n+1-i) sc (n-i) (cs.drop (i*8)) (by simp only[QK];split<;>omega) (by rw[hdl,hz1])
   (fun j v hj=>by
    rw[YO]at hj
    rw[Addr.add_lit]
    unfold World.cell?
    simp only[World.drew,hb]
    rw[YE]
    exact hcs _ v hj) C 65 hb (by omega) (fun v hv=>h1c v (Nz hv)),hW1,hR1]
  rfl
 have B8:W1.heap[b]?=some (.cells R1 65 (0,0)):=by rw[hW1];exact setRow_heap w.drew _ C _ _ _ hb
 have hD1:W1.heap[vb]?=some (.cells D e2 (0,0)):=by rw[hW1,setRow_other w.drew _ _ _ hvb];exact hD
 have hcp2:∀(W:World),W.heap=W1.heap→∀ty dc,(Builtin.copy_ #[30,30] ty #[.slice (some ⟨b,off+i*8,none⟩) (n+1-i) dc,.slice (some ⟨vb,voff,none⟩) 1 vc]).run Tryz.prog W=.ok (goInt 1) (W.setRow b (De R1 (off+i*8) vs)):=fun W hW ty dc=>
  Tt W Tryz.underlying30 hi0 b (off+i*8) (n+1-i) dc ⟨vb,voff,none⟩ 1 vc 1 vs (by simp only[QK];split<;>omega) (by rw[hvl,hz1])
   (fun j v hj=>by
    rw[Addr.add_lit]
    unfold World.cell?
    simp only[hW,hD1]
    exact hvs j v hj) R1 65 (by rw[hW];exact B8) (by omega) h1v
 have mixed:Tryz.prog.follows Departure.mixedOrders=true:=by kernel_rfl
 have z63:=Tryz.sizeOf65
 have t32:=Tryz.underlying30
 have u32:=run_underlying Tryz.underlying30
 have hb1':(0:Int)≤(i:Int)+1:=by omega
 have hin:i≤n:=by omega
 have htn:((i:Int)+1).toNat=i+1:=by omega
 have Ax:¬(c=i+1):=by omega
 have WT:(i:Int)≤(n:Int)+1:=by omega
 have nq:¬(c=i):=by omega
 go_enter Tryz.func66,Tryz.ntmps66
 go_wp2_with (simp only[hov])
 go_region_law_o (refine step_copy_runI rfl _ _ 30 30 rfl _ _ (by simp[Act.eval,Act.put]) (by simp[Act.eval,Act.put]) (hcp1 _ _ _) ?_)
 go_wp2_with (refine wpList_copy_runI _ rfl _ _ 30 30 rfl _ _ rfl rfl (hcp2 _ (by rfl) _ _) ?_)
 go_ret
 exact⟨rfl,rfl⟩
set_option maxHeartbeats 4000000 in
set_option maxRecDepth 1000000 in
theorem Zy1(b off n c i vb voff vc:Nat)(cs vs:List Value)(w:World)(hi:i<n)(hnc:n≤c)(hroom:c<n+1)(hbig:(n+1)*136≤140737488355328)(hcl:cs.length=n*8)(hvl:vs.length=8)
  (hcs:∀j v,cs[j]?=some v→w.cell? ⟨b,off+j,none⟩=some v) (hvs:∀j v,vs[j]?=some v→w.cell? ⟨vb,voff+j,none⟩=some v)
  (h1c:∀v∈cs,v.oneCell'=true) (h1v:∀v∈vs,v.oneCell'=true) (ROW:Array Value) (hROW:ROW=(cs.take (i*8)).toArray++Builtin.zeroCells Ic.cells (n+1-i)++Builtin.zeroCells Ic.cells (grownCap w (n+1) c 65-(n+1))):
  Calls Tryz.prog 66 #[.slice (some ⟨b,off,none⟩) n c,.int .i64 i,.slice (some ⟨vb,voff,none⟩) 1 vc] w fun e w'=>
   e=.returned (.slice (some ⟨w.heap.size,0,none⟩) (n+1) (grownCap w (n+1) c 65))∧
   w'.heap=(((w.alloc (.cells ROW 65)).setRow w.heap.size (De ROW (i*8) vs)).setRow w.heap.size (De (De ROW (i*8) vs) ((i+1)*8) (cs.drop (i*8)))).heap∧w'.os=w.os∧w'.tape=w.tape∧w'.output=w.output:=by
 obtain⟨i0,hi0,hz0,hz1,hz2⟩:=info_parts qk
 have hq2:¬((i:Int)=(n:Int)):=by omega
 have hq3:(c:Int)<(n:Int)+1:=by omega
 have hbw:b<w.heap.size:=block_lt_of_cell (hcs 0 _ (Ya (by omega)))
 have hvw:vb<w.heap.size:=block_lt_of_cell (hvs 0 _ (Ya (by omega)))
 have hkk:(n:Int)+1-(i:Int)=((n+1-i:Nat):Int):=by omega
 have hik:i+(n+1-i)=n+1:=by omega
 have hold:(Builtin.firstCells i0.size i (.slice (some ⟨b,off,none⟩) i c)).run Tryz.prog w.drew=.ok (cs.take (i*8)).toArray w.drew:=by
  rw[hz1]
  exact run_firstCells_some w.drew 8 i ⟨b,off,none⟩ i c (cs.take (i*8)) (by rw[Yy];omega) (fun j v hj=>by
   rw[Addr.add_lit]
   rw[YR]at hj
   split at hj
   ·exact hcs j v hj
   ·cases hj)
 have hrz:∀ty,(Builtin.append_ #[30,3] ty #[.slice (some ⟨b,off,none⟩) i c,.int .i64 ((n:Int)+1-(i:Int))]).run Tryz.prog w=
   .ok (.slice (some ⟨w.heap.size,0,none⟩) (n+1) (grownCap w (n+1) c 65)) (w.drew.alloc (.cells ((cs.take (i*8)).toArray++Builtin.zeroCells Ic.cells (n+1-i)++Builtin.zeroCells Ic.cells (grownCap w (n+1) c 65-(n+1))) 65)):=fun ty=>by
  have h:=Lib.run_append_grow_zeros w 30 3 ty 65 i0 _ .i64 .i64 Tryz.underlying30 Tryz.underlying3 hi0 hz0 (some ⟨b,off,none⟩) i c (cs.take (i*8)) hold (n+1-i) (by omega) (by omega) (by omega) (by omega) (by rw[hz2];omega) (by rw[hz2,hik];exact growslice_fits hroom hbig)
  rw[hik]at h
  rw[hkk]
  exact h
 obtain⟨G,hG⟩:∃G,G=grownCap w (n+1) c 65:=⟨_,rfl⟩
 have hGn:n+1≤G:=by rw[hG];exact grownCap_ge w _ _ _
 have hG63:G≤9223372036854775807:=by
  have:=grownCap_le_maxLen w (n+1) c 65 (by unfold maxLen;omega)
  rw[←hG]at this
  unfold maxLen at this
  omega
 rw[←hG]at hrz hROW⊢
 rw[←hROW]at hrz
 have hRs:ROW.size=G*8:=by
  rw[hROW]
  simp only[QY,Js,Yy,hcl,Ty]
  rw[show Ic.cells.size=8 from rfl]
  omega
 obtain⟨R1,hR1⟩:∃R1,R1=De ROW (i*8) vs:=⟨_,rfl⟩
 have hR1s:R1.size=ROW.size:=by
  rw[hR1]
  unfold De
  simp only[Js,Yo,Yy,YP,YW,hvl]
  omega
 have hdl:(cs.drop (i*8)).length=(n-i)*8:=by rw[YP,hcl,NJ]
 have hcpA:∀(W:World),W.heap=(w.alloc (.cells ROW 65)).heap→∀ty dc,(Builtin.copy_ #[30,30] ty #[.slice (some ⟨w.heap.size,i*8,none⟩) (n+1-i) dc,.slice (some ⟨vb,voff,none⟩) 1 vc]).run Tryz.prog W=.ok (goInt 1) (W.setRow w.heap.size R1):=fun W hW ty dc=>by
  rw[Tt W Tryz.underlying30 hi0 w.heap.size (i*8) (n+1-i) dc ⟨vb,voff,none⟩ 1 vc 1 vs (by simp only[QK];split<;>omega) (by rw[hvl,hz1])
   (fun j v hj=>by
    rw[Addr.add_lit]
    unfold World.cell?
    simp only[hW]
    have:=hvs j v hj
    unfold World.cell? at this
    rw[show(w.alloc (.cells ROW 65)).heap[vb]?=w.heap[vb]? from by show(w.heap.push _)[vb]?=_;rw[Im,Yj (by omega)]]
    exact this) ROW 65 (by rw[hW];show(w.heap.push _)[w.heap.size]?=_;simp) (by omega) h1v,hR1]
  rfl
 have hcpB:∀(W:World),W.heap=((w.alloc (.cells ROW 65)).setRow w.heap.size R1).heap→∀ty dc sc,(Builtin.copy_ #[30,30] ty #[.slice (some ⟨w.heap.size,(i+1)*8,none⟩) (n-i) dc,.slice (some ⟨b,off+i*8,none⟩) (n-i) sc]).run Tryz.prog W=.ok (goInt ((n-i:Nat):Int)) (W.setRow w.heap.size (De R1 ((i+1)*8) (cs.drop (i*8)))):=fun W hW ty dc sc=>by
  have hA:(w.alloc (.cells ROW 65)).heap[w.heap.size]?=some (.cells ROW 65 (0,0)):=by show(w.heap.push _)[w.heap.size]?=_;simp
  exact Tt W Tryz.underlying30 hi0 w.heap.size ((i+1)*8) (n-i) dc ⟨b,off+i*8,none⟩ (n-i) sc (n-i) (cs.drop (i*8)) (by simp only[QK];split<;>omega) (by rw[hdl,hz1])
   (fun j v hj=>by
    rw[YO]at hj
    rw[Addr.add_lit]
    unfold World.cell?
    simp only[hW]
    rw[setRow_other (w.alloc (.cells ROW 65)) _ _ _ (by omega:b≠w.heap.size)]
    have:=hcs _ v hj
    unfold World.cell? at this
    rw[show(w.alloc (.cells ROW 65)).heap[b]?=w.heap[b]? from by show(w.heap.push _)[b]?=_;rw[Im,Yj (by omega)]]
    rw[YE]
    exact this) R1 65 (by rw[hW];exact setRow_heap _ _ ROW _ _ _ hA) (by rw[hdl];omega) (fun v hv=>h1c v (Nz hv))
 have mixed:Tryz.prog.follows Departure.mixedOrders=true:=by kernel_rfl
 have z63:=Tryz.sizeOf65
 have t32:=Tryz.underlying30
 have u32:=run_underlying Tryz.underlying30
 have hw1:IntKind.i64.wrap ((i:Int)+1)=(i:Int)+1:=by rw[IntKind.wrap_i64];omega
 have hw2:IntKind.i64.wrap ((n:Int)+1)=(n:Int)+1:=by rw[IntKind.wrap_i64];omega
 have hw3:IntKind.i64.wrap ((n:Int)+1-i)=(n:Int)+1-i:=by rw[IntKind.wrap_i64];omega
 have hb1':(0:Int)≤(i:Int)+1:=by omega
 have hin:i≤n:=by omega
 have htn:((i:Int)+1).toNat=i+1:=by omega
 have hGi:¬(G=i):=by omega
 have hGim:¬(G=i+1):=by omega
 have hci:¬(c=i):=by omega
 have WT:(i:Int)≤(n:Int):=by omega
 have hbN:b≠w.heap.size:=by omega
 rw[←hR1]
 clear hkk hik hold hROW hG hR1
 go_enter Tryz.func66,Tryz.ntmps66
 go_wp2_with (first
  |(at_builtin;refine Lib.wpList_append_run _ rfl _ _ _ _ rfl _ _ rfl rfl _ _ (hrz _) ?_)
  |(refine wpList_copy_runI _ rfl _ _ 30 30 rfl _ _ rfl rfl (hcpA _ (by rfl) _ _) ?_)
  |(refine wpList_copy_runI _ rfl _ _ 30 30 rfl _ _ rfl rfl (hcpB _ (by rfl) _ _ _) ?_))
 go_region_law_o (refine step_copy_runI rfl _ _ 30 30 rfl (.slice (some ⟨w.heap.size,(i+1)*8,none⟩) (n-i) (G-(i+1))) (.slice (some ⟨b,off+i*8,none⟩) (n-i) (c-i)) (by simp[Act.eval,Act.put]) (by simp[Act.eval,Act.put]) (hcpB _ (by rfl) 3 (G-(i+1)) (c-i)) ?_)
 go_wp2
 go_ret
 exact⟨rfl,rfl,rfl,rfl,rfl⟩
theorem TA(w:World)(b:Nat)(R:Array Value):(w.setRow b R).heap.size=w.heap.size:=by simp[World.setRow]
theorem Mp{C:Array Value}{o:Nat}{news:List Value}(h:o+news.length≤C.size)(j:Nat):(De C o news)[j]?=if j<o then C[j]? else if j<o+news.length then news[j-o]? else C[j]?:=by
 unfold De
 have c:(C.toList.take o).length=o:=by rw[Yy,YW];omega
 rw[QR]
 by_cases a:j<o
 ·rw[Yg a,Fu,Yn (by omega),YR,Yg a,Yr]
 ·rw[Yj a]
  by_cases b:j<o+news.length
  ·rw[Yg b,Yn (by rw[Yo];omega),Yt (by omega),c]
  ·rw[Yj b,Yt (by rw[Yo];omega),YO,Yo,c,Yr]
   congr 1
   omega
theorem TQ{C:Array Value}{o:Nat}{news:List Value}(h:o+news.length≤C.size):(De C o news).size=C.size:=by
 unfold De
 simp only[Js,Yo,Yy,YP,YW]
 omega
theorem Kl(x:Slt):(Ap x).length=8:=by rw[GI];rfl
theorem Zl7(xs:List Slt)(x:Slt)(i:Nat)(hi:i<xs.length)(j:Nat):(Af Ap (xs.take i++x::xs.drop i))[j]?=if j<i*8 then(Af Ap xs)[j]? else if j<(i+1)*8 then(Af Ap [x])[j-i*8]? else(Af Ap xs)[j-8]?:=by
 have c:(Af Ap (xs.take i)).length=i*8:=by rw[Fb Kl,Yy];omega
 have d:(Af Ap [x]).length=8:=by rw[Fb Kl];rfl
 rw[show xs.take i++x::xs.drop i=xs.take i++([x]++xs.drop i)from rfl,TT,TT]
 by_cases a:j<i*8
 ·rw[Yg a,Yn (by omega),←TE Kl,YR,Yg a]
 ·rw[Yj a,Yt (by omega),c]
  by_cases b:j<(i+1)*8
  ·rw[Yg b,Yn (by omega)]
  ·rw[Yj b,Yt (by omega),d,←TD Kl,YO]
   congr 1
   omega
theorem pz{C:Array Value}{o n:Nat}(h:o+n≤C.size)(j:Nat):((C.extract o (o+n)).toList)[j]?=if j<n then C[o+j]? else none:=by
 rw[Yr,It]
 by_cases a:j<n
 ·rw[Yg a,Yg (by omega)]
 ·rw[Yj a,Yj (by omega)]
set_option maxRecDepth 100000 in
theorem ZwE{ℓ:Nat}{ℋ:Hp}{k0 k1:Ad}(hk0:k0.1≤ℓ)(hk1:k1.1≤ℓ)(hne:k0≠k1){g0 g1:Nat}(xs:List Slt)(x:Slt)(i:Nat)(hi:i<xs.length)(hb:xs.length<549755813888)(hH0:ℋ k0=⟨g0,true,.t 65,8,Af Ap xs⟩)(hH1:ℋ k1=⟨g1,true,.t 65,8,Af Ap [x]⟩)
  {Post:AV→Hp→Prop} (h:Post (.ref k0 (g0+1) 0 (xs.length+1)) (updH ℋ k0 ⟨g0+1,true,.t 65,8,Af Ap (xs.take i++x::xs.drop i)⟩)):ZcF Tryz.prog 66 ℓ [.ref k0 g0 0 xs.length,.d (.int .i64 i),.ref k1 g1 0 1] ℋ Post:=
 ⟨⟨_,Aw Tryz.f66,Tryz.func66,by kernel_rfl,by kernel_rfl⟩,fun m S w vs hO hA=>by
  obtain⟨hs,hr⟩:=hA
  obtain⟨vl⟩:=vs
  match vl,hs,hr with
  |[v0,v1,v2],_,hr=>
   have h0:=hr 0 _ v0 rfl rfl
   have h1:=hr 1 _ v1 rfl rfl
   have h2:=hr 2 _ v2 rfl rfl
   cases h1 with
   |d _ _ h1=>
   cases h1 with
   |int _ _=>
   have hl0:(ℋ k0).live=true:=by rw[hH0]
   have hg0:(ℋ k0).g=g0:=by rw[hH0]
   have hl1:(ℋ k1).live=true:=by rw[hH1]
   have hg1:(ℋ k1).g=g1:=by rw[hH1]
   cases h0 with
   |refD _ _ _ _ _ _ _ hd _=>rw[hd hg0.symm]at hl0;cases hl0
   |refL _ _ _ a0 _ _ hcap0 ha0=>
   cases h2 with
   |refD _ _ _ _ _ _ _ hd _=>rw[hd hg1.symm]at hl1;cases hl1
   |refL _ _ _ a1 _ _ hcap1 ha1=>
    rw[XT,YJ]at*
    have hc0:(m k0).cap≠0:=by omega
    have hc1:(m k1).cap≠0:=by omega
    obtain⟨C,c1,c2,c3,c4⟩:=hO.blk k0 hk0 hl0 hc0
    obtain⟨D,d1,d2,d3,d4⟩:=hO.blk k1 hk1 hl1 hc1
    have ha0':=ha0 (by omega)
    have ha1':=ha1 (by omega)
    rw[He,EA]at ha0' ha1'
    subst ha0'
    subst ha1'
    rw[hH0]at c1 c2 c3 c4
    rw[hH1]at d1 d2 d3 d4
    dsimp only at c1 c2 c3 c4 d1 d2 d3 d4
    have hbb:(m k1).b≠(m k0).b:=fun e=>hne (hO.inj k1 k0 hk1 hk0 hl1 hl0 hc1 hc0 e).symm
    have hn8:xs.length*8≤(m k0).cap*8:=YY _ hcap0
    have hlen:(Af Ap xs).length=xs.length*8:=Fb Kl xs
    have hlen1:(Af Ap [x]).length=8:=by rw[Fb Kl];rfl
    obtain⟨cs,hcs⟩:∃cs,cs=(C.extract (m k0).o ((m k0).o+xs.length*8)).toList:=⟨_,rfl⟩
    obtain⟨vs,hvs⟩:∃vs,vs=(D.extract (m k1).o ((m k1).o+8)).toList:=⟨_,rfl⟩
    have hcl:cs.length=xs.length*8:=by rw[hcs,YW,Array.size_extract];omega
    have hvl:vs.length=8:=by rw[hvs,YW,Array.size_extract];omega
    have hca:∀j,cs[j]?=if j<xs.length*8 then C[(m k0).o+j]? else none:=fun j=>by rw[hcs];exact pz (by omega) j
    have hva:∀j,vs[j]?=if j<8 then D[(m k1).o+j]? else none:=fun j=>by rw[hvs];exact pz (by omega) j
    have hca':∀j v,cs[j]?=some v→C[(m k0).o+j]?=some v:=fun j v hj=>by
     rw[hca]at hj
     split at hj
     ·exact hj
     ·cases hj
    have hva':∀j v,vs[j]?=some v→D[(m k1).o+j]?=some v:=fun j v hj=>by
     rw[hva]at hj
     split at hj
     ·exact hj
     ·cases hj
    have low:∀{y:AV} {v:Value},y∈Af Ap [x]→RepA w S ℋ m k1.1 y v→RepA w S ℋ m k0.1 y v:=fun {y v} hy hr=>by
     obtain⟨d,rfl⟩:∃d,y=.d d:=by
      obtain⟨d,_,rfl⟩:=YI.1 hy
      exact⟨d,rfl⟩
     cases hr with
     |d _ _ h=>exact .d _ _ h
    have crep:∀(j:Nat) (y:AV) (v:Value),(Af Ap xs)[j]?=some y→cs[j]?=some v→v.oneCell'=true∧RepA w S ℋ m k0.1 y v:=fun j y v hy hv=>by
     rw[hca]at hv
     split at hv
     ·exact c4 j y v hy hv
     ·cases hv
    have vrep:∀(j:Nat) (y:AV) (v:Value),(Af Ap [x])[j]?=some y→vs[j]?=some v→v.oneCell'=true∧RepA w S ℋ m k0.1 y v:=fun j y v hy hv=>by
     rw[hva]at hv
     split at hv
     ·exact⟨(d4 j y v hy hv).1,low (Yk hy) (d4 j y v hy hv).2⟩
     ·cases hv
    have h1c:∀v∈cs,v.oneCell'=true:=fun v hv=>by
     obtain⟨j,hj,rfl⟩:=Xv.1 hv
     exact(crep j _ _ (Ya (by omega)) (Ya hj)).1
    have h1v:∀v∈vs,v.oneCell'=true:=fun v hv=>by
     obtain⟨j,hj,rfl⟩:=Xv.1 hv
     exact(vrep j _ _ (Ya (by omega)) (Ya hj)).1
    have hdl:(cs.drop (i*8)).length=(xs.length-i)*8:=by rw[YP,hcl,NJ]
    have ref:∀(W:World) (M:MB),xs.length+1≤M.cap→RepA W S (updH ℋ k0 ⟨(ℋ k0).g+1,true,.t 65,8,Af Ap (xs.take i++x::xs.drop i)⟩) (Bb m k0 M) ℓ (.ref k0 ((ℋ k0).g+1) 0 (xs.length+1)) (.slice (some ⟨M.b,M.o,none⟩) (xs.length+1) M.cap):=fun W M hM=>by
     have:=RepA.refL (w:=W) (S:=S) (H:=updH ℋ k0 ⟨(ℋ k0).g+1,true,.t 65,8,Af Ap (xs.take i++x::xs.drop i)⟩) (m:=Bb m k0 M) (l:=ℓ) k0 0 (xs.length+1) (some ⟨M.b,M.o,none⟩) hk0 (by rw[AO]) (by rw[A3];omega) (fun _=>by rw[A3,He,EA])
     rw[AO,A3]at this
     exact this
    have hnl:(Af Ap (xs.take i++x::xs.drop i)).length=(xs.length+1)*8:=by
     rw[Fb Kl]
     simp only[Yo,Yy,DW,YP]
     omega
    by_cases hroom:xs.length+1≤(m k0).cap
    ·have hr8:(xs.length+1)*8≤(m k0).cap*8:=YY _ hroom
     have hcall:=ZvM (m k0).b (m k0).o xs.length (m k0).cap i (m k1).b (m k1).o (m k1).cap cs vs w hi hroom hb hbb hcl hvl C D 65 c1 c2 hca' d1 hva' h1c h1v
     refine hcall.mono fun e' w' ⟨q1,q2⟩=>?_
     obtain⟨R1,hR1⟩:∃R1,R1=De C ((m k0).o+(i+1)*8) (cs.drop (i*8)):=⟨_,rfl⟩
     have s1:(m k0).o+(i+1)*8+(cs.drop (i*8)).length≤C.size:=by rw[hdl];omega
     have hR1s:R1.size=C.size:=by rw[hR1];exact TQ s1
     have s2:(m k0).o+i*8+vs.length≤R1.size:=by rw[hR1s,hvl];omega
     rw[←hR1]at q2
     have B8:(w.drew.setRow (m k0).b R1).heap[(m k0).b]?=some (.cells R1 65 (0,0)):=setRow_heap w.drew _ C _ _ _ c1
     obtain⟨k1',k2'⟩:=hO.over k0 hk0 ⟨(ℋ k0).g+1,true,.t 65,8,Af Ap (xs.take i++x::xs.drop i)⟩ ⟨(m k0).b,(m k0).o,(m k0).cap⟩ (DX _) rfl hc0
      (De R1 ((m k0).o+i*8) vs) w'
      (fun b=>by
       rw[q2]
       by_cases e:b=(m k0).b
       ·subst e;rw[Yg rfl];exact setRow_heap _ _ R1 _ _ _ B8
       ·rw[Yj e,setRow_other _ _ _ _ e,setRow_other w.drew _ _ _ e];rfl)
      (.inr ⟨rfl,hl0,hc0⟩) (by rw[TQ s2,hR1s];exact c2) (by rw[hnl];exact hr8)
      (fun j y v hy hv=>by
       have hjl:=(Yd.1 hy).1
       rw[hnl]at hjl
       rw[Zl7 xs x i hi]at hy
       dsimp only at hv
       rw[Mp s2]at hv
       by_cases j1:j<i*8
       ·rw[Yg j1]at hy
        rw[Yg (by omega),hR1,Mp s1,Yg (by omega)]at hv
        exact c4 j y v hy hv
       ·rw[Yj j1]at hy
        rw[Yj (by omega)]at hv
        by_cases j2:j<(i+1)*8
        ·rw[Yg j2]at hy
         rw[Yg (by omega),show(m k0).o+j-((m k0).o+i*8)=j-i*8 by omega]at hv
         exact vrep _ y v hy hv
        ·rw[Yj j2]at hy
         rw[Yj (by omega),hR1,Mp s1,Yj (by omega),Yg (by rw[hdl];omega),YO,show i*8+((m k0).o+j-((m k0).o+(i+1)*8))=j-8 by omega]at hv
         exact crep _ y v hy hv)
      (by rw[q2,TA,TA];exact Yf _) (by rw[q2];rfl) (by rw[q2];rfl) (by rw[q2];rfl)
     exact⟨_,_,_,_,_,q1,h,k1',ref _ ⟨(m k0).b,(m k0).o,(m k0).cap⟩ hroom,k2'⟩
    ·have hcall:=Zy1 (m k0).b (m k0).o xs.length (m k0).cap i (m k1).b (m k1).o (m k1).cap cs vs w hi hcap0 (by omega) (by omega) hcl hvl (fun j v hj=>by rw[GG c1];exact hca' j v hj) (fun j v hj=>by rw[GG d1];exact hva' j v hj) h1c h1v _ rfl
     refine hcall.mono fun e' w' ⟨q1,q2,q3,q4,q5⟩=>?_
     obtain⟨G,hG⟩:∃G,G=grownCap w (xs.length+1) (m k0).cap 65:=⟨_,rfl⟩
     have hGn:xs.length+1≤G:=by rw[hG];exact grownCap_ge w _ _ _
     rw[←hG]at q1 q2
     obtain⟨ROW,hROW⟩:∃ROW:Array Value,ROW=(cs.take (i*8)).toArray++Builtin.zeroCells Ic.cells (xs.length+1-i)++Builtin.zeroCells Ic.cells (G-(xs.length+1)):=⟨_,rfl⟩
     rw[←hROW]at q2
     have hRs:ROW.size=G*8:=by
      rw[hROW]
      simp only[QY,Js,Yy,hcl,Ty]
      rw[show Ic.cells.size=8 from rfl]
      omega
     have s1:i*8+vs.length≤ROW.size:=by rw[hvl,hRs];omega
     obtain⟨R1,hR1⟩:∃R1,R1=De ROW (i*8) vs:=⟨_,rfl⟩
     have hR1s:R1.size=ROW.size:=by rw[hR1];exact TQ s1
     have s2:(i+1)*8+(cs.drop (i*8)).length≤R1.size:=by rw[hR1s,hdl,hRs];omega
     rw[←hR1]at q2
     have hA:(w.alloc (.cells ROW 65)).heap[w.heap.size]?=some (.cells ROW 65 (0,0)):=by show(w.heap.push _)[w.heap.size]?=_;simp
     have B8:((w.alloc (.cells ROW 65)).setRow w.heap.size R1).heap[w.heap.size]?=some (.cells R1 65 (0,0)):=setRow_heap _ _ ROW _ _ _ hA
     have hG0:G≠0:=by omega
     obtain⟨k1',k2'⟩:=hO.over k0 hk0 ⟨(ℋ k0).g+1,true,.t 65,8,Af Ap (xs.take i++x::xs.drop i)⟩ ⟨w.heap.size,0,G⟩ (DX _) rfl hG0
      (De R1 ((i+1)*8) (cs.drop (i*8))) w'
      (fun b=>by
       rw[q2]
       by_cases e:b=w.heap.size
       ·subst e;rw[Yg rfl];exact setRow_heap _ _ R1 _ _ _ B8
       ·rw[Yj e,setRow_other _ _ _ _ e,setRow_other _ _ _ _ e,HB,Yj e])
      (.inl rfl) (by rw[TQ s2,hR1s,hRs,YJ]) (by rw[hnl];exact YY _ hGn)
      (fun j y v hy hv=>by
       have hjl:=(Yd.1 hy).1
       rw[hnl]at hjl
       rw[Zl7 xs x i hi]at hy
       dsimp only at hv
       rw[YJ,Mp s2]at hv
       by_cases j1:j<i*8
       ·rw[Yg j1]at hy
        rw[Yg (by omega),hR1,Mp s1,Yg j1,hROW,Array.append_assoc,NC (by simp only[Js,Yy];omega),QR,YR,Yg j1]at hv
        exact crep j y v hy hv
       ·rw[Yj j1]at hy
        by_cases j2:j<(i+1)*8
        ·rw[Yg j2]at hy
         rw[Yg j2,hR1,Mp s1,Yj j1,Yg (by omega)]at hv
         exact vrep _ y v hy hv
        ·rw[Yj j2]at hy
         rw[Yj j2,Yg (by rw[hdl];omega),YO,show i*8+(j-(i+1)*8)=j-8 by omega]at hv
         exact crep _ y v hy hv)
      (by rw[q2,TA,TA];show w.heap.size≤(w.heap.push _).size;simp) q3 q4 q5
     exact⟨_,_,_,_,_,q1,h,k1',ref _ ⟨w.heap.size,0,G⟩ hGn,k2'⟩⟩
end Go.Proofs.YthgmbpciandpiaaGreat
