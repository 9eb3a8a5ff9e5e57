import Derived.Test.YtifefgdogdecnaaGreatDoorProg
import Derived.Test.YtifefgdogdecnaaGreatDoorEb07
import Derived.Test.YtifefgdogdecnaaGreatDoorEb08
import Derived.Test.YtifefgdogdecnaaGreatDoorEb09
import Derived.Shelf.Strings.OnBuilder
import Derived.Shelf.Strings.BuilderK
import Derived.WalkKit
import Derived.BigCall
import Derived.BigRegion
import Derived.Deep.RegionHeld3
import Derived.Deep.LoopGhost
import Derived.Deep.OwnRows
import Derived.Test.YtifefgdogdecnaaGreatDoorEb11
import Derived.Test.YtifefgdogdecnaaGreatDoorEb00
namespace Go.Proofs.YtifefgdogdecnaaGreatDoor
open Go Go.Eng
def tS(e n:Nat):TI:={kin:=4,elm:=some (e,n),zer:=some [.e0],byt:=some 256 }
def tI(k:IntKind):TI:={kin:=3,zer:=some [.d (.int k 0)],ik:=some k,byt:=some 256 }
def tF:TI:={zer:=some [.p .nilFunc] }
def tQ:TI:={zer:=some [.p (.pointer none)] }
def tT(n:Nat)(f:List (Nat×Nat×Bool))(z:List AV)(e:Option (List Nat)):TI:={agg:=true,siz:=n,fld:=f,zer:=some z,eqt:=e,str:=true,byt:=some 256 }
def tl:List (Nat×TI):=[(2,tI .i64),(3,tI .i64),(4,{kin:=1,zer:=some [.d (.bool false)],byt:=some 256 }),(5,tI .u8),(9,{kin:=2,zer:=some [.d (.str ⟨#[]⟩)],byt:=some 256 }),(20,{zer:=some [.p .nilIface] }),(21,tI .i32),(22,tS 35 7),(25,tS 27 2),(27,{agg:=true,siz:=2,arr:=some (2,1),zer:=some [.d (.int .i64 0),.d (.int .i64 0)],byt:=some 256 }),(30,tI .u64),(31,tS 108 14),(32,tS 54 8),(33,tS 106 4),(35,tT 7 [(0,1,false),(1,1,false),(2,1,false),(3,1,false),(4,1,false),(5,1,false),(6,1,false)] [.d (.int .i64 0),.d (.int .u64 0),.d (.str ⟨#[]⟩),.e0,.e0,.e0,.e0] none),(39,tT 2 [(0,1,false),(1,1,false)] [.d (.int .i64 0),.d (.str ⟨#[]⟩)] (some [3,2])),(40,tS 301 8),(42,tT 16 [(0,1,false),(1,1,false),(2,1,false),(3,1,false),(4,2,true),(6,1,false),(7,1,false),(8,7,true),(15,1,false)] [.d (.int .i64 0),.d (.str ⟨#[]⟩),.d (.int .i64 0),.d (.int .i64 0),.d (.int .i64 0),.d (.str ⟨#[]⟩),.d (.str ⟨#[]⟩),.d (.bool false),.d (.int .i64 0),.d (.int .u64 0),.d (.str ⟨#[]⟩),.e0,.e0,.e0,.e0,.e0] none),(43,tS 42 16),(44,tS 303 2),(45,tS 9 1),(47,tT 5 [(0,1,false),(1,1,false),(2,1,false),(3,1,false),(4,1,false)] [.d (.str ⟨#[]⟩),.e0,.e0,.e0,.e0] none),(48,tS 47 5),(49,tS 223 5),(50,tS 306 3),(52,tT 3 [(0,1,false),(1,1,false),(2,1,false)] [.e0,.e0,.e0] none),(54,tT 8 [(0,1,false),(1,7,true)] [.d (.int .i64 0),.d (.int .i64 0),.d (.int .u64 0),.d (.str ⟨#[]⟩),.e0,.e0,.e0,.e0] none),(55,tS 59 9),(57,tS 61 10),(59,tT 9 [(0,1,false),(1,1,false),(2,7,true)] [.e0,.d (.int .i64 0),.d (.int .i64 0),.d (.int .u64 0),.d (.str ⟨#[]⟩),.e0,.e0,.e0,.e0] none),(61,tT 10 [(0,1,false),(1,1,false),(2,1,false),(3,7,true)] [.d (.int .i64 0),.d (.int .i64 0),.d (.bool false),.d (.int .i64 0),.d (.int .u64 0),.d (.str ⟨#[]⟩),.e0,.e0,.e0,.e0] none),(62,tI .i64),(69,tS 71 1),(71,tS 3 1),(73,tF),(75,tQ),(77,tT 4 [(0,3,true),(3,1,false)] [.e0,.e0,.e0,.e0] none),(83,tQ),(84,tS 5 1),(86,tT 2 [(0,1,false),(1,1,false)] [.p (.pointer none),.e0] none),(93,{zer:=some [.p .nilIface] }),(97,tF),(98,tF),(106,tT 4 [(0,1,false),(1,1,false),(2,1,false),(3,1,false)] [.d (.int .i64 0),.d (.int .i64 0),.d (.int .u64 0),.d (.str ⟨#[]⟩)] (some [3,3,3,2])),(108,tT 14 [(0,7,true),(7,7,true)] [.d (.int .i64 0),.d (.int .u64 0),.d (.str ⟨#[]⟩),.e0,.e0,.e0,.e0,.d (.int .i64 0),.d (.int .u64 0),.d (.str ⟨#[]⟩),.e0,.e0,.e0,.e0] none),(117,tF),(125,tF),(127,tF),(129,{agg:=true,siz:=6,arr:=some (6,1),zer:=some [.d (.str ⟨#[]⟩),.d (.str ⟨#[]⟩),.d (.str ⟨#[]⟩),.d (.str ⟨#[]⟩),.d (.str ⟨#[]⟩),.d (.str ⟨#[]⟩)],byt:=some 256 }),(132,tF),(134,tF),(138,tF),(140,tQ),(143,tT 7 [(0,1,false),(1,1,false),(2,1,false),(3,1,false),(4,1,false),(5,1,false),(6,1,false)] [.d (.int .i64 0),.d (.int .u64 0),.d (.str ⟨#[]⟩),.e0,.e0,.e0,.e0] none),(144,tS 35 7),(146,tS 108 14),(148,tF),(150,tT 2 [(0,1,false),(1,1,false)] [.e0,.e0] none),(153,tF),(170,tF),(177,tI .u64),(192,tF),(206,{agg:=true,siz:=24,arr:=some (24,1),zer:=some [.d (.int .u8 0),.d (.int .u8 0),.d (.int .u8 0),.d (.int .u8 0),.d (.int .u8 0),.d (.int .u8 0),.d (.int .u8 0),.d (.int .u8 0),.d (.int .u8 0),.d (.int .u8 0),.d (.int .u8 0),.d (.int .u8 0),.d (.int .u8 0),.d (.int .u8 0),.d (.int .u8 0),.d (.int .u8 0),.d (.int .u8 0),.d (.int .u8 0),.d (.int .u8 0),.d (.int .u8 0),.d (.int .u8 0),.d (.int .u8 0),.d (.int .u8 0),.d (.int .u8 0)],byt:=some 256 }),(214,tS 31 1),(221,tS 265 3),(223,tT 5 [(0,1,false),(1,1,false),(2,1,false),(3,1,false),(4,1,false)] [.d (.str ⟨#[]⟩),.d (.bool false),.e0,.e0,.e0] none),(228,tF),(236,tT 8 [(0,5,true),(5,3,true)] [.d (.str ⟨#[]⟩),.e0,.e0,.e0,.e0,.e0,.e0,.e0] none),(248,{agg:=true,siz:=20,arr:=some (20,1),zer:=some [.d (.int .u64 0),.d (.int .u64 0),.d (.int .u64 0),.d (.int .u64 0),.d (.int .u64 0),.d (.int .u64 0),.d (.int .u64 0),.d (.int .u64 0),.d (.int .u64 0),.d (.int .u64 0),.d (.int .u64 0),.d (.int .u64 0),.d (.int .u64 0),.d (.int .u64 0),.d (.int .u64 0),.d (.int .u64 0),.d (.int .u64 0),.d (.int .u64 0),.d (.int .u64 0),.d (.int .u64 0)],byt:=some 256 }),(249,tI .u32),(250,{agg:=true,siz:=65,arr:=some (65,1),zer:=some [.d (.int .u8 0),.d (.int .u8 0),.d (.int .u8 0),.d (.int .u8 0),.d (.int .u8 0),.d (.int .u8 0),.d (.int .u8 0),.d (.int .u8 0),.d (.int .u8 0),.d (.int .u8 0),.d (.int .u8 0),.d (.int .u8 0),.d (.int .u8 0),.d (.int .u8 0),.d (.int .u8 0),.d (.int .u8 0),.d (.int .u8 0),.d (.int .u8 0),.d (.int .u8 0),.d (.int .u8 0),.d (.int .u8 0),.d (.int .u8 0),.d (.int .u8 0),.d (.int .u8 0),.d (.int .u8 0),.d (.int .u8 0),.d (.int .u8 0),.d (.int .u8 0),.d (.int .u8 0),.d (.int .u8 0),.d (.int .u8 0),.d (.int .u8 0),.d (.int .u8 0),.d (.int .u8 0),.d (.int .u8 0),.d (.int .u8 0),.d (.int .u8 0),.d (.int .u8 0),.d (.int .u8 0),.d (.int .u8 0),.d (.int .u8 0),.d (.int .u8 0),.d (.int .u8 0),.d (.int .u8 0),.d (.int .u8 0),.d (.int .u8 0),.d (.int .u8 0),.d (.int .u8 0),.d (.int .u8 0),.d (.int .u8 0),.d (.int .u8 0),.d (.int .u8 0),.d (.int .u8 0),.d (.int .u8 0),.d (.int .u8 0),.d (.int .u8 0),.d (.int .u8 0),.d (.int .u8 0),.d (.int .u8 0),.d (.int .u8 0),.d (.int .u8 0),.d (.int .u8 0),.d (.int .u8 0),.d (.int .u8 0),.d (.int .u8 0)],byt:=some 4096 }),(262,tF),(265,tT 3 [(0,1,false),(1,1,false),(2,1,false)] [.d (.str ⟨#[]⟩),.d (.int .i64 0),.e0] none),(266,tF),(283,{agg:=true,siz:=32,arr:=some (32,1),zer:=some [.d (.int .u8 0),.d (.int .u8 0),.d (.int .u8 0),.d (.int .u8 0),.d (.int .u8 0),.d (.int .u8 0),.d (.int .u8 0),.d (.int .u8 0),.d (.int .u8 0),.d (.int .u8 0),.d (.int .u8 0),.d (.int .u8 0),.d (.int .u8 0),.d (.int .u8 0),.d (.int .u8 0),.d (.int .u8 0),.d (.int .u8 0),.d (.int .u8 0),.d (.int .u8 0),.d (.int .u8 0),.d (.int .u8 0),.d (.int .u8 0),.d (.int .u8 0),.d (.int .u8 0),.d (.int .u8 0),.d (.int .u8 0),.d (.int .u8 0),.d (.int .u8 0),.d (.int .u8 0),.d (.int .u8 0),.d (.int .u8 0),.d (.int .u8 0)],byt:=some 256 }),(284,{agg:=true,siz:=64,arr:=some (64,1),zer:=some [.d (.int .u8 0),.d (.int .u8 0),.d (.int .u8 0),.d (.int .u8 0),.d (.int .u8 0),.d (.int .u8 0),.d (.int .u8 0),.d (.int .u8 0),.d (.int .u8 0),.d (.int .u8 0),.d (.int .u8 0),.d (.int .u8 0),.d (.int .u8 0),.d (.int .u8 0),.d (.int .u8 0),.d (.int .u8 0),.d (.int .u8 0),.d (.int .u8 0),.d (.int .u8 0),.d (.int .u8 0),.d (.int .u8 0),.d (.int .u8 0),.d (.int .u8 0),.d (.int .u8 0),.d (.int .u8 0),.d (.int .u8 0),.d (.int .u8 0),.d (.int .u8 0),.d (.int .u8 0),.d (.int .u8 0),.d (.int .u8 0),.d (.int .u8 0),.d (.int .u8 0),.d (.int .u8 0),.d (.int .u8 0),.d (.int .u8 0),.d (.int .u8 0),.d (.int .u8 0),.d (.int .u8 0),.d (.int .u8 0),.d (.int .u8 0),.d (.int .u8 0),.d (.int .u8 0),.d (.int .u8 0),.d (.int .u8 0),.d (.int .u8 0),.d (.int .u8 0),.d (.int .u8 0),.d (.int .u8 0),.d (.int .u8 0),.d (.int .u8 0),.d (.int .u8 0),.d (.int .u8 0),.d (.int .u8 0),.d (.int .u8 0),.d (.int .u8 0),.d (.int .u8 0),.d (.int .u8 0),.d (.int .u8 0),.d (.int .u8 0),.d (.int .u8 0),.d (.int .u8 0),.d (.int .u8 0),.d (.int .u8 0)],byt:=some 4096 }),(301,tT 8 [(0,1,false),(1,7,true)] [.d (.str ⟨#[]⟩),.d (.int .i64 0),.d (.int .u64 0),.d (.str ⟨#[]⟩),.e0,.e0,.e0,.e0] none),(303,tT 2 [(0,1,false),(1,1,false)] [.d (.int .i64 0),.d (.int .i64 0)] (some [3,3])),(304,tS 309 5),(306,tT 3 [(0,1,false),(1,1,false),(2,1,false)] [.d (.str ⟨#[]⟩),.e0,.e0] none),(309,tT 5 [(0,1,false),(1,1,false),(2,1,false),(3,1,false),(4,1,false)] [.d (.str ⟨#[]⟩),.d (.str ⟨#[]⟩),.d (.str ⟨#[]⟩),.d (.int .i64 0),.e0] none)]
theorem mD{t:TypeId}{i:TI}(f:B2 Tryz.prog t=some i.agg:=by kernel_rfl)(g:Go.Eng.kin Tryz.prog t=i.kin:=by kernel_rfl)(h:(Tryz.prog).cellsOf t=i.siz:=by kernel_rfl)(k:i.elm=none∨Go.Eng.elm Tryz.prog t=i.elm:=by first|exact .inl rfl|exact .inr (by kernel_rfl))
  (l:((List.range i.fld.length).map fun j=>(Go.Eng.fld Tryz.prog t j,H3 Tryz.prog t j))=i.fld.map (fun x=>(some (x.1,x.2.1),some x)):=by kernel_rfl) (m:i.zer=none∨Go.Eng.zer Tryz.prog t=i.zer:=by first|exact .inl rfl|exact .inr (by kernel_rfl)) (n:i.eqt=none∨Ia Tryz.prog t=i.eqt:=by first|exact .inl rfl|exact .inr (by kernel_rfl)) (o:i.str=false∨F2 Tryz.prog t=true:=by first|exact .inl rfl|exact .inr (by kernel_rfl))
  (p:i.ik=none∨(Tryz.prog).underlying t=i.ik.map .int:=by first|exact .inl rfl|exact .inr (by kernel_rfl)) (a:i.byt=none∨(∃b,(Tryz.prog).bytesOf t≤b∧(Tryz.prog).bytesOf t≠0∧i.byt=some b):=by first|exact .inl rfl|exact .inr ⟨256,by decide+kernel,by decide+kernel,rfl⟩|exact .inr ⟨4096,by decide+kernel,by decide+kernel,rfl⟩) (c:i.zer=none∨(i.zer.getD []).all AV.flat=true:=by first|exact .inl rfl|exact .inr rfl) (d:i.mp=none∨H1 Tryz.prog t=i.mp:=by first|exact .inl rfl|exact .inr (by kernel_rfl)) (e:Dn Tryz.prog t=i.arr:=by kernel_rfl):TIok Tryz.prog t i:=.of f g h k l m n o p a c d e
theorem AM:AL Tryz.prog (Ay tl):=U7 tl (by
 intro p a
 simp only[tl,YJ,Nu,or_false]at a
 rcases a with rfl|rfl|rfl|rfl|rfl|rfl|rfl|rfl|rfl|rfl|rfl|rfl|rfl|rfl|rfl|rfl|rfl|rfl|rfl|rfl|rfl|rfl|rfl|rfl|rfl|rfl|rfl|rfl|rfl|rfl|rfl|rfl|rfl|rfl|rfl|rfl|rfl|rfl|rfl|rfl|rfl|rfl|rfl|rfl|rfl|rfl|rfl|rfl|rfl|rfl|rfl|rfl|rfl|rfl|rfl|rfl|rfl|rfl|rfl|rfl|rfl|rfl|rfl|rfl|rfl|rfl|rfl|rfl|rfl|rfl|rfl|rfl|rfl|rfl|rfl|rfl|rfl|rfl|rfl|rfl|rfl<;>exact mD)
theorem C7:Tryz.prog.follows .mixedOrders=true:=by kernel_rfl
end Go.Proofs.YtifefgdogdecnaaGreatDoor
namespace Go.Eng
set_option linter.all false
open Go Go.RowKit Go.Shelf
end Go.Eng
namespace Go.Proofs.YtifefgdogdecnaaGreatDoor
set_option linter.all false
open Go Go.Eng Go.RowKit
def SD:Go.Shelf.Ren:=⟨fun|156=>29|165=>62|166=>30|169=>34|240=>63|241=>115|276=>116|277=>158|n=>n,fun|31=>45|9=>9|3=>3|4=>4|0=>0|20=>20|72=>86|76=>94|70=>83|37=>84|75=>93|127=>140|164=>175|5=>5|80=>99|n=>n,fun|n=>n⟩
set_option maxRecDepth 100000 in
theorem Ph:Go.Proofs.Lays.n156 Tryz.prog SD:={
 mixed:=by kernel_rfl,
 f156:=Tryz.func29.trans (congrArg some (by kernel_rfl)),
 f165:=Tryz.func62.trans (congrArg some (by kernel_rfl)),
 f166:=Tryz.func30.trans (congrArg some (by kernel_rfl)),
 f169:=Tryz.func34.trans (congrArg some (by kernel_rfl)),
 f240:=Tryz.func63.trans (congrArg some (by kernel_rfl)),
 f241:=Tryz.func115.trans (congrArg some (by kernel_rfl)),
 f276:=Tryz.func116.trans (congrArg some (by kernel_rfl)),
 f277:=Tryz.func158.trans (congrArg some (by kernel_rfl)),
 t0:=Tryz.underlying0,
 a0:=Tryz.isAgg0,
 z0:=Tryz.sizeOf0,
 v0:=Tryz.zeroValue0,
 t3:=Tryz.underlying3,
 a3:=Tryz.isAgg3,
 z3:=Tryz.sizeOf3,
 v3:=Tryz.zeroValue3,
 t4:=Tryz.underlying4,
 a4:=Tryz.isAgg4,
 z4:=Tryz.sizeOf4,
 v4:=Tryz.zeroValue4,
 t9:=Tryz.underlying9,
 a9:=Tryz.isAgg9,
 z9:=Tryz.sizeOf9,
 v9:=Tryz.zeroValue9,
 t20:=Tryz.underlying20,
 a20:=Tryz.isAgg20,
 z20:=Tryz.sizeOf20,
 v20:=Tryz.zeroValue20,
 t31:=Tryz.underlying45,
 a31:=Tryz.isAgg45,
 z31:=Tryz.sizeOf45,
 v31:=Tryz.zeroValue45,
 t37:=Tryz.underlying84,
 a37:=Tryz.isAgg84,
 z37:=Tryz.sizeOf84,
 v37:=Tryz.zeroValue84,
 t70:=Tryz.underlying83,
 a70:=Tryz.isAgg83,
 z70:=Tryz.sizeOf83,
 v70:=Tryz.zeroValue83,
 t72:=Tryz.underlying86,
 a72:=Tryz.isAgg86,
 z72:=Tryz.sizeOf86,
 v72:=Tryz.zeroValue86,
 t75:=Tryz.underlying93,
 a75:=Tryz.isAgg93,
 z75:=Tryz.sizeOf93,
 v75:=Tryz.zeroValue93,
 t76:=Tryz.underlying94,
 a76:=Tryz.isAgg94,
 z76:=Tryz.sizeOf94,
 v76:=Tryz.zeroValue94,
 t127:=Tryz.underlying140,
 a127:=Tryz.isAgg140,
 z127:=Tryz.sizeOf140,
 v127:=Tryz.zeroValue140,
 t164:=Tryz.underlying175,
 a164:=Tryz.isAgg175,
 z164:=Tryz.sizeOf175,
 v164:=Tryz.zeroValue175 }
theorem PS:Go.Proofs.Builder.Extra Tryz.prog SD:={
 sizeBuilder:=by kernel_rfl,
 liesBuilder:=by kernel_rfl,
 t5:=Tryz.underlying5,a5:=Tryz.isAgg5,z5:=Tryz.sizeOf5,v5:=Tryz.zeroValue5,
 infoByte:=by kernel_rfl,cellsByte:=by kernel_rfl,sizeByte:=by kernel_rfl,neB5:=by decide }
theorem Xp(B b:Nat)(c:List Value)(s:ByteArray)(w:World)(h:Lib.IsBuilderF 86 5 B b c w)(a:c.length+s.size≤140737488355328)(d:B≤w.heap.size):
  Calls Tryz.prog 30 #[.pointer (some ⟨b,0,none⟩),.string s] w fun e w'=>e=.returned (.tuple #[.int .i64 s.size,.nilIface])∧(Lib.BuilderAtF 86 5 B b (.pointer (some ⟨b,0,none⟩)) (c++Lib.strCells s) w'∧Below B w w'∧Lib.OthersKept 5 (some b) w w'):=
 Any.Builder_WriteString_k {Ph with } PS B b c s w h a d
end Go.Proofs.YtifefgdogdecnaaGreatDoor
namespace Go.Proofs.YtifefgdogdecnaaGreatDoor
set_option linter.all false
open Go Go.RowKit
theorem j6:(Tryz.prog.info? 3).map (fun i=>(i.zero,i.size,i.bytes))=some (some (.int .i64 0),1,8):=by kernel_rfl
theorem iM:(Tryz.prog.info? 71).map (fun i=>(i.zero,i.size,i.bytes))=some (some (.slice none 0 0),1,24):=by kernel_rfl
structure Tb (W0 w:World) (na nb r:Nat) (f:Nat→Nat→Int):Prop where
 since:W0.Since W0.heap.size w
 top:w.rowIs W0.heap.size 71 (na+1) (fun j=>if j<r then .slice (some ⟨W0.heap.size+1+j,0,none⟩) (nb+1) (nb+1)else .slice none 0 0)
 row:∀j,j<r→w.rowIs (W0.heap.size+1+j) 3 (nb+1) (fun k=>.int .i64 (f j k))
theorem Tb.congr{W0 w:World}{na nb r:Nat}{f g:Nat→Nat→Int}(h:Tb W0 w na nb r f)(e:∀j k,j<r→k<nb+1→f j k=g j k):Tb W0 w na nb r g:=
 ⟨h.since,h.top,fun j hj=>(h.row j hj).congr fun k hk=>by rw[e j k hj hk]⟩
theorem Tb.start(W0:World)(na nb:Nat)(f:Nat→Nat→Int):Tb W0 (W0.alloc (.cells (madeCells #[.slice none 0 0] (na+1)) 71)) na nb 0 f:=
 ⟨(World.Since.refl _ _).alloc (Nat.le_refl _) _,(World.rowIs_made W0 _ (na+1) 71).congr (fun j _=>by simp),fun j hj=>absurd hj (Nat.not_lt_zero _)⟩
theorem Tb.more{W0 w:World}{na nb r:Nat}{f:Nat→Nat→Int}(h:Tb W0 w na nb r f)(hs:w.heap.size=W0.heap.size+1+r)(hf:∀k,f r k=0):
  Tb W0 ((w.alloc (.cells (madeCells #[.int .i64 0] (nb+1)) 3)).setCell ⟨W0.heap.size,r,none⟩ (.slice (some ⟨W0.heap.size+1+r,0,none⟩) (nb+1) (nb+1))) na nb (r+1) f:=by
 have hnew:=World.rowIs_made w (.int .i64 0) (nb+1) 3
 rw[hs]at hnew
 refine⟨(h.since.alloc (by rw[hs];omega) _).setCell (Nat.le_refl _) _,((h.top.alloc _).set r _).congr (fun j _=>?_),fun j hj=>?_⟩
 ·by_cases e:j=r
  ·subst e;simp
  ·rw[if_neg e]
   by_cases hlt:j<r
   ·rw[if_pos hlt,if_pos (by omega)]
   ·rw[if_neg hlt,if_neg (by omega)]
 ·by_cases e:j=r
  ·subst e
   exact(hnew.setOther (by show W0.heap.size+1+j≠W0.heap.size;omega) _).congr fun k hk=>by rw[hf k]
  ·exact((h.row j (by omega)).alloc _).setOther (by show W0.heap.size+1+j≠W0.heap.size;omega) _
theorem Tb.put{W0 w:World}{na nb r:Nat}{f:Nat→Nat→Int}(h:Tb W0 w na nb r f)(p k:Nat)(hp:p<r)(n:Int):
  Tb W0 (w.setCell ⟨W0.heap.size+1+p,k,none⟩ (.int .i64 n)) na nb r (fun j t=>if j=p∧t=k then n else f j t):=by
 refine⟨h.since.setCell (by show W0.heap.size≤W0.heap.size+1+p;omega) _,h.top.setOther (by show W0.heap.size≠W0.heap.size+1+p;omega) _,fun j hj=>?_⟩
 by_cases e:j=p
 ·subst e
  exact((h.row j hj).set k _).congr fun t ht=>by
   by_cases e:t=k
   ·rw[if_pos e,if_pos ⟨rfl,e⟩]
   ·rw[if_neg e,if_neg (fun h=>e h.2)]
 ·exact((h.row j hj).setOther (by show W0.heap.size+1+j≠W0.heap.size+1+p;omega) _).congr fun t ht=>by rw[if_neg (fun h=>e h.1)]
theorem Tb.draw{W0 w:World}{na nb r:Nat}{f:Nat→Nat→Int}(h:Tb W0 w na nb r f):Tb W0 w.drew na nb r f:=⟨h.since.drew,h.top,h.row⟩
theorem Tb.mono{W0 w w':World}{na nb r:Nat}{f:Nat→Nat→Int}(h:Tb W0 w na nb r f)(hs:w.Since w.heap.size w'):Tb W0 w' na nb r f:=
 ⟨⟨hs.os.trans h.since.os,hs.tape.trans h.since.tape,hs.output.trans h.since.output,Nat.le_trans h.since.size hs.size,fun k hk=>(hs.block k (Nat.lt_of_lt_of_le hk h.since.size)).trans (h.since.block k hk)⟩,h.top.of_block (hs.block _ h.top.lt),fun j hj=>(h.row j hj).of_block (hs.block _ (h.row j hj).lt)⟩
structure Els (w:World) (v:Value) (n b o:Nat) (c:Nat→Nat→Value):Prop where
 v:∃k,(0<n∧v=.slice (some ⟨b,o,none⟩) n k)∨(n=0∧∃a,v=.slice a 0 k)
 c:∀i j,i<n→j<7→w.cell? ⟨b,o+(i*7+j),none⟩=some (c i j)
def Fy(c:Nat→Nat→Value)(i:Nat):Value:=.agg #[c i 0,c i 1,c i 2,c i 3,c i 4,c i 5,c i 6]
def fT(L:Nat→Nat→Nat)(na nb i c j k:Nat):Int:=if na≤j+i∨(j+i+1=na∧nb≤k+c)then(L j k:Int)else 0
set_option maxHeartbeats 6400000 in
set_option maxRecDepth 1000000 in
theorem cJ(q:Nat→Nat→Bool)(L:Nat→Nat→Nat)(na nb:Nat)(hna:na≤4096)(hnb:nb≤4096)
  (hL:∀j k,j<na→k<nb→L j k=if q j k then L (j+1) (k+1)+1 else max (L (j+1) k) (L j (k+1))) (hL1:∀j k,na≤j→L j k=0) (hL2:∀j k,nb≤k→L j k=0) (hLb:∀j k,L j k≤4096)
  (va vb:Value) (ba oa bb ob:Nat) (ca cb:Nat→Nat→Value) (W0:World) (ha:Els W0 va na ba oa ca) (hb:Els W0 vb nb bb ob cb)
  (hE:∀j k W,j<na→k<nb→W0.Since W0.heap.size W→Calls Tryz.prog 18 #[Fy ca j,Fy cb k] W fun e W'=>e=.returned (.bool (q j k))∧W.Since W.heap.size W'):
  Calls Tryz.prog 17 #[va,vb] W0 fun e w'=>e=.returned (.slice (some ⟨W0.heap.size,0,none⟩) (na+1) (na+1))∧Tb W0 w' na nb (na+1) (fun j k=>L j k):=by
 obtain⟨⟨ka,hva⟩,hca⟩:=ha
 obtain⟨⟨kb,hvb⟩,hcb⟩:=hb
 have hm1:∀w:World,(Instr.makeSlice 69 (.int .i64 ((na:Int)+1)) (.int .i64 ((na:Int)+1))).run Tryz.prog w=.ok (.slice (some ⟨w.heap.size,0,none⟩) (na+1) (na+1)) (w.alloc (.cells (madeCells #[.slice none 0 0] (na+1)) 71)):=fun w=>run_make_row' (P:=Tryz.prog) 69 71 (.slice none 0 0) 24 Tryz.underlying69 iM rfl .i64 .i64 (na+1) (by omega) (by omega) w
 have hm2:∀w:World,(Instr.makeSlice 71 (.int .i64 ((nb:Int)+1)) (.int .i64 ((nb:Int)+1))).run Tryz.prog w=.ok (.slice (some ⟨w.heap.size,0,none⟩) (nb+1) (nb+1)) (w.alloc (.cells (madeCells #[.int .i64 0] (nb+1)) 3)):=fun w=>run_make_row' (P:=Tryz.prog) 71 3 (.int .i64 0) 8 Tryz.underlying71 j6 rfl .i64 .i64 (nb+1) (by omega) (by omega) w
 obtain⟨aa,ava⟩:∃aa,va=.slice aa na ka:=by
  rcases hva with⟨_,h⟩|⟨h0,a,h⟩
  ·exact⟨_,h⟩
  ·exact⟨a,by rw[h0];exact h⟩
 obtain⟨ab,avb⟩:∃ab,vb=.slice ab nb kb:=by
  rcases hvb with⟨_,h⟩|⟨h0,a,h⟩
  ·exact⟨_,h⟩
  ·exact⟨a,by rw[h0];exact h⟩
 subst ava avb
 have haa:0<na→aa=some ⟨ba,oa,none⟩:=fun h=>by
  rcases hva with⟨_,h'⟩|⟨h0,_⟩
  ·cases h';rfl
  ·omega
 have hbb:0<nb→ab=some ⟨bb,ob,none⟩:=fun h=>by
  rcases hvb with⟨_,h'⟩|⟨h0,_⟩
  ·cases h';rfl
  ·omega
 clear hva hvb
 go_enter Tryz.func17,Tryz.ntmps17
 go_wp2
 clear hm1
 go_loopg [6,15] (na+1) (fun g s6 s15 wr=>∃r:Nat,r≤na+1∧g=na+1-r∧s15=.int .i64 r∧wr.heap.size=W0.heap.size+1+r∧Tb W0 wr na nb r (fT L na nb 0 0))
 case atStart=>
  exact⟨0,Nat.zero_le _,rfl,rfl,by simp,Tb.start W0 na nb _⟩
 case round=>
  obtain⟨r,hr,rfl,rfl,hs,hT⟩:=hrel
  by_cases hlt:r<na+1
  ·have hrz:(r:Int)<(na:Int)+1:=by omega
   have hst1:∀o,(wr.alloc o).cell? ⟨W0.heap.size,r,none⟩=some (.slice none 0 0):=fun o=>by rw[(hT.top.alloc o).cell hlt];simp
   have hst2:∀o,(wr.alloc o).frozen? ⟨W0.heap.size,r,none⟩=false:=fun o=>(hT.top.alloc o).frozen r
   go_wp2
   go_roundg (na+1-(r+1))
   case measure=>omega
   case rel=>
    refine⟨r+1,by omega,rfl,by go_num,by simp[hs];omega,?_⟩
    have:=hT.more hs (fun k=>?_)
    ·exact this
    ·unfold fT;split
     ·rename_i h
      rcases h with h|h
      ·rw[hL1 _ _ (by omega)];rfl
      ·rw[hL2 _ _ (by omega)];rfl
     ·rfl
  ·obtain rfl:r=na+1:=by omega
   go_wp2
   clear hm2 hlt hr
   go_loopg [7,28,8] na (fun g s7 s28 s8 wr=>∃i:Nat,i≤na∧g=na-i∧s28=.int .i64 i∧Tb W0 wr na nb (na+1) (fT L na nb i 0))
   case atStart=>exact⟨0,Nat.zero_le _,rfl,rfl,hT⟩
   case round=>
    obtain⟨i,hi,rfl,rfl,hI⟩:=hrel
    by_cases hlt:i<na
    ·obtain⟨p,rfl⟩:∃p,na=p+i+1:=⟨na-i-1,by omega⟩
     have i0:(i:Int)<(p:Int)+(i:Int)+1:=by omega
     go_wp2
     go_loopg [8,38] nb (fun g s8 s38 wr=>∃c:Nat,c≤nb∧g=nb-c∧s38=.int .i64 c∧Tb W0 wr (p+i+1) nb (p+i+1+1) (fT L (p+i+1) nb i c))
     case atStart=>exact⟨0,Nat.zero_le _,rfl,rfl,hI⟩
     case round=>
      obtain⟨c,hc,rfl,rfl,hJ⟩:=hrel
      clear hI hT
      by_cases hltc:c<nb
      ·obtain⟨k,rfl⟩:∃k,nb=k+c+1:=⟨nb-c-1,by omega⟩
       have c0:(c:Int)<(k:Int)+(c:Int)+1:=by omega
       have hba:ba<W0.heap.size:=World.block_lt_of_cell? _ _ (hca p 0 (by omega) (by decide))
       have hbb':bb<W0.heap.size:=World.block_lt_of_cell? _ _ (hcb k 0 (by omega) (by decide))
       obtain rfl:=haa (by omega)
       obtain rfl:=hbb (by omega)
       have hca':∀j,j<7→wr.cell? ⟨ba,oa+p*7+j,none⟩=some (ca p j):=fun j hj=>by rw[hJ.since.cell (a:=⟨ba,oa+p*7+j,none⟩) hba,Nat.add_assoc];exact hca p j (by omega) hj
       have hcb':∀j,j<7→wr.cell? ⟨bb,ob+k*7+j,none⟩=some (cb k j):=fun j hj=>by rw[hJ.since.cell (a:=⟨bb,ob+k*7+j,none⟩) hbb',Nat.add_assoc];exact hcb k j (by omega) hj
       have a0:wr.cell? ⟨ba,oa+p*7,none⟩=some (ca p 0):=hca' 0 (by decide)
       have a1:wr.cell? ⟨ba,oa+p*7+1,none⟩=some (ca p 1):=hca' 1 (by decide)
       have a2:wr.cell? ⟨ba,oa+p*7+2,none⟩=some (ca p 2):=hca' 2 (by decide)
       have a3:wr.cell? ⟨ba,oa+p*7+3,none⟩=some (ca p 3):=hca' 3 (by decide)
       have a4:wr.cell? ⟨ba,oa+p*7+4,none⟩=some (ca p 4):=hca' 4 (by decide)
       have a5:wr.cell? ⟨ba,oa+p*7+5,none⟩=some (ca p 5):=hca' 5 (by decide)
       have a6:wr.cell? ⟨ba,oa+p*7+6,none⟩=some (ca p 6):=hca' 6 (by decide)
       have b0:wr.cell? ⟨bb,ob+k*7,none⟩=some (cb k 0):=hcb' 0 (by decide)
       have b1:wr.cell? ⟨bb,ob+k*7+1,none⟩=some (cb k 1):=hcb' 1 (by decide)
       have b2:wr.cell? ⟨bb,ob+k*7+2,none⟩=some (cb k 2):=hcb' 2 (by decide)
       have b3:wr.cell? ⟨bb,ob+k*7+3,none⟩=some (cb k 3):=hcb' 3 (by decide)
       have b4:wr.cell? ⟨bb,ob+k*7+4,none⟩=some (cb k 4):=hcb' 4 (by decide)
       have b5:wr.cell? ⟨bb,ob+k*7+5,none⟩=some (cb k 5):=hcb' 5 (by decide)
       have b6:wr.cell? ⟨bb,ob+k*7+6,none⟩=some (cb k 6):=hcb' 6 (by decide)
       have hk:∀W2:World,wr.drew.Since wr.drew.heap.size W2→W2.cell? ⟨ba,oa+p*7,none⟩=some (ca p 0)∧W2.cell? ⟨ba,oa+p*7+1,none⟩=some (ca p 1)∧W2.cell? ⟨ba,oa+p*7+2,none⟩=some (ca p 2)∧W2.cell? ⟨ba,oa+p*7+3,none⟩=some (ca p 3)∧W2.cell? ⟨ba,oa+p*7+4,none⟩=some (ca p 4)∧W2.cell? ⟨ba,oa+p*7+5,none⟩=some (ca p 5)∧W2.cell? ⟨ba,oa+p*7+6,none⟩=some (ca p 6)∧W2.cell? ⟨bb,ob+k*7,none⟩=some (cb k 0)∧W2.cell? ⟨bb,ob+k*7+1,none⟩=some (cb k 1)∧W2.cell? ⟨bb,ob+k*7+2,none⟩=some (cb k 2)∧W2.cell? ⟨bb,ob+k*7+3,none⟩=some (cb k 3)∧W2.cell? ⟨bb,ob+k*7+4,none⟩=some (cb k 4)∧W2.cell? ⟨bb,ob+k*7+5,none⟩=some (cb k 5)∧W2.cell? ⟨bb,ob+k*7+6,none⟩=some (cb k 6):=fun W2 h2=>by
        have hsz:=hJ.since.size
        refine⟨?_,?_,?_,?_,?_,?_,?_,?_,?_,?_,?_,?_,?_,?_⟩
        all_goals(rw[h2.cell (by show _<wr.heap.size;dsimp only;omega)];assumption)
       have hq:=hE p k wr.drew (by omega) (by omega) hJ.since.drew
       unfold Fy at hq
       clear hca hcb hca' hcb' hE
       have i1:(p:Int)<(p:Int)+(i:Int)+1:=by omega
       have i2:(k:Int)<(k:Int)+(c:Int)+1:=by omega
       go_wp2
       go_region_held3 (fun w'=>w'.cell? ⟨ba,oa+p*7,none⟩=some (ca p 0)∧w'.cell? ⟨ba,oa+p*7+1,none⟩=some (ca p 1)∧w'.cell? ⟨ba,oa+p*7+2,none⟩=some (ca p 2)∧w'.cell? ⟨ba,oa+p*7+3,none⟩=some (ca p 3)∧w'.cell? ⟨ba,oa+p*7+4,none⟩=some (ca p 4)∧w'.cell? ⟨ba,oa+p*7+5,none⟩=some (ca p 5)∧w'.cell? ⟨ba,oa+p*7+6,none⟩=some (ca p 6)∧w'.cell? ⟨bb,ob+k*7,none⟩=some (cb k 0)∧w'.cell? ⟨bb,ob+k*7+1,none⟩=some (cb k 1)∧w'.cell? ⟨bb,ob+k*7+2,none⟩=some (cb k 2)∧w'.cell? ⟨bb,ob+k*7+3,none⟩=some (cb k 3)∧w'.cell? ⟨bb,ob+k*7+4,none⟩=some (cb k 4)∧w'.cell? ⟨bb,ob+k*7+5,none⟩=some (cb k 5)∧w'.cell? ⟨bb,ob+k*7+6,none⟩=some (cb k 6)) (go_keep)
        (first|(go_at_call 18;refine hq.mono ?_;rintro e W2 ⟨rfl,hb2⟩;obtain⟨k0,k1,k2,k3,k4,k5,k6,k7,k8,k9,k10,k11,k12,k13⟩:=hk W2 hb2))
       have hJ2:=hJ.draw.mono hb2
       clear hk hb2 hJ a0 b0 k0 k7 a1 b1 k1 k8 a2 b2 k2 k9 a3 b3 k3 k10 a4 b4 k4 k11 a5 b5 k5 k12 a6 b6 k6 k13
       have r0:W2.cell? ⟨W0.heap.size,p,none⟩=some (.slice (some ⟨W0.heap.size+1+p,0,none⟩) (k+c+1+1) (k+c+1+1)):=by rw[hJ2.top.cell (by omega),if_pos (by omega)]
       have r1:W2.cell? ⟨W0.heap.size,p+1,none⟩=some (.slice (some ⟨W0.heap.size+1+(p+1),0,none⟩) (k+c+1+1) (k+c+1+1)):=by rw[hJ2.top.cell (by omega),if_pos (by omega)]
       have r2:W2.cell? ⟨W0.heap.size+1+(p+1),k+1,none⟩=some (.int .i64 (L (p+1) (k+1))):=by
        rw[(hJ2.row (p+1) (by omega)).cell (by omega)]
        unfold fT;rw[if_pos (by omega)]
       have r3:W2.cell? ⟨W0.heap.size+1+(p+1),k,none⟩=some (.int .i64 (L (p+1) k)):=by
        rw[(hJ2.row (p+1) (by omega)).cell (by omega)]
        unfold fT;rw[if_pos (by omega)]
       have r4:W2.cell? ⟨W0.heap.size+1+p,k+1,none⟩=some (.int .i64 (L p (k+1))):=by
        rw[(hJ2.row p (by omega)).cell (by omega)]
        unfold fT;rw[if_pos (by omega)]
       have r5:W2.cell? ⟨W0.heap.size+1+p,k,none⟩=some (.int .i64 (fT L (p+i+1) (k+c+1) i c p k)):=(hJ2.row p (by omega)).cell (by omega)
       have r6:W2.frozen? ⟨W0.heap.size+1+p,k,none⟩=false:=(hJ2.row p (by omega)).frozen k
       have j1:(p:Int)<(p:Int)+(i:Int)+1+1:=by omega
       have j2:(p:Int)+1<(p:Int)+(i:Int)+1+1:=by omega
       have j3:(k:Int)<(k:Int)+(c:Int)+1+1:=by omega
       have j4:(k:Int)+1<(k:Int)+(c:Int)+1+1:=by omega
       have w1:IntKind.i64.wrap ((p:Int)+1)=(p:Int)+1:=IntWalk.i64_in _ (by omega)
       have w2:IntKind.i64.wrap ((k:Int)+1)=(k:Int)+1:=IntWalk.i64_in _ (by omega)
       have b1:=hLb (p+1) (k+1)
       have w3:IntKind.i64.wrap ((L (p+1) (k+1):Int)+1)=(L (p+1) (k+1):Int)+1:=IntWalk.i64_in _ (by omega)
       have n1:(((p:Int)+1).toNat)=p+1:=by omega
       have n2:(((k:Int)+1).toNat)=k+1:=by omega
       have z1:(0:Int)≤(p:Int)+1:=by omega
       have z2:(0:Int)≤(k:Int)+1:=by omega
       cases hqk:q p k
       ·rcases Int.lt_or_le (L (p+1) k:Int) (L p (k+1):Int)with hd1|hd1
        ·have hmx:max (L (p+1) k:Int) (L p (k+1):Int)=(L p (k+1):Int):=by omega
         go_wp2
         go_region
         go_wp2
         go_roundg (k+c+1-(c+1))
         case measure=>omega
         case rel=>
          have hv:=hL p k (by omega) (by omega)
          rw[hqk]at hv
          refine⟨c+1,by omega,rfl,by go_num,((hJ2.put p k (by omega) (L p (k+1))).draw).congr fun j t hj ht=>?_⟩
          clear w1 w2 w3 n1 n2
          unfold fT
          by_cases e:j=p∧t=k
          ·rw[if_pos e,if_pos (by omega)]
           obtain⟨rfl,rfl⟩:=e
           simp only[Bool.false_eq_true,if_true,if_false]at hv
           omega
          ·rw[if_neg e]
           by_cases h1:p+i+1≤j+i∨j+i+1=p+i+1∧k+c+1≤t+c
           ·rw[if_pos h1,if_pos (by omega)]
           ·rw[if_neg h1,if_neg (by omega)]
        ·have hd2:¬(L (p+1) k:Int)<(L p (k+1):Int):=by omega
         have hmx:max (L (p+1) k:Int) (L p (k+1):Int)=(L (p+1) k:Int):=by omega
         go_wp2
         go_region
         go_wp2
         go_roundg (k+c+1-(c+1))
         case measure=>omega
         case rel=>
          have hv:=hL p k (by omega) (by omega)
          rw[hqk]at hv
          refine⟨c+1,by omega,rfl,by go_num,((hJ2.put p k (by omega) (L (p+1) k)).draw).congr fun j t hj ht=>?_⟩
          clear w1 w2 w3 n1 n2
          unfold fT
          by_cases e:j=p∧t=k
          ·rw[if_pos e,if_pos (by omega)]
           obtain⟨rfl,rfl⟩:=e
           simp only[Bool.false_eq_true,if_true,if_false]at hv
           omega
          ·rw[if_neg e]
           by_cases h1:p+i+1≤j+i∨j+i+1=p+i+1∧k+c+1≤t+c
           ·rw[if_pos h1,if_pos (by omega)]
           ·rw[if_neg h1,if_neg (by omega)]
       ·go_wp2
        go_region
        go_wp2
        go_roundg (k+c+1-(c+1))
        case measure=>omega
        case rel=>
         have hv:=hL p k (by omega) (by omega)
         rw[hqk]at hv
         refine⟨c+1,by omega,rfl,by go_num,((hJ2.put p k (by omega) ((L (p+1) (k+1):Int)+1)).draw).congr fun j t hj ht=>?_⟩
         clear w1 w2 w3 n1 n2
         unfold fT
         by_cases e:j=p∧t=k
         ·rw[if_pos e,if_pos (by omega)]
          obtain⟨rfl,rfl⟩:=e
          simp only[Bool.false_eq_true,if_true,if_false]at hv
          omega
         ·rw[if_neg e]
          by_cases h1:p+i+1≤j+i∨j+i+1=p+i+1∧k+c+1≤t+c
          ·rw[if_pos h1,if_pos (by omega)]
          ·rw[if_neg h1,if_neg (by omega)]
      ·obtain rfl:c=nb:=by omega
       go_wp2
       go_roundg (p+i+1-(i+1))
       case measure=>omega
       case rel=>
        refine⟨i+1,by omega,rfl,by go_num,hJ.congr fun j t hj ht=>?_⟩
        unfold fT
        by_cases h1:p+i+1≤j+(i+1)
        ·rw[if_pos (by omega),if_pos (.inl h1)]
        ·rw[if_neg (by omega)]
         split
         ·rw[hL2 _ _ (by omega)];rfl
         ·rfl
    ·obtain rfl:i=na:=by omega
     go_wp2
     go_ret
     refine⟨rfl,hI.congr fun j k hj hk=>?_⟩
     unfold fT
     rw[if_pos (by omega)]
end Go.Proofs.YtifefgdogdecnaaGreatDoor
namespace Go.Eng
set_option linter.all false
section
variable {α β:Type} (q:α→β→Bool)
def Zm(p:β→Bool)(f:List β→Nat):List β→Nat
 |[]=>0
 |y::ys=>if p y then f ys+1 else Nat.max (f (y::ys)) (Zm p f ys)
def AK:List α→List β→Nat
 |[]=>fun _=>0
 |x::xs=>Zm (q x) (AK xs)
theorem EI(a:List α):AK q a []=0:=by cases a<;>rfl
theorem GJ(b:List β):AK q [] b=0:=rfl
theorem D7(x:α)(xs:List α)(y:β)(ys:List β):AK q (x::xs) (y::ys)=if q x y then AK q xs ys+1 else Nat.max (AK q xs (y::ys)) (AK q (x::xs) ys):=rfl
theorem L3(a b:Nat):Nat.max a b=if a≤b then b else a:=by
 show max a b=_
 rw[Nat.max_def]
theorem LJ:∀(n:Nat) (a:List α) (b:List β),a.length+b.length≤n→(∀x,AK q a b≤AK q (x::a) b∧AK q (x::a) b≤AK q a b+1)∧(∀y,AK q a b≤AK q a (y::b)∧AK q a (y::b)≤AK q a b+1)
 |0,a,b,h=>by
  have d:a=[]:=Rj.1 (by omega)
  have e:b=[]:=Rj.1 (by omega)
  subst d e
  simp[EI,GJ]
 |n+1,a,b,h=>by
  constructor
  ·intro x
   cases b with
   |nil=>simp[EI]
   |cons y ys=>
    have c:=LJ n a ys (by simp at h;omega)
    have f:=(c.2 y).1
    have g:=(c.2 y).2
    have i:=(c.1 x).1
    have j:=(c.1 x).2
    rw[D7,L3]
    split
    ·omega
    ·split<;>omega
  ·intro y
   cases a with
   |nil=>simp[GJ]
   |cons x xs=>
    have c:=LJ n xs b (by simp at h;omega)
    have f:=(c.2 y).1
    have g:=(c.2 y).2
    have i:=(c.1 x).1
    have j:=(c.1 x).2
    rw[D7,L3]
    split
    ·omega
    ·split<;>omega
theorem Ks{p:α→β→Bool}:∀{a:List α} {b:List β},(∀x∈a,∀y∈b,q x y=p x y)→AK q a b=AK p a b
 |[],b,_=>rfl
 |x::xs,[],_=>by rw[EI,EI]
 |x::xs,y::ys,h=>by
  rw[D7,D7,h x (YH ..) y (YH ..),Ks (a:=xs) (b:=ys) fun u c v d=>h u (Yy _ c) v (Yy _ d),Ks (a:=xs) (b:=y::ys) fun u c v d=>h u (Yy _ c) v d,Ks (a:=x::xs) (b:=ys) fun u c v d=>h u c v (Yy _ d)]
termination_by a b=>a.length+b.length
inductive Mt:Nat→List α→List β→Prop
 |z (a:List α) (b:List β):Mt 0 a b
 |c {x y n a b}:q x y=true→Mt n a b→Mt (n+1) (x::a) (y::b)
 |l {x n a b}:Mt n a b→Mt n (x::a) b
 |r {y n a b}:Mt n a b→Mt n a (y::b)
theorem Mt.le{n:Nat}{a:List α}{b:List β}(h:Mt q n a b):n≤AK q a b:=by
 induction h with
 |z=>exact YT _
 |c h _ d=>rw[D7,Yj h];omega
 |@l x n a b _ d=>exact Y2 d ((LJ q _ a b (Ye _)).1 x).1
 |@r y n a b _ d=>exact Y2 d ((LJ q _ a b (Ye _)).2 y).1
theorem Mt.lcs:∀(a:List α) (b:List β),Mt q (AK q a b) a b
 |[],b=>by rw[GJ];exact .z _ _
 |x::xs,[]=>by rw[EI];exact .z _ _
 |x::xs,y::ys=>by
  rw[D7,L3]
  split
  ·rename_i h;exact .c h (Mt.lcs xs ys)
  ·split
   ·exact .r (Mt.lcs (x::xs) ys)
   ·exact .l (Mt.lcs xs (y::ys))
termination_by a b=>a.length+b.length
theorem Mt.len{n:Nat}{a:List α}{b:List β}(h:Mt q n a b):n≤a.length:=by
 induction h with
 |z=>exact YT _
 |c _ _ d=>simp only[Y7];omega
 |l _ d=>simp only[Y7];omega
 |r _ d=>exact d
theorem Mt.ll{n:Nat}{a:List α}{b:List β}(h:Mt q n a b):∀e:List α,Mt q n (e++a) b
 |[]=>h
 |_::e=>.l (Mt.ll h e)
theorem Mt.rr{n:Nat}{a:List α}{b:List β}(h:Mt q n a b):∀e:List β,Mt q n a (e++b)
 |[]=>h
 |_::e=>.r (Mt.rr h e)
theorem Mt.app{n m:Nat}{a c:List α}{b d:List β}(h:Mt q n a b)(k:Mt q m c d):Mt q (n+m) (a++c) (b++d):=by
 induction h with
 |z a b=>rw[YL];exact(k.ll q a).rr q b
 |c h _ e=>rw[Nat.add_right_comm];exact .c h e
 |l _ e=>exact .l e
 |r _ e=>exact .r e
theorem Mt.rev{n:Nat}{a:List α}{b:List β}(h:Mt q n a b):Mt q n a.reverse b.reverse:=by
 induction h with
 |z=>exact .z _ _
 |c h _ d=>rw[J8,J8];exact d.app q (.c h (.z [] []))
 |l _ d=>rw[J8];exact d.app q (.l (.z [] [])) |> fun h=>by simpa using h
 |r _ d=>rw[J8];exact d.app q (.r (.z [] [])) |> fun h=>by simpa using h
theorem gt(a:List α)(b:List β):AK q a.reverse b.reverse=AK q a b:=
 Nat.le_antisymm (by have:=(Mt.lcs q a.reverse b.reverse).rev q;rw[List.reverse_reverse,List.reverse_reverse]at this;exact this.le q) ((Mt.lcs q a b).rev q |>.le q)
def Be(i k:Nat):List α→List β→List (Nat×Nat)
 |x::xs,y::ys=>if q x y then(i,k)::Be (i+1) (k+1) xs ys else if AK q (x::xs) ys≤AK q xs (y::ys)then Be (i+1) k xs (y::ys)else Be i (k+1) (x::xs) ys
 |_,_=>[]
termination_by a b=>a.length+b.length
theorem Lr(i k:Nat)(x:α)(xs:List α)(y:β)(ys:List β):Be q i k (x::xs) (y::ys)=if q x y then(i,k)::Be q (i+1) (k+1) xs ys else if AK q (x::xs) ys≤AK q xs (y::ys)then Be q (i+1) k xs (y::ys)else Be q i (k+1) (x::xs) ys:=by rw[Be]
theorem LK(i k:Nat)(a:List α):Be q i k a []=[]:=by cases a<;>simp[Be]
theorem LD(i k:Nat)(b:List β):Be q i k [] b=[]:=by simp[Be]
theorem IY:∀(i k:Nat) (a:List α) (b:List β),(Be q i k a b).length=AK q a b
 |i,k,[],b=>by rw[LD,GJ];rfl
 |i,k,x::xs,[]=>by rw[LK,EI];rfl
 |i,k,x::xs,y::ys=>by
  rw[Lr,D7,L3]
  split
  ·rw[Y7,IY]
  ·split
   ·rw[IY];split<;>omega
   ·rw[IY];split<;>omega
termination_by _ _ a b=>a.length+b.length
def GE(a:List α)(b:List β):Nat→Nat→List (Nat×Nat)→Prop
 |_,_,[]=>True
 |i,k,(u,v)::l=>i≤u∧k≤v∧(∃x y,a[u]?=some x∧b[v]?=some y∧q x y=true)∧GE a b (u+1) (v+1) l
theorem GE.mono{a:List α}{b:List β}:∀{i c k k':Nat} {l:List (Nat×Nat)},GE q a b i k l→c≤i→k'≤k→GE q a b c k' l
 |_,_,_,_,[],_,_,_=>trivial
 |_,_,_,_,(u,v)::l,h,d,e=>⟨Y2 d h.1,Y2 e h.2.1,h.2.2⟩
theorem Le(a:List α)(b:List β):∀(i k:Nat) (c:List α) (d:List β),a.drop i=c→b.drop k=d→GE q a b i k (Be q i k c d)
 |i,k,[],b,_,_=>by rw[LD];trivial
 |i,k,x::xs,[],_,_=>by rw[LK];trivial
 |i,k,x::xs,y::ys,e,f=>by
  have g:a.drop (i+1)=xs:=by rw[←Kg,e];rfl
  have j:b.drop (k+1)=ys:=by rw[←Kg,f];rfl
  have m:a[i]?=some x:=by
   have:=congrArg (fun l:List α=>l[0]?) e
   simpa[YR]using this
  have n:b[k]?=some y:=by
   have:=congrArg (fun l:List β=>l[0]?) f
   simpa[YR]using this
  rw[Lr]
  split
  ·rename_i h
   exact⟨Ye _,Ye _,⟨x,y,m,n,h⟩,Le a b _ _ xs ys g j⟩
  ·split
   ·exact(Le a b _ _ xs (y::ys) g f).mono q (by omega) (Ye _)
   ·exact(Le a b _ _ (x::xs) ys e j).mono q (Ye _) (by omega)
termination_by _ _ c d=>c.length+d.length
end
end Go.Eng
namespace Go.Proofs.YtifefgdogdecnaaGreatDoor
set_option linter.all false
open Go Go.RowKit Go.Eng
theorem Ok.since{l:Nat}{H:Hp}{m:Mu}{S:Nat→Prop}{w w':World}(h:Ok l H m S w)(c:w.Since w.heap.size w'):Ok l H m (fun b=>S b∨(w.heap.size≤b∧b<w'.heap.size)) w'∧Ext l H m S w H m (fun b=>S b∨(w.heap.size≤b∧b<w'.heap.size)) w':=by
 have e:∀q:Aa,q.1≤l→(H q).live=true→(m q).cap≠0→(m q).b<w.heap.size:=fun q d hl j=>by
  obtain⟨C,c,_⟩:=h.blk q d hl j
  grind
 have a:Ext l H m S w H m (fun b=>S b∨(w.heap.size≤b∧b<w'.heap.size)) w':=⟨fun _ h=>.inl h,fun b hs=>c.block b (h.sub b hs),fun _ _=>Ye _,fun _ _ _ h=>⟨h,rfl,rfl⟩,c.os,c.tape,c.output,c.size⟩
 refine⟨⟨fun b hs=>?_,h.empty,fun q d hl f hs=>?_,h.inj,fun q d hl f=>?_,h.mp.step (Ye _) (fun _ _ g _=>⟨g,rfl,rfl⟩) (fun _ h=>.inl h) (fun _ h=>h.elim .inl fun h=>.inr (.inl h.1)) a.blk (fun b o n _=>(c.block b (Gp n)).trans n)⟩,a⟩
 ·rcases hs with hs|hs
  ·exact Hf (h.sub b hs) c.size
  ·exact hs.2
 ·rcases hs with hs|hs
  ·exact h.fresh q d hl f hs
  ·exact absurd (e q d hl f) (by omega)
 ·obtain⟨C,p,hs,k,hx⟩:=h.blk q d hl f
  exact⟨C,(c.block _ (e q d hl f)).trans p,hs,k,fun i x v hi g=>⟨(hx i x v hi g).1,(hx i x v hi g).2.ext a d⟩⟩
def dH:Hp:=fun _=>⟨0,false,0,0,[]⟩
theorem ZF{W:World}(m:Mu):Ok 0 dH m (· <W.heap.size) W:=⟨fun _ h=>h,fun _ _ h=>(by cases h),fun _ _ h=>(by cases h),fun _ _ _ _ h=>(by cases h),fun _ _ h=>(by cases h),⟨fun _ _ h=>(by cases h),fun _ _ h=>(by cases h),fun _ _ _ _ h=>(by cases h)⟩⟩
def P9(w:World)(S:Nat→Prop)(Hp:Hp)(m:Mu)(l:Nat):List AV→List Value→Prop
 |[],[]=>True
 |x::xs,v::vs=>RepA w S Hp m l x v∧P9 w S Hp m l xs vs
 |_,_=>False
theorem Pv{w:World}{S:Nat→Prop}{Hp:Hp}{m:Mu}{l:Nat}:∀{xs:List AV} {vs:List Value},P9 w S Hp m l xs vs→Gx w S Hp m l xs vs.toArray
 |[],[],_=>⟨rfl,fun i x v h=>by simp at h⟩
 |x::xs,v::vs,h=>by
  obtain⟨b,c⟩:=Pv h.2
  refine⟨by simpa using b,fun i y u hy a=>?_⟩
  cases i with
  |zero=>simp at hy a;subst hy;subst a;exact h.1
  |succ i=>exact c i y u (by simpa using hy) (by simpa using a)
 |[],_::_,h=>h.elim
 |_::_,[],h=>h.elim
theorem KQ(x:Val):(Af x).length=7:=by cases x;rfl
theorem UQ{w:World}{S:Nat→Prop}{xs:List Val}{v:Value}(h:RepD w S (.list (xs.map Af)) v):
  ∃b o c,Els w v xs.length b o c∧∀(i j:Nat) (x:Val) (d:D),xs[i]?=some x→(Af x)[j]?=some d→RepD w S d (c i j):=by
 generalize g:xs.map Af=A at h
 cases h with
 |nil=>
  have:xs=[]:=Nk.1 g
  subst this
  exact⟨0,0,fun _ _=>.nilFunc,⟨⟨0,.inr ⟨rfl,none,rfl⟩⟩,fun i j hi _=>absurd hi (Er _)⟩,fun i j x d hx _=>by simp at hx⟩
 |list _ a sz cap c B s p u z=>
  subst g
  cases xs with
  |nil=>exact⟨0,0,fun _ _=>.nilFunc,⟨⟨cap,.inr ⟨rfl,some a,rfl⟩⟩,fun i j hi _=>absurd hi (Er _)⟩,fun i j x d hx _=>by simp at hx⟩
  |cons l r=>
   have k:sz=7:=by
    have:=p (Af l) (YH ..)
    rw[KQ]at this;exact this.symm
   subst k
   have e:∀(i j:Nat) (x:Val),(l::r)[i]?=some x→j<7→w.cell? (a.add (i*7+j))=some (c i j):=fun i j x hx m=>by
    have hl:j<(Af x).length:=by rw[KQ];exact m
    exact u i j (Af x) ((Af x)[j]) (by rw[Yt,hx];rfl) (Yb hl)
   have t:a.spot=none:=by
    have:=e 0 0 l rfl (by decide)
    rw[show a.add (0*7+0)=a from rfl]at this
    unfold World.cell? at this
    cases f:w.heap[a.block]? with
    |none=>rw[f]at this;cases this
    |some o=>
     rw[f]at this
     cases o<;>simp at this
     cases n:a.spot with
     |none=>rfl
     |some q=>
      rw[n]at this
      simp at this
   obtain⟨bk,o,C⟩:=a
   cases t
   refine⟨bk,o,c,⟨⟨cap,.inl ⟨by simp,by rw[YF]⟩⟩,fun i j hi m=>?_⟩,fun i j x d hx y=>z i j _ d (by rw[Yt,hx];rfl) y⟩
   have:=e i j ((l::r)[i]) (Yb hi) m
   unfold Addr.add at this
   split at this
   ·rename_i h;rw[show i*7+j=0 from h];exact this
   ·exact this
def ER(e:Val→Val→Option Bool)(a b:List Val):List (List Int):=
 (List.range (a.length+1)).map fun j=>(List.range (b.length+1)).map fun k=>(AK (fun x y=>e x y==some true) (a.drop j) (b.drop k):Int)
def L5(e:Val→Val→Option Bool)(a b:List Val):Option (List (List Int)):=
 if a.length≤4096∧b.length≤4096∧(∀x∈a,∀y∈b,(e x y).isSome=true)then some (ER e a b)else none
theorem Lj{α β:Type}(q:α→β→Bool)(a:List α)(b:List β):AK q a b≤a.length:=by
 exact(Mt.lcs q a b).len q
theorem Vr(b k:Nat):(⟨b,0,none⟩:Addr).add (k*1+0)=⟨b,k,none⟩:=by
 rw[Nat.mul_one,Dw]
 unfold Addr.add
 split
 ·rename_i h;rw[h]
 ·simp
theorem ep{e:Val→Val→Option Bool}(A:∀x y,KC Tryz.prog 18 [.agg ((Ac x).map .d),.agg ((Ac y).map .d)] (e x y) (fun b=>.d (.bool b))){S:Nat→Prop}{f W:World}(s:∀b,S b→b<f.heap.size)(u:f.Since f.heap.size W)
  {x y:Val} {b:Bool} (he:e x y=some b) {ca n:Nat→Nat→Value} {j k:Nat} (hx:∀(t:Nat) (d:D),(Af x)[t]?=some d→RepD f S d (ca j t)) (hy:∀(t:Nat) (d:D),(Af y)[t]?=some d→RepD f S d (n k t)):
  Calls Tryz.prog 18 #[Fy ca j,Fy n k] W fun e p=>e=.returned (.bool b)∧W.Since W.heap.size p:=by
 have o:∀b,S b→b<W.heap.size:=fun b h=>Hf (s b h) u.size
 have up:∀(x:Val) (c:Nat→Nat→Value) (j:Nat),(∀(t:Nat) (d:D),(Af x)[t]?=some d→RepD f S d (c j t))→∀l m,RepA W (· <W.heap.size) dH m l (.agg ((Ac x).map .d)) (Fy c j):=fun x c j h l m=>by
  rw[←Cz]
  have q:∀(t:Nat) (d:D),(Af x)[t]?=some d→RepD W (· <W.heap.size) d (c j t):=fun t d G=>(h t d G).mono o (fun b B=>u.block b (s b B))
  have g:∀(i:Nat) (v:Value),(#[c j 0,c j 1,c j 2,c j 3,c j 4,c j 5,c j 6]:Array Value)[i]?=some v→i<7∧v=c j i:=fun i v g=>by
   have hi:i<7:=(Yz.1 g).1
   refine⟨hi,?_⟩
   match i,hi with
   |0,_|1,_|2,_|3,_|4,_|5,_|6,_=>cases g;rfl
  refine .agg _ _ (by rw[YF,KQ];rfl) (fun i v a=>?_) (fun i z v w a=>?_)
  ·obtain⟨hi,rfl⟩:=g i v a
   exact(q i _ (Yb (by rw[KQ];exact hi))).one
  ·obtain⟨hi,rfl⟩:=g i v a
   rw[Yt]at w
   obtain⟨d,C,rfl⟩:=YS.1 w
   exact .d _ _ (q i d C)
 refine(((A x y).k 0 dH b he).2 (fun _=>⟨0,0,0⟩) (· <W.heap.size) W #[Fy ca j,Fy n k] (ZF _) (Pv ⟨up x ca j hx _ _,up y n k hy _ _,trivial⟩)).mono ?_
 rintro e p ⟨r,v,H,K,I,rfl,⟨rfl,rfl⟩,J,F,hx⟩
 cases F with
 |d _ _ h=>cases h;exact⟨rfl,hx.os,hx.tape,hx.output,hx.size,fun k E=>hx.blk k E⟩
set_option maxHeartbeats 1000000 in
theorem jK{e:Val→Val→Option Bool}(hE:∀x y,KC Tryz.prog 18 [.agg ((Ac x).map .d),.agg ((Ac y).map .d)] (e x y) (fun b=>.d (.bool b)))(a b:List Val):KC Tryz.prog 17 [vL Af a,vL Af b] (L5 e a b) (fun y=>vL EH y):=
 ⟨fun l H y hy=>by
  obtain⟨⟨hna,hnb,hall⟩,hy⟩:=Bt hy
  cases hy
  refine⟨⟨_,AB Tryz.f17,Tryz.func17,by kernel_rfl,by kernel_rfl⟩,fun m S w vs hO hA=>?_⟩
  obtain⟨hs,hr⟩:=hA
  obtain⟨l'⟩:=vs
  match l',hs,hr with
  |[v0,v1],_,hr=>
   have h0:=hr 0 _ v0 rfl rfl
   have h1:=hr 1 _ v1 rfl rfl
   cases h0 with
   |d _ _ h0=>cases h1 with
    |d _ _ h1=>
     obtain⟨ba,oa,ca,hea,hca⟩:=UQ h0
     obtain⟨bb,ob,cb,heb,hcb⟩:=UQ h1
     let q:Val→Val→Bool:=fun x y=>e x y==some true
     let qn:Nat→Nat→Bool:=fun j k=>match a[j]?,b[k]? with|some x,some y=>q x y|_,_=>false
     let L:Nat→Nat→Nat:=fun j k=>AK q (a.drop j) (b.drop k)
     have hL:∀j k,j<a.length→k<b.length→L j k=if qn j k then L (j+1) (k+1)+1 else max (L (j+1) k) (L j (k+1)):=fun j k hj hk=>by
      show AK q (a.drop j) (b.drop k)=_
      rw[YN hj,YN hk,D7]
      show _=if(match a[j]?,b[k]? with|some x,some y=>q x y|_,_=>false)=true then AK q (a.drop (j+1)) (b.drop (k+1))+1 else max (AK q (a.drop (j+1)) (b.drop k)) (AK q (a.drop j) (b.drop (k+1)))
      rw[Yb hj,Yb hk,YN hj,YN hk]
     have key:=cJ qn L a.length b.length hna hnb hL (fun j k h=>by show AK q (a.drop j) _=0;rw[Fh h,GJ]) (fun j k h=>by show AK q _ (b.drop k)=0;rw[Fh h,EI])
      (fun j k=>Y2 (Lj q (a.drop j) (b.drop k)) (by rw[Es];omega)) v0 v1 ba oa bb ob ca cb w hea heb (fun j k W hj hk hW=>by
       have hs1:=hall a[j] (G7 hj) b[k] (G7 hk)
       have he:e a[j] b[k]=some (qn j k):=by
        obtain⟨z,hz⟩:=YM.1 hs1
        show _=some (match a[j]?,b[k]? with|some x,some y=>q x y|_,_=>false)
        rw[Yb hj,Yb hk]
        show _=some (e a[j] b[k]==some true)
        rw[hz];cases z<;>rfl
       exact ep hE hO.sub hW he (fun t d ht=>hca j t _ d (Yb hj) ht) (fun t d ht=>hcb k t _ d (Yb hk) ht))
     refine key.mono fun en w' ⟨h1,hT⟩=>?_
     obtain⟨k1,k2⟩:=Ok.since hO hT.since
     refine⟨_,_,H,m,_,h1,⟨rfl,rfl⟩,k1,?_,k2⟩
     refine .d _ _ ?_
     have hn:(ER e a b).length=a.length+1:=by simp[ER]
     have hin:∀j,j<a.length+1→S (w.heap.size+1+j)∨(w.heap.size≤w.heap.size+1+j∧w.heap.size+1+j<w'.heap.size):=fun j hj=>.inr ⟨by omega,(hT.row j hj).lt⟩
     have hg:∀(i:Nat) (r:List Int),(ER e a b)[i]?=some r→i<a.length+1∧r=(List.range (b.length+1)).map fun k=>(L i k:Int):=fun i r hi=>by
      have hlt:i<a.length+1:=by rw[←hn];exact(Yk.1 hi).1
      refine⟨hlt,?_⟩
      unfold ER at hi
      rw[Yt,J6 hlt]at hi
      exact(Eu hi).symm
     have:=RepD.list (w:=w') (S:=fun b=>S b∨(w.heap.size≤b∧b<w'.heap.size)) ((ER e a b).map EH) ⟨w.heap.size,0,none⟩ 1 (a.length+1) (fun i _=>.slice (some ⟨w.heap.size+1+i,0,none⟩) (b.length+1) (b.length+1))
      (fun _=>.inr ⟨Ye _,hT.top.lt⟩) (by rw[YF,hn];exact Ye _) (fun z hz=>by obtain⟨r,_,rfl⟩:=YO.1 hz;rfl)
      (fun i j z x hi hj=>by
       rw[Yt]at hi
       obtain⟨r,hi2,rfl⟩:=YS.1 hi
       obtain⟨hlt,rfl⟩:=hg i r hi2
       have hj0:j=0:=by
        have:=(Yk.1 hj).1
        simp[EH]at this;exact this
       subst hj0
       have:=hT.top.cell hlt
       rw[Yj hlt]at this
       rw[←this,Vr])
      (fun i j z x hi hj=>by
       rw[Yt]at hi
       obtain⟨r,hi2,rfl⟩:=YS.1 hi
       obtain⟨hlt,rfl⟩:=hg i r hi2
       have hj0:j=0:=by
        have:=(Yk.1 hj).1
        simp[EH]at this;exact this
       subst hj0
       cases hj
       have hm:(((List.range (b.length+1)).map fun k=>(L i k:Int)).map A8).length=b.length+1:=by simp
       have:=RepD.list (w:=w') (S:=fun b=>S b∨(w.heap.size≤b∧b<w'.heap.size)) (((List.range (b.length+1)).map fun k=>(L i k:Int)).map A8) ⟨w.heap.size+1+i,0,none⟩ 1 (b.length+1) (fun k _=>.int .i64 (L i k))
        (fun _=>hin i hlt) (by rw[hm];exact Ye _) (fun z hz=>by obtain⟨r,_,rfl⟩:=YO.1 hz;rfl)
        (fun k j z x hi hj=>by
         have hk:k<b.length+1:=by have:=(Yk.1 hi).1;rw[hm]at this;exact this
         have hj0:j=0:=by
          rw[Yt]at hi
          obtain⟨n,_,rfl⟩:=YS.1 hi
          have:=(Yk.1 hj).1
          simp[A8]at this;exact this
         subst hj0
         rw[Vr,(hT.row i hlt).cell hk])
        (fun k j z x hi hj=>by
         have hk:k<b.length+1:=by have:=(Yk.1 hi).1;rw[hm]at this;exact this
         rw[Eo,Yt,J6 hk]at hi
         cases hi
         have hj0:j=0:=by
          have:=(Yk.1 hj).1
          simp[A8]at this;exact this
         subst hj0
         cases hj
         exact .int _ _)
       rw[hm]at this
       exact this)
     rw[YF,hn]at this
     exact this,fun r=>by kernel_rfl,fun r y=>rfl⟩
end Go.Proofs.YtifefgdogdecnaaGreatDoor
