import Derived.Test.YtchkcemlglpobaaGreatProg
import Derived.Test.YtchkcemlglpobaaGreatCs09
import Derived.Test.YtchkcemlglpobaaGreatCs13
import Derived.Sort.Walk0
import Derived.Shelf.RegionOpenPlain
import Derived.WalkKit
import Derived.Lib.Walk
import Derived.Lib.SliceRun
import Derived.Lib.JoinLaws
import Derived.Lib.AppendZeros
import Derived.Lib.AppendZerosOnto
import Derived.Lib.Overlaps
import Derived.Laws.Externs
import Derived.Laws.IdiomCopy
import Derived.Laws.NewBlocks
import Derived.Shelf.Spec.SlicesInsert
import Derived.Test.YtchkcemlglpobaaGreatCs00
namespace Go.Proofs.YtchkcemlglpobaaGreat
open Go Go.Eng
def yl:TI:={agg:=false,kin:=3,siz:=1,zer:=some [.d (.int .i64 0)],ik:=some .i64,byt:=some 256 }
theorem tk3:TIok Tryz.prog 3 yl:=.of (by kernel_rfl) (by kernel_rfl) (by kernel_rfl) (.inl rfl) (by kernel_rfl) (.inr (by kernel_rfl)) (.inl rfl) (.inl rfl) (.inr (by kernel_rfl)) (.inr ⟨256,by decide+kernel,by decide+kernel,rfl⟩) (.inr rfl)
def ym:TI:={agg:=false,kin:=1,siz:=1,zer:=some [.d (.bool false)],byt:=some 256 }
theorem tk4:TIok Tryz.prog 4 ym:=.of (by kernel_rfl) (by kernel_rfl) (by kernel_rfl) (.inl rfl) (by kernel_rfl) (.inr (by kernel_rfl)) (.inl rfl) (.inl rfl) (.inl rfl) (.inr ⟨256,by decide+kernel,by decide+kernel,rfl⟩) (.inr rfl)
def yn:TI:={agg:=false,kin:=3,siz:=1,zer:=some [.d (.int .u8 0)],ik:=some .u8,byt:=some 256 }
theorem tk5:TIok Tryz.prog 5 yn:=.of (by kernel_rfl) (by kernel_rfl) (by kernel_rfl) (.inl rfl) (by kernel_rfl) (.inr (by kernel_rfl)) (.inl rfl) (.inl rfl) (.inr (by kernel_rfl)) (.inr ⟨256,by decide+kernel,by decide+kernel,rfl⟩) (.inr rfl)
def yo:TI:={agg:=false,kin:=2,siz:=1,zer:=some [.d (.str ⟨#[]⟩)],byt:=some 256 }
theorem tk9:TIok Tryz.prog 9 yo:=.of (by kernel_rfl) (by kernel_rfl) (by kernel_rfl) (.inl rfl) (by kernel_rfl) (.inr (by kernel_rfl)) (.inl rfl) (.inl rfl) (.inl rfl) (.inr ⟨256,by decide+kernel,by decide+kernel,rfl⟩) (.inr rfl)
def pD:TI:={agg:=false,kin:=0,siz:=1,zer:=some [.p .nilIface] }
theorem ZSV:TIok Tryz.prog 20 pD:=.of (by kernel_rfl) (by kernel_rfl) (by kernel_rfl) (.inl rfl) (by kernel_rfl) (.inr (by kernel_rfl)) (.inl rfl) (.inl rfl) (.inl rfl) (.inl rfl) (.inr rfl)
def rp:TI:={agg:=false,kin:=3,siz:=1,zer:=some [.d (.int .i32 0)],ik:=some .i32,byt:=some 256 }
theorem ZRV:TIok Tryz.prog 21 rp:=.of (by kernel_rfl) (by kernel_rfl) (by kernel_rfl) (.inl rfl) (by kernel_rfl) (.inr (by kernel_rfl)) (.inl rfl) (.inl rfl) (.inr (by kernel_rfl)) (.inr ⟨256,by decide+kernel,by decide+kernel,rfl⟩) (.inr rfl)
def o4:TI:={agg:=false,kin:=4,siz:=1,elm:=some (49,5),zer:=some [.e0],byt:=some 256 }
theorem ZSX:TIok Tryz.prog 22 o4:=.of (by kernel_rfl) (by kernel_rfl) (by kernel_rfl) (.inr (by kernel_rfl)) (by kernel_rfl) (.inr (by kernel_rfl)) (.inl rfl) (.inl rfl) (.inl rfl) (.inr ⟨256,by decide+kernel,by decide+kernel,rfl⟩) (.inr rfl)
def qy:TI:={agg:=false,kin:=4,siz:=1,elm:=some (97,5),zer:=some [.e0],byt:=some 256 }
theorem ZSz:TIok Tryz.prog 23 qy:=.of (by kernel_rfl) (by kernel_rfl) (by kernel_rfl) (.inr (by kernel_rfl)) (by kernel_rfl) (.inr (by kernel_rfl)) (.inl rfl) (.inl rfl) (.inl rfl) (.inr ⟨256,by decide+kernel,by decide+kernel,rfl⟩) (.inr rfl)
def qB:TI:={agg:=false,kin:=4,siz:=1,elm:=some (102,3),zer:=some [.e0],byt:=some 256 }
theorem ZTe:TIok Tryz.prog 24 qB:=.of (by kernel_rfl) (by kernel_rfl) (by kernel_rfl) (.inr (by kernel_rfl)) (by kernel_rfl) (.inr (by kernel_rfl)) (.inl rfl) (.inl rfl) (.inl rfl) (.inr ⟨256,by decide+kernel,by decide+kernel,rfl⟩) (.inr rfl)
def rj:TI:={agg:=true,kin:=0,siz:=3,fld:=[(0,1,false),(1,1,false),(2,1,false)],zer:=some [.e0,.e0,.e0],str:=true,byt:=some 256 }
theorem ZSQ:TIok Tryz.prog 26 rj:=.of (by kernel_rfl) (by kernel_rfl) (by kernel_rfl) (.inl rfl) (by kernel_rfl) (.inr (by kernel_rfl)) (.inl rfl) (.inr (by kernel_rfl)) (.inl rfl) (.inr ⟨256,by decide+kernel,by decide+kernel,rfl⟩) (.inr rfl)
def re:TI:={agg:=false,kin:=3,siz:=1,zer:=some [.d (.int .u64 0)],ik:=some .u64,byt:=some 256 }
theorem ZS9:TIok Tryz.prog 29 re:=.of (by kernel_rfl) (by kernel_rfl) (by kernel_rfl) (.inl rfl) (by kernel_rfl) (.inr (by kernel_rfl)) (.inl rfl) (.inl rfl) (.inr (by kernel_rfl)) (.inr ⟨256,by decide+kernel,by decide+kernel,rfl⟩) (.inr rfl)
def rl:TI:={agg:=false,kin:=4,siz:=1,elm:=some (35,7),zer:=some [.e0],byt:=some 256 }
theorem ZSu:TIok Tryz.prog 30 rl:=.of (by kernel_rfl) (by kernel_rfl) (by kernel_rfl) (.inr (by kernel_rfl)) (by kernel_rfl) (.inr (by kernel_rfl)) (.inl rfl) (.inl rfl) (.inl rfl) (.inr ⟨256,by decide+kernel,by decide+kernel,rfl⟩) (.inr rfl)
def po:TI:={agg:=false,kin:=4,siz:=1,elm:=some (71,14),zer:=some [.e0],byt:=some 256 }
theorem ZSK:TIok Tryz.prog 31 po:=.of (by kernel_rfl) (by kernel_rfl) (by kernel_rfl) (.inr (by kernel_rfl)) (by kernel_rfl) (.inr (by kernel_rfl)) (.inl rfl) (.inl rfl) (.inl rfl) (.inr ⟨256,by decide+kernel,by decide+kernel,rfl⟩) (.inr rfl)
def qe:TI:={agg:=false,kin:=4,siz:=1,elm:=some (63,8),zer:=some [.e0],byt:=some 256 }
theorem ZRF:TIok Tryz.prog 32 qe:=.of (by kernel_rfl) (by kernel_rfl) (by kernel_rfl) (.inr (by kernel_rfl)) (by kernel_rfl) (.inr (by kernel_rfl)) (.inl rfl) (.inl rfl) (.inl rfl) (.inr ⟨256,by decide+kernel,by decide+kernel,rfl⟩) (.inr rfl)
def rH:TI:={agg:=false,kin:=4,siz:=1,elm:=some (73,4),zer:=some [.e0],byt:=some 256 }
theorem ZSx:TIok Tryz.prog 33 rH:=.of (by kernel_rfl) (by kernel_rfl) (by kernel_rfl) (.inr (by kernel_rfl)) (by kernel_rfl) (.inr (by kernel_rfl)) (.inl rfl) (.inl rfl) (.inl rfl) (.inr ⟨256,by decide+kernel,by decide+kernel,rfl⟩) (.inr rfl)
def qd:TI:={agg:=true,kin:=0,siz:=7,fld:=[(0,1,false),(1,1,false),(2,1,false),(3,1,false),(4,1,false),(5,1,false),(6,1,false)],zer:=some [.d (.int .i64 0),.d (.int .u64 0),.d (.str ⟨#[]⟩),.e0,.e0,.e0,.e0],str:=true,byt:=some 256 }
theorem ZSC:TIok Tryz.prog 35 qd:=.of (by kernel_rfl) (by kernel_rfl) (by kernel_rfl) (.inl rfl) (by kernel_rfl) (.inr (by kernel_rfl)) (.inl rfl) (.inr (by kernel_rfl)) (.inl rfl) (.inr ⟨256,by decide+kernel,by decide+kernel,rfl⟩) (.inr rfl)
def pG:TI:={agg:=false,kin:=3,siz:=1,zer:=some [.d (.int .i64 0)],ik:=some .i64,byt:=some 256 }
theorem ZSD:TIok Tryz.prog 40 pG:=.of (by kernel_rfl) (by kernel_rfl) (by kernel_rfl) (.inl rfl) (by kernel_rfl) (.inr (by kernel_rfl)) (.inl rfl) (.inl rfl) (.inr (by kernel_rfl)) (.inr ⟨256,by decide+kernel,by decide+kernel,rfl⟩) (.inr rfl)
def pX:TI:={agg:=false,kin:=4,siz:=1,elm:=some (55,16),zer:=some [.e0],byt:=some 256 }
theorem ZSp:TIok Tryz.prog 44 pX:=.of (by kernel_rfl) (by kernel_rfl) (by kernel_rfl) (.inr (by kernel_rfl)) (by kernel_rfl) (.inr (by kernel_rfl)) (.inl rfl) (.inl rfl) (.inl rfl) (.inr ⟨256,by decide+kernel,by decide+kernel,rfl⟩) (.inr rfl)
def ph:TI:={agg:=false,kin:=4,siz:=1,elm:=some (209,2),zer:=some [.e0],byt:=some 256 }
theorem ZRJ:TIok Tryz.prog 45 ph:=.of (by kernel_rfl) (by kernel_rfl) (by kernel_rfl) (.inr (by kernel_rfl)) (by kernel_rfl) (.inr (by kernel_rfl)) (.inl rfl) (.inl rfl) (.inl rfl) (.inr ⟨256,by decide+kernel,by decide+kernel,rfl⟩) (.inr rfl)
def qz:TI:={agg:=false,kin:=4,siz:=1,elm:=some (9,1),zer:=some [.e0],byt:=some 256 }
theorem ZSR:TIok Tryz.prog 46 qz:=.of (by kernel_rfl) (by kernel_rfl) (by kernel_rfl) (.inr (by kernel_rfl)) (by kernel_rfl) (.inr (by kernel_rfl)) (.inl rfl) (.inl rfl) (.inl rfl) (.inr ⟨256,by decide+kernel,by decide+kernel,rfl⟩) (.inr rfl)
def pZ:TI:={agg:=false,kin:=4,siz:=1,elm:=some (135,8),zer:=some [.e0],byt:=some 256 }
theorem ZSS:TIok Tryz.prog 47 pZ:=.of (by kernel_rfl) (by kernel_rfl) (by kernel_rfl) (.inr (by kernel_rfl)) (by kernel_rfl) (.inr (by kernel_rfl)) (.inl rfl) (.inl rfl) (.inl rfl) (.inr ⟨256,by decide+kernel,by decide+kernel,rfl⟩) (.inr rfl)
def qX:TI:={agg:=true,kin:=0,siz:=5,fld:=[(0,1,false),(1,1,false),(2,1,false),(3,1,false),(4,1,false)],zer:=some [.d (.str ⟨#[]⟩),.e0,.e0,.e0,.e0],str:=true,byt:=some 256 }
theorem ZSe:TIok Tryz.prog 49 qX:=.of (by kernel_rfl) (by kernel_rfl) (by kernel_rfl) (.inl rfl) (by kernel_rfl) (.inr (by kernel_rfl)) (.inl rfl) (.inr (by kernel_rfl)) (.inl rfl) (.inr ⟨256,by decide+kernel,by decide+kernel,rfl⟩) (.inr rfl)
def pr:TI:={agg:=true,kin:=0,siz:=2,fld:=[(0,1,false),(1,1,false)],zer:=some [.d (.int .i64 0),.d (.str ⟨#[]⟩)],eqt:=some [3,2],str:=true,byt:=some 256 }
theorem ZS1:TIok Tryz.prog 53 pr:=.of (by kernel_rfl) (by kernel_rfl) (by kernel_rfl) (.inl rfl) (by kernel_rfl) (.inr (by kernel_rfl)) (.inr (by kernel_rfl)) (.inr (by kernel_rfl)) (.inl rfl) (.inr ⟨256,by decide+kernel,by decide+kernel,rfl⟩) (.inr rfl)
def pJ:TI:={agg:=true,kin:=0,siz:=16,fld:=[(0,1,false),(1,1,false),(2,1,false),(3,1,false),(4,2,true),(6,1,false),(7,1,false),(8,7,true),(15,1,false)],zer:=some [.d (.int .i64 0),.d (.str ⟨#[]⟩),.d (.int .i64 0),.d (.int .i64 0),.d (.int .i64 0),.d (.str ⟨#[]⟩),.d (.str ⟨#[]⟩),.d (.bool false),.d (.int .i64 0),.d (.int .u64 0),.d (.str ⟨#[]⟩),.e0,.e0,.e0,.e0,.e0],str:=true,byt:=some 256 }
theorem ZS8:TIok Tryz.prog 55 pJ:=.of (by kernel_rfl) (by kernel_rfl) (by kernel_rfl) (.inl rfl) (by kernel_rfl) (.inr (by kernel_rfl)) (.inl rfl) (.inr (by kernel_rfl)) (.inl rfl) (.inr ⟨256,by decide+kernel,by decide+kernel,rfl⟩) (.inr rfl)
def qR:TI:={agg:=true,kin:=0,siz:=8,fld:=[(0,1,false),(1,7,true)],zer:=some [.d (.int .i64 0),.d (.int .i64 0),.d (.int .u64 0),.d (.str ⟨#[]⟩),.e0,.e0,.e0,.e0],str:=true,byt:=some 256 }
theorem ZSo:TIok Tryz.prog 63 qR:=.of (by kernel_rfl) (by kernel_rfl) (by kernel_rfl) (.inl rfl) (by kernel_rfl) (.inr (by kernel_rfl)) (.inl rfl) (.inr (by kernel_rfl)) (.inl rfl) (.inr ⟨256,by decide+kernel,by decide+kernel,rfl⟩) (.inr rfl)
def pO:TI:={agg:=true,kin:=0,siz:=14,fld:=[(0,7,true),(7,7,true)],zer:=some [.d (.int .i64 0),.d (.int .u64 0),.d (.str ⟨#[]⟩),.e0,.e0,.e0,.e0,.d (.int .i64 0),.d (.int .u64 0),.d (.str ⟨#[]⟩),.e0,.e0,.e0,.e0],str:=true,byt:=some 256 }
theorem ZSn:TIok Tryz.prog 71 pO:=.of (by kernel_rfl) (by kernel_rfl) (by kernel_rfl) (.inl rfl) (by kernel_rfl) (.inr (by kernel_rfl)) (.inl rfl) (.inr (by kernel_rfl)) (.inl rfl) (.inr ⟨256,by decide+kernel,by decide+kernel,rfl⟩) (.inr rfl)
def pW:TI:={agg:=true,kin:=0,siz:=4,fld:=[(0,1,false),(1,1,false),(2,1,false),(3,1,false)],zer:=some [.d (.int .i64 0),.d (.int .i64 0),.d (.int .u64 0),.d (.str ⟨#[]⟩)],eqt:=some [3,3,3,2],str:=true,byt:=some 256 }
theorem ZSW:TIok Tryz.prog 73 pW:=.of (by kernel_rfl) (by kernel_rfl) (by kernel_rfl) (.inl rfl) (by kernel_rfl) (.inr (by kernel_rfl)) (.inr (by kernel_rfl)) (.inr (by kernel_rfl)) (.inl rfl) (.inr ⟨256,by decide+kernel,by decide+kernel,rfl⟩) (.inr rfl)
def pn:TI:={agg:=true,kin:=0,siz:=8,fld:=[(0,5,true),(5,3,true)],zer:=some [.d (.str ⟨#[]⟩),.e0,.e0,.e0,.e0,.e0,.e0,.e0],str:=true,byt:=some 256 }
theorem ZSh:TIok Tryz.prog 77 pn:=.of (by kernel_rfl) (by kernel_rfl) (by kernel_rfl) (.inl rfl) (by kernel_rfl) (.inr (by kernel_rfl)) (.inl rfl) (.inr (by kernel_rfl)) (.inl rfl) (.inr ⟨256,by decide+kernel,by decide+kernel,rfl⟩) (.inr rfl)
def pC:TI:={agg:=false,kin:=0,siz:=1,zer:=some [.p .nilFunc] }
theorem ZS7:TIok Tryz.prog 81 pC:=.of (by kernel_rfl) (by kernel_rfl) (by kernel_rfl) (.inl rfl) (by kernel_rfl) (.inr (by kernel_rfl)) (.inl rfl) (.inl rfl) (.inl rfl) (.inl rfl) (.inr rfl)
def pS:TI:={agg:=false,kin:=0,siz:=1,zer:=some [.p .nilFunc] }
theorem ZSm:TIok Tryz.prog 88 pS:=.of (by kernel_rfl) (by kernel_rfl) (by kernel_rfl) (.inl rfl) (by kernel_rfl) (.inr (by kernel_rfl)) (.inl rfl) (.inl rfl) (.inl rfl) (.inl rfl) (.inr rfl)
def ru:TI:={agg:=false,kin:=4,siz:=1,elm:=some (99,3),zer:=some [.e0],byt:=some 256 }
theorem ZSk:TIok Tryz.prog 95 ru:=.of (by kernel_rfl) (by kernel_rfl) (by kernel_rfl) (.inr (by kernel_rfl)) (by kernel_rfl) (.inr (by kernel_rfl)) (.inl rfl) (.inl rfl) (.inl rfl) (.inr ⟨256,by decide+kernel,by decide+kernel,rfl⟩) (.inr rfl)
def qU:TI:={agg:=true,kin:=0,siz:=5,fld:=[(0,1,false),(1,1,false),(2,1,false),(3,1,false),(4,1,false)],zer:=some [.d (.str ⟨#[]⟩),.d (.bool false),.e0,.e0,.e0],str:=true,byt:=some 256 }
theorem ZRK:TIok Tryz.prog 97 qU:=.of (by kernel_rfl) (by kernel_rfl) (by kernel_rfl) (.inl rfl) (by kernel_rfl) (.inr (by kernel_rfl)) (.inl rfl) (.inr (by kernel_rfl)) (.inl rfl) (.inr ⟨256,by decide+kernel,by decide+kernel,rfl⟩) (.inr rfl)
def qQ:TI:={agg:=true,kin:=0,siz:=3,fld:=[(0,1,false),(1,1,false),(2,1,false)],zer:=some [.d (.str ⟨#[]⟩),.d (.int .i64 0),.e0],str:=true,byt:=some 256 }
theorem ZSj:TIok Tryz.prog 99 qQ:=.of (by kernel_rfl) (by kernel_rfl) (by kernel_rfl) (.inl rfl) (by kernel_rfl) (.inr (by kernel_rfl)) (.inl rfl) (.inr (by kernel_rfl)) (.inl rfl) (.inr ⟨256,by decide+kernel,by decide+kernel,rfl⟩) (.inr rfl)
def kM:TI:={agg:=false,kin:=4,siz:=1,elm:=some (104,5),zer:=some [.e0],byt:=some 256 }
theorem ZN7:TIok Tryz.prog 100 kM:=.of (by kernel_rfl) (by kernel_rfl) (by kernel_rfl) (.inr (by kernel_rfl)) (by kernel_rfl) (.inr (by kernel_rfl)) (.inl rfl) (.inl rfl) (.inl rfl) (.inr ⟨256,by decide+kernel,by decide+kernel,rfl⟩) (.inr rfl)
def kx:TI:={agg:=true,kin:=0,siz:=3,fld:=[(0,1,false),(1,1,false),(2,1,false)],zer:=some [.d (.str ⟨#[]⟩),.e0,.e0],str:=true,byt:=some 256 }
theorem ZO6:TIok Tryz.prog 102 kx:=.of (by kernel_rfl) (by kernel_rfl) (by kernel_rfl) (.inl rfl) (by kernel_rfl) (.inr (by kernel_rfl)) (.inl rfl) (.inr (by kernel_rfl)) (.inl rfl) (.inr ⟨256,by decide+kernel,by decide+kernel,rfl⟩) (.inr rfl)
def lO:TI:={agg:=true,kin:=0,siz:=5,fld:=[(0,1,false),(1,1,false),(2,1,false),(3,1,false),(4,1,false)],zer:=some [.d (.str ⟨#[]⟩),.d (.str ⟨#[]⟩),.d (.str ⟨#[]⟩),.d (.int .i64 0),.e0],str:=true,byt:=some 256 }
theorem ZOY:TIok Tryz.prog 104 lO:=.of (by kernel_rfl) (by kernel_rfl) (by kernel_rfl) (.inl rfl) (by kernel_rfl) (.inr (by kernel_rfl)) (.inl rfl) (.inr (by kernel_rfl)) (.inl rfl) (.inr ⟨256,by decide+kernel,by decide+kernel,rfl⟩) (.inr rfl)
def kB:TI:={agg:=false,kin:=4,siz:=1,elm:=some (182,3),zer:=some [.e0],byt:=some 256 }
theorem ZOc:TIok Tryz.prog 105 kB:=.of (by kernel_rfl) (by kernel_rfl) (by kernel_rfl) (.inr (by kernel_rfl)) (by kernel_rfl) (.inr (by kernel_rfl)) (.inl rfl) (.inl rfl) (.inl rfl) (.inr ⟨256,by decide+kernel,by decide+kernel,rfl⟩) (.inr rfl)
def n9:TI:={agg:=false,kin:=0,siz:=1,zer:=some [.p .nilFunc] }
theorem ZML:TIok Tryz.prog 111 n9:=.of (by kernel_rfl) (by kernel_rfl) (by kernel_rfl) (.inl rfl) (by kernel_rfl) (.inr (by kernel_rfl)) (.inl rfl) (.inl rfl) (.inl rfl) (.inl rfl) (.inr rfl)
def lB:TI:={agg:=false,kin:=0,siz:=1,mp:=some (false,[.int .i64 0]),zer:=some [.p (.map none)] }
theorem ZOR:TIok Tryz.prog 113 lB:=.of (by kernel_rfl) (by kernel_rfl) (by kernel_rfl) (.inl rfl) (by kernel_rfl) (.inr (by kernel_rfl)) (.inl rfl) (.inl rfl) (.inl rfl) (.inl rfl) (.inr rfl)
def km:TI:={agg:=false,kin:=0,siz:=1,mp:=some (true,[.str ⟨#[]⟩,.list [],.list [],.list [],.list []]),zer:=some [.p (.map none)] }
theorem ZN8:TIok Tryz.prog 114 km:=.of (by kernel_rfl) (by kernel_rfl) (by kernel_rfl) (.inl rfl) (by kernel_rfl) (.inr (by kernel_rfl)) (.inl rfl) (.inl rfl) (.inl rfl) (.inl rfl) (.inr rfl)
def oc:TI:={agg:=false,kin:=0,siz:=1,mp:=some (false,[.bool false]),zer:=some [.p (.map none)] }
theorem ZOj:TIok Tryz.prog 115 oc:=.of (by kernel_rfl) (by kernel_rfl) (by kernel_rfl) (.inl rfl) (by kernel_rfl) (.inr (by kernel_rfl)) (.inl rfl) (.inl rfl) (.inl rfl) (.inl rfl) (.inr rfl)
def kL:TI:={agg:=true,kin:=0,siz:=2,fld:=[(0,1,false),(1,1,false)],zer:=some [.p (.map none),.p (.map none)],str:=true,byt:=some 256 }
theorem ZOI:TIok Tryz.prog 117 kL:=.of (by kernel_rfl) (by kernel_rfl) (by kernel_rfl) (.inl rfl) (by kernel_rfl) (.inr (by kernel_rfl)) (.inl rfl) (.inr (by kernel_rfl)) (.inl rfl) (.inr ⟨256,by decide+kernel,by decide+kernel,rfl⟩) (.inr rfl)
def mJ:TI:={agg:=false,kin:=4,siz:=1,elm:=some (3,1),zer:=some [.e0],byt:=some 256 }
theorem ZPb:TIok Tryz.prog 123 mJ:=.of (by kernel_rfl) (by kernel_rfl) (by kernel_rfl) (.inr (by kernel_rfl)) (by kernel_rfl) (.inr (by kernel_rfl)) (.inl rfl) (.inl rfl) (.inl rfl) (.inr ⟨256,by decide+kernel,by decide+kernel,rfl⟩) (.inr rfl)
def lD:TI:={agg:=false,kin:=0,siz:=1,zer:=some [.p .nilFunc] }
theorem ZOX:TIok Tryz.prog 128 lD:=.of (by kernel_rfl) (by kernel_rfl) (by kernel_rfl) (.inl rfl) (by kernel_rfl) (.inr (by kernel_rfl)) (.inl rfl) (.inl rfl) (.inl rfl) (.inl rfl) (.inr rfl)
def oG:TI:={agg:=false,kin:=0,siz:=1,zer:=some [.p .nilFunc] }
theorem ZOK:TIok Tryz.prog 133 oG:=.of (by kernel_rfl) (by kernel_rfl) (by kernel_rfl) (.inl rfl) (by kernel_rfl) (.inr (by kernel_rfl)) (.inl rfl) (.inl rfl) (.inl rfl) (.inl rfl) (.inr rfl)
def l8:TI:={agg:=true,kin:=0,siz:=8,fld:=[(0,1,false),(1,7,true)],zer:=some [.d (.str ⟨#[]⟩),.d (.int .i64 0),.d (.int .u64 0),.d (.str ⟨#[]⟩),.e0,.e0,.e0,.e0],str:=true,byt:=some 256 }
theorem ZOH:TIok Tryz.prog 135 l8:=.of (by kernel_rfl) (by kernel_rfl) (by kernel_rfl) (.inl rfl) (by kernel_rfl) (.inr (by kernel_rfl)) (.inl rfl) (.inr (by kernel_rfl)) (.inl rfl) (.inr ⟨256,by decide+kernel,by decide+kernel,rfl⟩) (.inr rfl)
def np:TI:={agg:=true,kin:=0,siz:=2,fld:=[(0,1,false),(1,1,false)],zer:=some [.d (.str ⟨#[]⟩),.e0],str:=true,byt:=some 256 }
theorem ZND:TIok Tryz.prog 137 np:=.of (by kernel_rfl) (by kernel_rfl) (by kernel_rfl) (.inl rfl) (by kernel_rfl) (.inr (by kernel_rfl)) (.inl rfl) (.inr (by kernel_rfl)) (.inl rfl) (.inr ⟨256,by decide+kernel,by decide+kernel,rfl⟩) (.inr rfl)
def kg:TI:={agg:=false,kin:=4,siz:=1,elm:=some (4,1),zer:=some [.e0],byt:=some 256 }
theorem ZOy:TIok Tryz.prog 142 kg:=.of (by kernel_rfl) (by kernel_rfl) (by kernel_rfl) (.inr (by kernel_rfl)) (by kernel_rfl) (.inr (by kernel_rfl)) (.inl rfl) (.inl rfl) (.inl rfl) (.inr ⟨256,by decide+kernel,by decide+kernel,rfl⟩) (.inr rfl)
def lU:TI:={agg:=false,kin:=0,siz:=1,zer:=some [.p .nilFunc] }
theorem ZNo:TIok Tryz.prog 155 lU:=.of (by kernel_rfl) (by kernel_rfl) (by kernel_rfl) (.inl rfl) (by kernel_rfl) (.inr (by kernel_rfl)) (.inl rfl) (.inl rfl) (.inl rfl) (.inl rfl) (.inr rfl)
def lG:TI:={agg:=false,kin:=0,siz:=1,zer:=some [.p .nilFunc] }
theorem ZOm:TIok Tryz.prog 156 lG:=.of (by kernel_rfl) (by kernel_rfl) (by kernel_rfl) (.inl rfl) (by kernel_rfl) (.inr (by kernel_rfl)) (.inl rfl) (.inl rfl) (.inl rfl) (.inl rfl) (.inr rfl)
def oS:TI:={agg:=true,kin:=0,siz:=7,fld:=[(0,1,false),(1,1,false),(2,1,false),(3,1,false),(4,1,false),(5,1,false),(6,1,false)],zer:=some [.d (.int .i64 0),.d (.int .u64 0),.d (.str ⟨#[]⟩),.e0,.e0,.e0,.e0],str:=true,byt:=some 256 }
theorem ZNf:TIok Tryz.prog 163 oS:=.of (by kernel_rfl) (by kernel_rfl) (by kernel_rfl) (.inl rfl) (by kernel_rfl) (.inr (by kernel_rfl)) (.inl rfl) (.inr (by kernel_rfl)) (.inl rfl) (.inr ⟨256,by decide+kernel,by decide+kernel,rfl⟩) (.inr rfl)
def lT:TI:={agg:=false,kin:=4,siz:=1,elm:=some (35,7),zer:=some [.e0],byt:=some 256 }
theorem ZOu:TIok Tryz.prog 164 lT:=.of (by kernel_rfl) (by kernel_rfl) (by kernel_rfl) (.inr (by kernel_rfl)) (by kernel_rfl) (.inr (by kernel_rfl)) (.inl rfl) (.inl rfl) (.inl rfl) (.inr ⟨256,by decide+kernel,by decide+kernel,rfl⟩) (.inr rfl)
def od:TI:={agg:=false,kin:=4,siz:=1,elm:=some (71,14),zer:=some [.e0],byt:=some 256 }
theorem ZMU:TIok Tryz.prog 166 od:=.of (by kernel_rfl) (by kernel_rfl) (by kernel_rfl) (.inr (by kernel_rfl)) (by kernel_rfl) (.inr (by kernel_rfl)) (.inl rfl) (.inl rfl) (.inl rfl) (.inr ⟨256,by decide+kernel,by decide+kernel,rfl⟩) (.inr rfl)
def o1:TI:={agg:=false,kin:=0,siz:=1,zer:=some [.p .nilFunc] }
theorem ZNm:TIok Tryz.prog 168 o1:=.of (by kernel_rfl) (by kernel_rfl) (by kernel_rfl) (.inl rfl) (by kernel_rfl) (.inr (by kernel_rfl)) (.inl rfl) (.inl rfl) (.inl rfl) (.inl rfl) (.inr rfl)
def mA:TI:={agg:=true,kin:=0,siz:=2,fld:=[(0,1,false),(1,1,false)],zer:=some [.e0,.e0],str:=true,byt:=some 256 }
theorem ZNk:TIok Tryz.prog 170 mA:=.of (by kernel_rfl) (by kernel_rfl) (by kernel_rfl) (.inl rfl) (by kernel_rfl) (.inr (by kernel_rfl)) (.inl rfl) (.inr (by kernel_rfl)) (.inl rfl) (.inr ⟨256,by decide+kernel,by decide+kernel,rfl⟩) (.inr rfl)
def lZ:TI:={agg:=false,kin:=0,siz:=1,zer:=some [.p .nilFunc] }
theorem ZMS:TIok Tryz.prog 173 lZ:=.of (by kernel_rfl) (by kernel_rfl) (by kernel_rfl) (.inl rfl) (by kernel_rfl) (.inr (by kernel_rfl)) (.inl rfl) (.inl rfl) (.inl rfl) (.inl rfl) (.inr rfl)
def mh:TI:={agg:=false,kin:=0,siz:=1,zer:=some [.p .nilFunc] }
theorem ZPi:TIok Tryz.prog 175 mh:=.of (by kernel_rfl) (by kernel_rfl) (by kernel_rfl) (.inl rfl) (by kernel_rfl) (.inr (by kernel_rfl)) (.inl rfl) (.inl rfl) (.inl rfl) (.inl rfl) (.inr rfl)
def mU:TI:={agg:=false,kin:=0,siz:=1,zer:=some [.p (.pointer none)] }
theorem ZMJ:TIok Tryz.prog 180 mU:=.of (by kernel_rfl) (by kernel_rfl) (by kernel_rfl) (.inl rfl) (by kernel_rfl) (.inr (by kernel_rfl)) (.inl rfl) (.inl rfl) (.inl rfl) (.inl rfl) (.inr rfl)
def lN:TI:={agg:=true,kin:=0,siz:=3,fld:=[(0,1,false),(1,1,false),(2,1,false)],zer:=some [.d (.str ⟨#[]⟩),.d (.int .i64 0),.d (.int .i64 0)],eqt:=some [2,3,3],str:=true,byt:=some 256 }
theorem ZMW:TIok Tryz.prog 182 lN:=.of (by kernel_rfl) (by kernel_rfl) (by kernel_rfl) (.inl rfl) (by kernel_rfl) (.inr (by kernel_rfl)) (.inr (by kernel_rfl)) (.inr (by kernel_rfl)) (.inl rfl) (.inr ⟨256,by decide+kernel,by decide+kernel,rfl⟩) (.inr rfl)
def nc:TI:={agg:=false,kin:=0,siz:=1,zer:=some [.p .nilFunc] }
theorem ZNF:TIok Tryz.prog 193 nc:=.of (by kernel_rfl) (by kernel_rfl) (by kernel_rfl) (.inl rfl) (by kernel_rfl) (.inr (by kernel_rfl)) (.inl rfl) (.inl rfl) (.inl rfl) (.inl rfl) (.inr rfl)
def kd:TI:={agg:=false,kin:=0,siz:=1,zer:=some [.p .nilFunc] }
theorem ZMG:TIok Tryz.prog 197 kd:=.of (by kernel_rfl) (by kernel_rfl) (by kernel_rfl) (.inl rfl) (by kernel_rfl) (.inr (by kernel_rfl)) (.inl rfl) (.inl rfl) (.inl rfl) (.inl rfl) (.inr rfl)
def l7:TI:={agg:=true,kin:=0,siz:=2,fld:=[(0,1,false),(1,1,false)],zer:=some [.d (.int .i64 0),.d (.int .i64 0)],eqt:=some [3,3],str:=true,byt:=some 256 }
theorem ZPo:TIok Tryz.prog 209 l7:=.of (by kernel_rfl) (by kernel_rfl) (by kernel_rfl) (.inl rfl) (by kernel_rfl) (.inr (by kernel_rfl)) (.inr (by kernel_rfl)) (.inr (by kernel_rfl)) (.inl rfl) (.inr ⟨256,by decide+kernel,by decide+kernel,rfl⟩) (.inr rfl)
def l5:TI:={agg:=false,kin:=0,siz:=1,zer:=some [.p .nilFunc] }
theorem ZM9:TIok Tryz.prog 215 l5:=.of (by kernel_rfl) (by kernel_rfl) (by kernel_rfl) (.inl rfl) (by kernel_rfl) (.inr (by kernel_rfl)) (.inl rfl) (.inl rfl) (.inl rfl) (.inl rfl) (.inr rfl)
def ot:TI:={agg:=false,kin:=3,siz:=1,zer:=some [.d (.int .u64 0)],ik:=some .u64,byt:=some 256 }
theorem ZMM:TIok Tryz.prog 220 ot:=.of (by kernel_rfl) (by kernel_rfl) (by kernel_rfl) (.inl rfl) (by kernel_rfl) (.inr (by kernel_rfl)) (.inl rfl) (.inl rfl) (.inr (by kernel_rfl)) (.inr ⟨256,by decide+kernel,by decide+kernel,rfl⟩) (.inr rfl)
def oJ:TI:={agg:=false,kin:=3,siz:=1,zer:=some [.d (.int .i64 0)],ik:=some .i64,byt:=some 256 }
theorem ZPh:TIok Tryz.prog 232 oJ:=.of (by kernel_rfl) (by kernel_rfl) (by kernel_rfl) (.inl rfl) (by kernel_rfl) (.inr (by kernel_rfl)) (.inl rfl) (.inl rfl) (.inr (by kernel_rfl)) (.inr ⟨256,by decide+kernel,by decide+kernel,rfl⟩) (.inr rfl)
def j8:TI:={agg:=false,kin:=3,siz:=1,zer:=some [.d (.int .u32 0)],ik:=some .u32,byt:=some 256 }
theorem ZOv:TIok Tryz.prog 241 j8:=.of (by kernel_rfl) (by kernel_rfl) (by kernel_rfl) (.inl rfl) (by kernel_rfl) (.inr (by kernel_rfl)) (.inl rfl) (.inl rfl) (.inr (by kernel_rfl)) (.inr ⟨256,by decide+kernel,by decide+kernel,rfl⟩) (.inr rfl)
def kv:TI:={agg:=false,kin:=3,siz:=1,zer:=some [.d (.int .u64 0)],ik:=some .u64,byt:=some 256 }
theorem ZOa:TIok Tryz.prog 248 kv:=.of (by kernel_rfl) (by kernel_rfl) (by kernel_rfl) (.inl rfl) (by kernel_rfl) (.inr (by kernel_rfl)) (.inl rfl) (.inl rfl) (.inr (by kernel_rfl)) (.inr ⟨256,by decide+kernel,by decide+kernel,rfl⟩) (.inr rfl)
def kb:TI:={agg:=false,kin:=0,siz:=1,zer:=some [.p (.pointer none)] }
theorem ZPd:TIok Tryz.prog 252 kb:=.of (by kernel_rfl) (by kernel_rfl) (by kernel_rfl) (.inl rfl) (by kernel_rfl) (.inr (by kernel_rfl)) (.inl rfl) (.inl rfl) (.inl rfl) (.inl rfl) (.inr rfl)
def mC:TI:={agg:=false,kin:=0,siz:=1,zer:=some [.p (.pointer none)] }
theorem ZOV:TIok Tryz.prog 258 mC:=.of (by kernel_rfl) (by kernel_rfl) (by kernel_rfl) (.inl rfl) (by kernel_rfl) (.inr (by kernel_rfl)) (.inl rfl) (.inl rfl) (.inl rfl) (.inl rfl) (.inr rfl)
def tl:List (Nat×TI):=[(3,yl),(4,ym),(5,yn),(9,yo),(20,pD),(21,rp),(22,o4),(23,qy),(24,qB),(26,rj),(29,re),(30,rl),(31,po),(32,qe),(33,rH),(35,qd),(40,pG),(44,pX),(45,ph),(46,qz),(47,pZ),(49,qX),(53,pr),(55,pJ),(63,qR),(71,pO),(73,pW),(77,pn),(81,pC),(88,pS),(95,ru),(97,qU),(99,qQ),(100,kM),(102,kx),(104,lO),(105,kB),(111,n9),(113,lB),(114,km),(115,oc),(117,kL),(123,mJ),(128,lD),(133,oG),(135,l8),(137,np),(142,kg),(155,lU),(156,lG),(163,oS),(164,lT),(166,od),(168,o1),(170,mA),(173,lZ),(175,mh),(180,mU),(182,lN),(193,nc),(197,kd),(209,l7),(215,l5),(220,ot),(232,oJ),(241,j8),(248,kv),(252,kb),(258,mC)]
theorem Aa:A9 Tryz.prog (AG tl):=w4 tl (by
 intro p a
 simp only[tl,Yw,List.not_mem_nil,or_false]at a
 rcases a with rfl|rfl|rfl|rfl|rfl|rfl|rfl|rfl|rfl|rfl|rfl|rfl|rfl|rfl|rfl|rfl|rfl|rfl|rfl|rfl|rfl|rfl|rfl|rfl|rfl|rfl|rfl|rfl|rfl|rfl|rfl|rfl|rfl|rfl|rfl|rfl|rfl|rfl|rfl|rfl|rfl|rfl|rfl|rfl|rfl|rfl|rfl|rfl|rfl|rfl|rfl|rfl|rfl|rfl|rfl|rfl|rfl|rfl|rfl|rfl|rfl|rfl|rfl|rfl|rfl|rfl|rfl|rfl|rfl
 ·exact tk3
 ·exact tk4
 ·exact tk5
 ·exact tk9
 ·exact ZSV
 ·exact ZRV
 ·exact ZSX
 ·exact ZSz
 ·exact ZTe
 ·exact ZSQ
 ·exact ZS9
 ·exact ZSu
 ·exact ZSK
 ·exact ZRF
 ·exact ZSx
 ·exact ZSC
 ·exact ZSD
 ·exact ZSp
 ·exact ZRJ
 ·exact ZSR
 ·exact ZSS
 ·exact ZSe
 ·exact ZS1
 ·exact ZS8
 ·exact ZSo
 ·exact ZSn
 ·exact ZSW
 ·exact ZSh
 ·exact ZS7
 ·exact ZSm
 ·exact ZSk
 ·exact ZRK
 ·exact ZSj
 ·exact ZN7
 ·exact ZO6
 ·exact ZOY
 ·exact ZOc
 ·exact ZML
 ·exact ZOR
 ·exact ZN8
 ·exact ZOj
 ·exact ZOI
 ·exact ZPb
 ·exact ZOX
 ·exact ZOK
 ·exact ZOH
 ·exact ZND
 ·exact ZOy
 ·exact ZNo
 ·exact ZOm
 ·exact ZNf
 ·exact ZOu
 ·exact ZMU
 ·exact ZNm
 ·exact ZNk
 ·exact ZMS
 ·exact ZPi
 ·exact ZMJ
 ·exact ZMW
 ·exact ZNF
 ·exact ZMG
 ·exact ZPo
 ·exact ZM9
 ·exact ZMM
 ·exact ZPh
 ·exact ZOv
 ·exact ZOa
 ·exact ZPd
 ·exact ZOV)
theorem Ad:Tryz.prog.follows .mixedOrders=true:=by kernel_rfl
end Go.Proofs.YtchkcemlglpobaaGreat
namespace Go.Eng
set_option linter.all false
open Go
theorem uN(a b:ByteArray):Bl a b=true↔Bw a<Bw b:=by
 unfold Bl Bw
 rw[ByteArray.toList_eq,ByteArray.toList_eq,Go.Proofs.bytesLess_eq,decide_eq_true_eq]
theorem ZFu{a b:ByteArray}(h:Bw a=Bw b):a=b:=by
 unfold Bw at h
 obtain⟨⟨a⟩⟩:=a
 obtain⟨⟨b⟩⟩:=b
 simp only at h
 rw[h]
theorem w5{a b:ByteArray}(h:Bl a b=false):Bw b≤Bw a:=fun c=>by rw[(uN a b).2 c]at h;cases h
def H9(x:ByteArray):List ByteArray→List ByteArray
 |[]=>[x]
 |y::l=>match Bl y x with
  |true=>y::H9 x l
  |false=>x::y::l
def MW:List ByteArray→List ByteArray
 |[]=>[]
 |x::l=>H9 x (MW l)
theorem aI(x:ByteArray):∀l,(H9 x l).Perm (x::l)
 |[]=>.refl _
 |y::l=>by
  unfold H9
  split
  ·exact((aI x l).cons y).trans (.swap ..)
  ·exact .refl _
theorem sQ:∀l,(MW l).Perm l
 |[]=>.refl _
 |x::l=>(aI x _).trans ((sQ l).cons x)
theorem ur(x:ByteArray):∀l,(l.Pairwise fun x y=>Bw x≤Bw y)→((H9 x l).Pairwise fun x y=>Bw x≤Bw y)
 |[],_=>by simp[H9]
 |y::l,h=>by
  rw[NG]at h
  unfold H9
  split
  ·rename_i e
   rw[NG]
   refine⟨fun z a=>?_,ur x l h.2⟩
   rcases Yw.1 ((aI x l).mem_iff.1 a)with rfl|a
   ·exact List.le_of_lt ((uN y z).1 e)
   ·exact h.1 z a
  ·rename_i e
   rw[NG,NG]
   refine⟨fun z a=>?_,h⟩
   rcases Yw.1 a with rfl|a
   ·exact w5 e
   ·exact List.le_trans (w5 e) (h.1 z a)
theorem tU:∀l,(MW l).Pairwise fun x y=>Bw x≤Bw y
 |[]=>.nil
 |x::l=>ur x _ (tU l)
theorem ZvE(xs:List ByteArray):(G2 xs).Pairwise fun x y=>Bw x≤Bw y:=by
 have:=List.pairwise_mergeSort (le:=fun x y:ByteArray=>decide (Bw x≤Bw y)) (fun a b c d e=>by simp only[decide_eq_true_eq]at*;exact List.le_trans d e) (fun a b=>by simp only[Bool.or_eq_true,decide_eq_true_eq];exact List.le_total _ _) xs
 exact this.imp fun h=>by simpa using h
theorem ZvX(l:List ByteArray):MW l=G2 l:=
 ((sQ l).trans (List.mergeSort_perm _ _).symm).eq_of_pairwise (fun a b _ _ c d=>ZFu (List.le_antisymm c d)) (tU l) (ZvE l)
end Go.Eng
namespace Go.Proofs.YtchkcemlglpobaaGreat
set_option linter.all false
open Go Go.RowKit Go.Lib Go.Sort Go.Eng Go.Shelf
def Gz:Value:=.agg #[.int .i64 0,.int .i64 0,.int .u64 0,.string ⟨#[]⟩,.slice none 0 0,.slice none 0 0,.slice none 0 0,.slice none 0 0]
theorem xq:(Tryz.prog.info? 63).map (fun i=>(i.zero,i.size,i.bytes))=some (some Gz,8,136):=by kernel_rfl
theorem Py{P:Program}(W:World){i t ty el:TypeId}{it:TypeInfo}(s:P.underlying i=some (.slice el))(hi:P.info? el=some it)(b o d g:Nat)(a:Addr)(c f n:Nat)(news:List Value)(r:Nat.min c d=n)(hl:news.length=n*it.size)
  (h:∀j v,news[j]?=some v→W.cell? (a.add j)=some v) (C:Array Value) (e:TypeId) (p:W.heap[b]?=some (.cells C e (0,0))) (q:o+news.length≤C.size) (l:∀v∈news,v.oneCell'=true):
  (Builtin.copy_ #[i,t] ty #[.slice (some ⟨b,o,none⟩) d g,.slice (some a) c f]).run P W=.ok (goInt n) (W.setRow b (C.toList.take o++news++C.toList.drop (o+news.length)).toArray):=by
 have m:=run_firstCells_some (P:=P) (w:=W) it.size n a c f news hl h
 have k:=run_storeCells_at (P:=P) b o e news 0 C W p (by omega) l
 simp only[Ed]at k
 simp[Builtin.copy_,run_underlying s,Builtin.lenOf,sizeOf,typeInfo,hi,r,m,k]
def Ct(C:Array Value)(o:Nat)(news:List Value):Array Value:=(C.toList.take o++news++C.toList.drop (o+news.length)).toArray
set_option maxHeartbeats 4000000 in
set_option maxRecDepth 1000000 in
theorem ZsQ(b off n c i vb voff vc:Nat)(cs vs:List Value)(w:World)(hi:i<n)(hroom:n+1≤c)(hn63:n<549755813888)(hvb:vb≠b)(hcl:cs.length=n*8)(hvl:vs.length=8)
  (C D:Array Value) (e2:TypeId) (hb:w.heap[b]?=some (.cells C 63 (0,0))) (hC:C.size=off+c*8) (hcs:∀j v,cs[j]?=some v→C[off+j]?=some v) (hD:w.heap[vb]?=some (.cells D e2 (0,0))) (hvs:∀j v,vs[j]?=some v→D[voff+j]?=some v)
  (h1c:∀v∈cs,v.oneCell'=true) (h1v:∀v∈vs,v.oneCell'=true):
  Calls Tryz.prog 72 #[.slice (some ⟨b,off,none⟩) n c,.int .i64 i,.slice (some ⟨vb,voff,none⟩) 1 vc] w fun e w'=>
   e=.returned (.slice (some ⟨b,off,none⟩) (n+1) c)∧w'=(w.drew.setRow b (Ct C (off+(i+1)*8) (cs.drop (i*8)))).setRow b (Ct (Ct C (off+(i+1)*8) (cs.drop (i*8))) (off+i*8) vs):=by
 obtain⟨i0,hi0,hz0,hz1,hz2⟩:=info_parts xq
 have hq2:¬((i:Int)=(n:Int)):=by omega
 have hov:∀lb cb,(callFunc 105 #[.slice (some ⟨vb,voff,none⟩) 1 vc,.slice (some ⟨b,off+(i+1)*8,none⟩) lb cb]).run Tryz.prog w=.ok (.value (.bool false)) w:=fun lb cb=>by
  rw[run_callFunc_extern Tryz.func105 (by kernel_rfl) (by kernel_rfl) (by kernel_rfl) (e:=Extern.SlicesOverlaps.overlaps #[32,32] #[4]) (by kernel_rfl),
   Lib.run_overlaps_apart w 32 4 63 Tryz.underlying32 8 Tryz.sizeOf63 ⟨vb,voff,none⟩ ⟨b,off+(i+1)*8,none⟩ 1 vc lb cb hvb e2 63 D.size C.size (by simp[World.shape?,hD]) (by simp[World.shape?,hb]) (by omega) (by simp[World.frozen?,hD]) (by simp[World.frozen?,hD])]
  rfl
 have hdl:(cs.drop (i*8)).length=(n-i)*8:=by rw[YK,hcl,Ld]
 have hw1:IntKind.i64.wrap ((i:Int)+1)=(i:Int)+1:=by rw[IntKind.wrap_i64];omega
 have hw2:IntKind.i64.wrap ((n:Int)+1)=(n:Int)+1:=by rw[IntKind.wrap_i64];omega
 obtain⟨R1,hR1⟩:∃R1,R1=Ct C (off+(i+1)*8) (cs.drop (i*8)):=⟨_,rfl⟩
 have hR1s:R1.size=C.size:=by
  rw[hR1]
  unfold Ct
  simp only[HM,Yo,Yr,YK,YJ,hcl]
  omega
 obtain⟨W1,hW1⟩:∃W1,W1=w.drew.setRow b R1:=⟨_,rfl⟩
 have hcp1:∀ty dc sc,(Builtin.copy_ #[32,32] ty #[.slice (some ⟨b,off+(i+1)*8,none⟩) (n-i) dc,.slice (some ⟨b,off+i*8,none⟩) (n+1-i) sc]).run Tryz.prog w.drew=.ok (goInt ((n-i:Nat):Int)) W1:=fun ty dc sc=>by
  rw[Py w.drew Tryz.underlying32 hi0 b (off+(i+1)*8) (n-i) dc ⟨b,off+i*8,none⟩ (n+1-i) sc (n-i) (cs.drop (i*8)) (by simp only[NP];split<;>omega) (by rw[hdl,hz1])
   (fun j v hj=>by
    rw[YF]at hj
    rw[Addr.add_lit]
    unfold World.cell?
    simp only[World.drew,hb]
    rw[Yt]
    exact hcs _ v hj) C 63 hb (by omega) (fun v hv=>h1c v (Lb hv)),hW1,hR1]
  rfl
 have BN:W1.heap[b]?=some (.cells R1 63 (0,0)):=by rw[hW1];exact setRow_heap w.drew _ C _ _ _ hb
 have hD1:W1.heap[vb]?=some (.cells D e2 (0,0)):=by rw[hW1,setRow_other w.drew _ _ _ hvb];exact hD
 have hcp2:∀(W:World),W.heap=W1.heap→∀ty dc,(Builtin.copy_ #[32,32] ty #[.slice (some ⟨b,off+i*8,none⟩) (n+1-i) dc,.slice (some ⟨vb,voff,none⟩) 1 vc]).run Tryz.prog W=.ok (goInt 1) (W.setRow b (Ct R1 (off+i*8) vs)):=fun W hW ty dc=>
  Py W Tryz.underlying32 hi0 b (off+i*8) (n+1-i) dc ⟨vb,voff,none⟩ 1 vc 1 vs (by simp only[NP];split<;>omega) (by rw[hvl,hz1])
   (fun j v hj=>by
    rw[Addr.add_lit]
    unfold World.cell?
    simp only[hW,hD1]
    exact hvs j v hj) R1 63 (by rw[hW];exact BN) (by omega) h1v
 have mixed:Tryz.prog.follows Departure.mixedOrders=true:=by kernel_rfl
 have z63:=Tryz.sizeOf63
 have t32:=Tryz.underlying32
 have u32:=run_underlying Tryz.underlying32
 have hb1':(0:Int)≤(i:Int)+1:=by omega
 have hin:i≤n:=by omega
 have htn:((i:Int)+1).toNat=i+1:=by omega
 have Ar:¬(c=i+1):=by omega
 have SU:(i:Int)≤(n:Int)+1:=by omega
 have ii:¬(c=i):=by omega
 go_enter Tryz.func72,Tryz.ntmps72
 go_wp2_with (simp only[hov])
 go_region_law_o (refine step_copy_runI rfl _ _ 32 32 rfl _ _ (by simp[Act.eval,Act.put]) (by simp[Act.eval,Act.put]) (hcp1 _ _ _) ?_)
 go_wp2_with (refine wpList_copy_runI _ rfl _ _ 32 32 rfl _ _ rfl rfl (hcp2 _ (by rfl) _ _) ?_)
 go_ret
 exact⟨rfl,rfl⟩
set_option maxHeartbeats 4000000 in
set_option maxRecDepth 1000000 in
theorem Zw8(b off n c i vb voff vc:Nat)(cs vs:List Value)(w:World)(hi:i<n)(hnc:n≤c)(hroom:c<n+1)(hbig:(n+1)*136≤140737488355328)(hcl:cs.length=n*8)(hvl:vs.length=8)
  (hcs:∀j v,cs[j]?=some v→w.cell? ⟨b,off+j,none⟩=some v) (hvs:∀j v,vs[j]?=some v→w.cell? ⟨vb,voff+j,none⟩=some v)
  (h1c:∀v∈cs,v.oneCell'=true) (h1v:∀v∈vs,v.oneCell'=true) (ROW:Array Value) (hROW:ROW=(cs.take (i*8)).toArray++Builtin.zeroCells Gz.cells (n+1-i)++Builtin.zeroCells Gz.cells (grownCap w (n+1) c 63-(n+1))):
  Calls Tryz.prog 72 #[.slice (some ⟨b,off,none⟩) n c,.int .i64 i,.slice (some ⟨vb,voff,none⟩) 1 vc] w fun e w'=>
   e=.returned (.slice (some ⟨w.heap.size,0,none⟩) (n+1) (grownCap w (n+1) c 63))∧
   w'.heap=(((w.alloc (.cells ROW 63)).setRow w.heap.size (Ct ROW (i*8) vs)).setRow w.heap.size (Ct (Ct ROW (i*8) vs) ((i+1)*8) (cs.drop (i*8)))).heap∧w'.os=w.os∧w'.tape=w.tape∧w'.output=w.output:=by
 obtain⟨i0,hi0,hz0,hz1,hz2⟩:=info_parts xq
 have hq2:¬((i:Int)=(n:Int)):=by omega
 have hq3:(c:Int)<(n:Int)+1:=by omega
 have hbw:b<w.heap.size:=block_lt_of_cell (hcs 0 _ (Yb (by omega)))
 have hvw:vb<w.heap.size:=block_lt_of_cell (hvs 0 _ (Yb (by omega)))
 have hkk:(n:Int)+1-(i:Int)=((n+1-i:Nat):Int):=by omega
 have hik:i+(n+1-i)=n+1:=by omega
 have hold:(Builtin.firstCells i0.size i (.slice (some ⟨b,off,none⟩) i c)).run Tryz.prog w.drew=.ok (cs.take (i*8)).toArray w.drew:=by
  rw[hz1]
  exact run_firstCells_some w.drew 8 i ⟨b,off,none⟩ i c (cs.take (i*8)) (by rw[Yr];omega) (fun j v hj=>by
   rw[Addr.add_lit]
   rw[YO]at hj
   split at hj
   ·exact hcs j v hj
   ·cases hj)
 have hrz:∀ty,(Builtin.append_ #[32,3] ty #[.slice (some ⟨b,off,none⟩) i c,.int .i64 ((n:Int)+1-(i:Int))]).run Tryz.prog w=
   .ok (.slice (some ⟨w.heap.size,0,none⟩) (n+1) (grownCap w (n+1) c 63)) (w.drew.alloc (.cells ((cs.take (i*8)).toArray++Builtin.zeroCells Gz.cells (n+1-i)++Builtin.zeroCells Gz.cells (grownCap w (n+1) c 63-(n+1))) 63)):=fun ty=>by
  have h:=Lib.run_append_grow_zeros w 32 3 ty 63 i0 _ .i64 .i64 Tryz.underlying32 Tryz.underlying3 hi0 hz0 (some ⟨b,off,none⟩) i c (cs.take (i*8)) hold (n+1-i) (by omega) (by omega) (by omega) (by omega) (by rw[hz2];omega) (by rw[hz2,hik];exact growslice_fits hroom hbig)
  rw[hik]at h
  rw[hkk]
  exact h
 obtain⟨G,hG⟩:∃G,G=grownCap w (n+1) c 63:=⟨_,rfl⟩
 have hGn:n+1≤G:=by rw[hG];exact grownCap_ge w _ _ _
 have hG63:G≤9223372036854775807:=by
  have:=grownCap_le_maxLen w (n+1) c 63 (by unfold maxLen;omega)
  rw[←hG]at this
  unfold maxLen at this
  omega
 rw[←hG]at hrz hROW⊢
 rw[←hROW]at hrz
 have hRs:ROW.size=G*8:=by
  rw[hROW]
  simp only[NH,HM,Yr,hcl,Pq]
  rw[show Gz.cells.size=8 from rfl]
  omega
 obtain⟨R1,hR1⟩:∃R1,R1=Ct ROW (i*8) vs:=⟨_,rfl⟩
 have hR1s:R1.size=ROW.size:=by
  rw[hR1]
  unfold Ct
  simp only[HM,Yo,Yr,YK,YJ,hvl]
  omega
 have hdl:(cs.drop (i*8)).length=(n-i)*8:=by rw[YK,hcl,Ld]
 have hcpA:∀(W:World),W.heap=(w.alloc (.cells ROW 63)).heap→∀ty dc,(Builtin.copy_ #[32,32] ty #[.slice (some ⟨w.heap.size,i*8,none⟩) (n+1-i) dc,.slice (some ⟨vb,voff,none⟩) 1 vc]).run Tryz.prog W=.ok (goInt 1) (W.setRow w.heap.size R1):=fun W hW ty dc=>by
  rw[Py W Tryz.underlying32 hi0 w.heap.size (i*8) (n+1-i) dc ⟨vb,voff,none⟩ 1 vc 1 vs (by simp only[NP];split<;>omega) (by rw[hvl,hz1])
   (fun j v hj=>by
    rw[Addr.add_lit]
    unfold World.cell?
    simp only[hW]
    have:=hvs j v hj
    unfold World.cell? at this
    rw[show(w.alloc (.cells ROW 63)).heap[vb]?=w.heap[vb]? from by show(w.heap.push _)[vb]?=_;rw[Y7,if_neg (by omega)]]
    exact this) ROW 63 (by rw[hW];show(w.heap.push _)[w.heap.size]?=_;simp) (by omega) h1v,hR1]
  rfl
 have hcpB:∀(W:World),W.heap=((w.alloc (.cells ROW 63)).setRow w.heap.size R1).heap→∀ty dc sc,(Builtin.copy_ #[32,32] ty #[.slice (some ⟨w.heap.size,(i+1)*8,none⟩) (n-i) dc,.slice (some ⟨b,off+i*8,none⟩) (n-i) sc]).run Tryz.prog W=.ok (goInt ((n-i:Nat):Int)) (W.setRow w.heap.size (Ct R1 ((i+1)*8) (cs.drop (i*8)))):=fun W hW ty dc sc=>by
  have hA:(w.alloc (.cells ROW 63)).heap[w.heap.size]?=some (.cells ROW 63 (0,0)):=by show(w.heap.push _)[w.heap.size]?=_;simp
  exact Py W Tryz.underlying32 hi0 w.heap.size ((i+1)*8) (n-i) dc ⟨b,off+i*8,none⟩ (n-i) sc (n-i) (cs.drop (i*8)) (by simp only[NP];split<;>omega) (by rw[hdl,hz1])
   (fun j v hj=>by
    rw[YF]at hj
    rw[Addr.add_lit]
    unfold World.cell?
    simp only[hW]
    rw[setRow_other (w.alloc (.cells ROW 63)) _ _ _ (by omega:b≠w.heap.size)]
    have:=hcs _ v hj
    unfold World.cell? at this
    rw[show(w.alloc (.cells ROW 63)).heap[b]?=w.heap[b]? from by show(w.heap.push _)[b]?=_;rw[Y7,if_neg (by omega)]]
    rw[Yt]
    exact this) R1 63 (by rw[hW];exact setRow_heap _ _ ROW _ _ _ hA) (by rw[hdl];omega) (fun v hv=>h1c v (Lb hv))
 have mixed:Tryz.prog.follows Departure.mixedOrders=true:=by kernel_rfl
 have z63:=Tryz.sizeOf63
 have t32:=Tryz.underlying32
 have u32:=run_underlying Tryz.underlying32
 have hw1:IntKind.i64.wrap ((i:Int)+1)=(i:Int)+1:=by rw[IntKind.wrap_i64];omega
 have hw2:IntKind.i64.wrap ((n:Int)+1)=(n:Int)+1:=by rw[IntKind.wrap_i64];omega
 have hw3:IntKind.i64.wrap ((n:Int)+1-i)=(n:Int)+1-i:=by rw[IntKind.wrap_i64];omega
 have hb1':(0:Int)≤(i:Int)+1:=by omega
 have hin:i≤n:=by omega
 have htn:((i:Int)+1).toNat=i+1:=by omega
 have hGi:¬(G=i):=by omega
 have hGim:¬(G=i+1):=by omega
 have hci:¬(c=i):=by omega
 have SU:(i:Int)≤(n:Int):=by omega
 have hbN:b≠w.heap.size:=by omega
 rw[←hR1]
 clear hkk hik hold hROW hG hR1
 go_enter Tryz.func72,Tryz.ntmps72
 go_wp2_with (first
  |(at_builtin;refine Lib.wpList_append_run _ rfl _ _ _ _ rfl _ _ rfl rfl _ _ (hrz _) ?_)
  |(refine wpList_copy_runI _ rfl _ _ 32 32 rfl _ _ rfl rfl (hcpA _ (by rfl) _ _) ?_)
  |(refine wpList_copy_runI _ rfl _ _ 32 32 rfl _ _ rfl rfl (hcpB _ (by rfl) _ _ _) ?_))
 go_region_law_o (refine step_copy_runI rfl _ _ 32 32 rfl (.slice (some ⟨w.heap.size,(i+1)*8,none⟩) (n-i) (G-(i+1))) (.slice (some ⟨b,off+i*8,none⟩) (n-i) (c-i)) (by simp[Act.eval,Act.put]) (by simp[Act.eval,Act.put]) (hcpB _ (by rfl) 3 (G-(i+1)) (c-i)) ?_)
 go_wp2
 go_ret
 exact⟨rfl,rfl,rfl,rfl,rfl⟩
theorem PI(w:World)(b:Nat)(R:Array Value):(w.setRow b R).heap.size=w.heap.size:=by simp[World.setRow]
theorem JR{C:Array Value}{o:Nat}{news:List Value}(h:o+news.length≤C.size)(j:Nat):(Ct C o news)[j]?=if j<o then C[j]? else if j<o+news.length then news[j-o]? else C[j]?:=by
 unfold Ct
 have c:(C.toList.take o).length=o:=by rw[Yr,YJ];omega
 rw[ND]
 by_cases a:j<o
 ·rw[if_pos a,Y2,Yh (by omega),YO,if_pos a,Ym]
 ·rw[if_neg a]
  by_cases b:j<o+news.length
  ·rw[if_pos b,Yh (by rw[Yo];omega),Yn (by omega),c]
  ·rw[if_neg b,Yn (by rw[Yo];omega),YF,Yo,c,Ym]
   congr 1
   omega
theorem PL{C:Array Value}{o:Nat}{news:List Value}(h:o+news.length≤C.size):(Ct C o news).size=C.size:=by
 unfold Ct
 simp only[HM,Yo,Yr,YK,YJ]
 omega
theorem Iv(x:Slt):(Aj x).length=8:=by rw[F0];rfl
theorem sX(xs:List Slt)(x:Slt)(i:Nat)(hi:i<xs.length)(j:Nat):(Af Aj (xs.take i++x::xs.drop i))[j]?=if j<i*8 then(Af Aj xs)[j]? else if j<(i+1)*8 then(Af Aj [x])[j-i*8]? else(Af Aj xs)[j-8]?:=by
 have c:(Af Aj (xs.take i)).length=i*8:=by rw[CY Iv,Yr];omega
 have d:(Af Aj [x]).length=8:=by rw[CY Iv];rfl
 rw[show xs.take i++x::xs.drop i=xs.take i++([x]++xs.drop i)from rfl,JK,JK]
 by_cases a:j<i*8
 ·rw[if_pos a,Yh (by omega),←PN Iv,YO,if_pos a]
 ·rw[if_neg a,Yn (by omega),c]
  by_cases b:j<(i+1)*8
  ·rw[if_pos b,Yh (by omega)]
  ·rw[if_neg b,Yn (by omega),d,←JE Iv,YF]
   congr 1
   omega
theorem xu{C:Array Value}{o n:Nat}(h:o+n≤C.size)(j:Nat):((C.extract o (o+n)).toList)[j]?=if j<n then C[o+j]? else none:=by
 rw[Ym,Y3]
 by_cases a:j<n
 ·rw[if_pos a,if_pos (by omega)]
 ·rw[if_neg a,if_neg (by omega)]
set_option maxRecDepth 100000 in
theorem Zux{ℓ:Nat}{ℋ:Hp}{k0 k1:Ac}(hk0:k0.1≤ℓ)(hk1:k1.1≤ℓ)(hne:k0≠k1){g0 g1:Nat}(xs:List Slt)(x:Slt)(i:Nat)(hi:i<xs.length)(hb:xs.length<549755813888)(hH0:ℋ k0=⟨g0,true,.t 63,8,Af Aj xs⟩)(hH1:ℋ k1=⟨g1,true,.t 63,8,Af Aj [x]⟩)
  {Post:AV→Hp→Prop} (h:Post (.ref k0 (g0+1) 0 (xs.length+1)) (updH ℋ k0 ⟨g0+1,true,.t 63,8,Af Aj (xs.take i++x::xs.drop i)⟩)):Zct Tryz.prog 72 ℓ [.ref k0 g0 0 xs.length,.d (.int .i64 i),.ref k1 g1 0 1] ℋ Post:=
 ⟨⟨_,AD Tryz.f72,Tryz.func72,by kernel_rfl,by kernel_rfl⟩,fun m S w vs hO hA=>by
  obtain⟨hs,hr⟩:=hA
  obtain⟨vl⟩:=vs
  match vl,hs,hr with
  |[v0,v1,v2],_,hr=>
   have h0:=hr 0 _ v0 rfl rfl
   have h1:=hr 1 _ v1 rfl rfl
   have h2:=hr 2 _ v2 rfl rfl
   cases h1 with
   |d _ _ h1=>
   cases h1 with
   |int _ _=>
   have hl0:(ℋ k0).live=true:=by rw[hH0]
   have hg0:(ℋ k0).g=g0:=by rw[hH0]
   have hl1:(ℋ k1).live=true:=by rw[hH1]
   have hg1:(ℋ k1).g=g1:=by rw[hH1]
   cases h0 with
   |refD _ _ _ _ _ _ _ hd _=>rw[hd hg0.symm]at hl0;cases hl0
   |refL _ _ _ a0 _ _ hcap0 ha0=>
   cases h2 with
   |refD _ _ _ _ _ _ _ hd _=>rw[hd hg1.symm]at hl1;cases hl1
   |refL _ _ _ a1 _ _ hcap1 ha1=>
    rw[Nat.sub_zero,YD]at*
    have hc0:(m k0).cap≠0:=by omega
    have hc1:(m k1).cap≠0:=by omega
    obtain⟨C,c1,c2,c3,c4⟩:=hO.blk k0 hk0 hl0 hc0
    obtain⟨D,d1,d2,d3,d4⟩:=hO.blk k1 hk1 hl1 hc1
    have ha0':=ha0 (by omega)
    have ha1':=ha1 (by omega)
    rw[FS,Ed]at ha0' ha1'
    subst ha0'
    subst ha1'
    rw[hH0]at c1 c2 c3 c4
    rw[hH1]at d1 d2 d3 d4
    dsimp only at c1 c2 c3 c4 d1 d2 d3 d4
    have hbb:(m k1).b≠(m k0).b:=fun e=>hne (hO.inj k1 k0 hk1 hk0 hl1 hl0 hc1 hc0 e).symm
    have hn8:xs.length*8≤(m k0).cap*8:=YG _ hcap0
    have hlen:(Af Aj xs).length=xs.length*8:=CY Iv xs
    have hlen1:(Af Aj [x]).length=8:=by rw[CY Iv];rfl
    obtain⟨cs,hcs⟩:∃cs,cs=(C.extract (m k0).o ((m k0).o+xs.length*8)).toList:=⟨_,rfl⟩
    obtain⟨vs,hvs⟩:∃vs,vs=(D.extract (m k1).o ((m k1).o+8)).toList:=⟨_,rfl⟩
    have hcl:cs.length=xs.length*8:=by rw[hcs,YJ,Array.size_extract];omega
    have hvl:vs.length=8:=by rw[hvs,YJ,Array.size_extract];omega
    have hca:∀j,cs[j]?=if j<xs.length*8 then C[(m k0).o+j]? else none:=fun j=>by rw[hcs];exact xu (by omega) j
    have hva:∀j,vs[j]?=if j<8 then D[(m k1).o+j]? else none:=fun j=>by rw[hvs];exact xu (by omega) j
    have hca':∀j v,cs[j]?=some v→C[(m k0).o+j]?=some v:=fun j v hj=>by
     rw[hca]at hj
     split at hj
     ·exact hj
     ·cases hj
    have hva':∀j v,vs[j]?=some v→D[(m k1).o+j]?=some v:=fun j v hj=>by
     rw[hva]at hj
     split at hj
     ·exact hj
     ·cases hj
    have low:∀{y:AV} {v:Value},y∈Af Aj [x]→RepA w S ℋ m k1.1 y v→RepA w S ℋ m k0.1 y v:=fun {y v} hy hr=>by
     obtain⟨d,rfl⟩:∃d,y=.d d:=by
      obtain⟨d,_,rfl⟩:=Yy.1 hy
      exact⟨d,rfl⟩
     cases hr with
     |d _ _ h=>exact .d _ _ h
    have crep:∀(j:Nat) (y:AV) (v:Value),(Af Aj xs)[j]?=some y→cs[j]?=some v→v.oneCell'=true∧RepA w S ℋ m k0.1 y v:=fun j y v hy hv=>by
     rw[hca]at hv
     split at hv
     ·exact c4 j y v hy hv
     ·cases hv
    have vrep:∀(j:Nat) (y:AV) (v:Value),(Af Aj [x])[j]?=some y→vs[j]?=some v→v.oneCell'=true∧RepA w S ℋ m k0.1 y v:=fun j y v hy hv=>by
     rw[hva]at hv
     split at hv
     ·exact⟨(d4 j y v hy hv).1,low (Yi hy) (d4 j y v hy hv).2⟩
     ·cases hv
    have h1c:∀v∈cs,v.oneCell'=true:=fun v hv=>by
     obtain⟨j,hj,rfl⟩:=List.mem_iff_getElem.1 hv
     exact(crep j _ _ (Yb (by omega)) (Yb hj)).1
    have h1v:∀v∈vs,v.oneCell'=true:=fun v hv=>by
     obtain⟨j,hj,rfl⟩:=List.mem_iff_getElem.1 hv
     exact(vrep j _ _ (Yb (by omega)) (Yb hj)).1
    have hdl:(cs.drop (i*8)).length=(xs.length-i)*8:=by rw[YK,hcl,Ld]
    have ref:∀(W:World) (M:MB),xs.length+1≤M.cap→RepA W S (updH ℋ k0 ⟨(ℋ k0).g+1,true,.t 63,8,Af Aj (xs.take i++x::xs.drop i)⟩) (A6 m k0 M) ℓ (.ref k0 ((ℋ k0).g+1) 0 (xs.length+1)) (.slice (some ⟨M.b,M.o,none⟩) (xs.length+1) M.cap):=fun W M hM=>by
     have:=RepA.refL (w:=W) (S:=S) (H:=updH ℋ k0 ⟨(ℋ k0).g+1,true,.t 63,8,Af Aj (xs.take i++x::xs.drop i)⟩) (m:=A6 m k0 M) (l:=ℓ) k0 0 (xs.length+1) (some ⟨M.b,M.o,none⟩) hk0 (by rw[AM]) (by rw[A0];omega) (fun _=>by rw[A0,FS,Ed])
     rw[AM,A0]at this
     exact this
    have hnl:(Af Aj (xs.take i++x::xs.drop i)).length=(xs.length+1)*8:=by
     rw[CY Iv]
     simp only[Yo,Yr,YV,YK]
     omega
    by_cases hroom:xs.length+1≤(m k0).cap
    ·have hr8:(xs.length+1)*8≤(m k0).cap*8:=YG _ hroom
     have hcall:=ZsQ (m k0).b (m k0).o xs.length (m k0).cap i (m k1).b (m k1).o (m k1).cap cs vs w hi hroom hb hbb hcl hvl C D 63 c1 c2 hca' d1 hva' h1c h1v
     refine hcall.mono fun e' w' ⟨q1,q2⟩=>?_
     obtain⟨R1,hR1⟩:∃R1,R1=Ct C ((m k0).o+(i+1)*8) (cs.drop (i*8)):=⟨_,rfl⟩
     have s1:(m k0).o+(i+1)*8+(cs.drop (i*8)).length≤C.size:=by rw[hdl];omega
     have hR1s:R1.size=C.size:=by rw[hR1];exact PL s1
     have s2:(m k0).o+i*8+vs.length≤R1.size:=by rw[hR1s,hvl];omega
     rw[←hR1]at q2
     have BN:(w.drew.setRow (m k0).b R1).heap[(m k0).b]?=some (.cells R1 63 (0,0)):=setRow_heap w.drew _ C _ _ _ c1
     obtain⟨k1',k2'⟩:=hO.over k0 hk0 ⟨(ℋ k0).g+1,true,.t 63,8,Af Aj (xs.take i++x::xs.drop i)⟩ ⟨(m k0).b,(m k0).o,(m k0).cap⟩ (YT _) rfl hc0
      (Ct R1 ((m k0).o+i*8) vs) w'
      (fun b=>by
       rw[q2]
       by_cases e:b=(m k0).b
       ·subst e;rw[if_pos rfl];exact setRow_heap _ _ R1 _ _ _ BN
       ·rw[if_neg e,setRow_other _ _ _ _ e,setRow_other w.drew _ _ _ e];rfl)
      (.inr ⟨rfl,hl0,hc0⟩) (by rw[PL s2,hR1s];exact c2) (by rw[hnl];exact hr8)
      (fun j y v hy hv=>by
       have hjl:=(Yd.1 hy).1
       rw[hnl]at hjl
       rw[sX xs x i hi]at hy
       dsimp only at hv
       rw[JR s2]at hv
       by_cases j1:j<i*8
       ·rw[if_pos j1]at hy
        rw[if_pos (by omega),hR1,JR s1,if_pos (by omega)]at hv
        exact c4 j y v hy hv
       ·rw[if_neg j1]at hy
        rw[if_neg (by omega)]at hv
        by_cases j2:j<(i+1)*8
        ·rw[if_pos j2]at hy
         rw[if_pos (by omega),show(m k0).o+j-((m k0).o+i*8)=j-i*8 by omega]at hv
         exact vrep _ y v hy hv
        ·rw[if_neg j2]at hy
         rw[if_neg (by omega),hR1,JR s1,if_neg (by omega),if_pos (by rw[hdl];omega),YF,show i*8+((m k0).o+j-((m k0).o+(i+1)*8))=j-8 by omega]at hv
         exact crep _ y v hy hv)
      (by rw[q2,PI,PI];exact Ye _) (by rw[q2];rfl) (by rw[q2];rfl) (by rw[q2];rfl)
     exact⟨_,_,_,_,_,q1,h,k1',ref _ ⟨(m k0).b,(m k0).o,(m k0).cap⟩ hroom,k2'⟩
    ·have hcall:=Zw8 (m k0).b (m k0).o xs.length (m k0).cap i (m k1).b (m k1).o (m k1).cap cs vs w hi hcap0 (by omega) (by omega) hcl hvl (fun j v hj=>by rw[Fi c1];exact hca' j v hj) (fun j v hj=>by rw[Fi d1];exact hva' j v hj) h1c h1v _ rfl
     refine hcall.mono fun e' w' ⟨q1,q2,q3,q4,q5⟩=>?_
     obtain⟨G,hG⟩:∃G,G=grownCap w (xs.length+1) (m k0).cap 63:=⟨_,rfl⟩
     have hGn:xs.length+1≤G:=by rw[hG];exact grownCap_ge w _ _ _
     rw[←hG]at q1 q2
     obtain⟨ROW,hROW⟩:∃ROW:Array Value,ROW=(cs.take (i*8)).toArray++Builtin.zeroCells Gz.cells (xs.length+1-i)++Builtin.zeroCells Gz.cells (G-(xs.length+1)):=⟨_,rfl⟩
     rw[←hROW]at q2
     have hRs:ROW.size=G*8:=by
      rw[hROW]
      simp only[NH,HM,Yr,hcl,Pq]
      rw[show Gz.cells.size=8 from rfl]
      omega
     have s1:i*8+vs.length≤ROW.size:=by rw[hvl,hRs];omega
     obtain⟨R1,hR1⟩:∃R1,R1=Ct ROW (i*8) vs:=⟨_,rfl⟩
     have hR1s:R1.size=ROW.size:=by rw[hR1];exact PL s1
     have s2:(i+1)*8+(cs.drop (i*8)).length≤R1.size:=by rw[hR1s,hdl,hRs];omega
     rw[←hR1]at q2
     have hA:(w.alloc (.cells ROW 63)).heap[w.heap.size]?=some (.cells ROW 63 (0,0)):=by show(w.heap.push _)[w.heap.size]?=_;simp
     have BN:((w.alloc (.cells ROW 63)).setRow w.heap.size R1).heap[w.heap.size]?=some (.cells R1 63 (0,0)):=setRow_heap _ _ ROW _ _ _ hA
     have hG0:G≠0:=by omega
     obtain⟨k1',k2'⟩:=hO.over k0 hk0 ⟨(ℋ k0).g+1,true,.t 63,8,Af Aj (xs.take i++x::xs.drop i)⟩ ⟨w.heap.size,0,G⟩ (YT _) rfl hG0
      (Ct R1 ((i+1)*8) (cs.drop (i*8))) w'
      (fun b=>by
       rw[q2]
       by_cases e:b=w.heap.size
       ·subst e;rw[if_pos rfl];exact setRow_heap _ _ R1 _ _ _ BN
       ·rw[if_neg e,setRow_other _ _ _ _ e,setRow_other _ _ _ _ e,F2,if_neg e])
      (.inl rfl) (by rw[PL s2,hR1s,hRs,YD]) (by rw[hnl];exact YG _ hGn)
      (fun j y v hy hv=>by
       have hjl:=(Yd.1 hy).1
       rw[hnl]at hjl
       rw[sX xs x i hi]at hy
       dsimp only at hv
       rw[YD,JR s2]at hv
       by_cases j1:j<i*8
       ·rw[if_pos j1]at hy
        rw[if_pos (by omega),hR1,JR s1,if_pos j1,hROW,Array.append_assoc,K9 (by simp only[HM,Yr];omega),ND,YO,if_pos j1]at hv
        exact crep j y v hy hv
       ·rw[if_neg j1]at hy
        by_cases j2:j<(i+1)*8
        ·rw[if_pos j2]at hy
         rw[if_pos j2,hR1,JR s1,if_neg j1,if_pos (by omega)]at hv
         exact vrep _ y v hy hv
        ·rw[if_neg j2]at hy
         rw[if_neg j2,if_pos (by rw[hdl];omega),YF,show i*8+(j-(i+1)*8)=j-8 by omega]at hv
         exact crep _ y v hy hv)
      (by rw[q2,PI,PI];show w.heap.size≤(w.heap.push _).size;simp) q3 q4 q5
     exact⟨_,_,_,_,_,q1,h,k1',ref _ ⟨w.heap.size,0,G⟩ hGn,k2'⟩⟩
end Go.Proofs.YtchkcemlglpobaaGreat
