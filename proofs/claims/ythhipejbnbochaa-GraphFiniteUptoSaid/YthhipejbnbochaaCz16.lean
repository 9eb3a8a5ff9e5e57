import Derived.Test.YthhipejbnbochaaProg
import Derived.Test.YthhipejbnbochaaCz10
import Derived.Test.YthhipejbnbochaaCz13
import Derived.WalkKit
import Derived.Shelf.RegionOpenPlain
import Derived.Deep.LoopGhost
import Derived.Deep.RegionLaw
import Derived.Lib.Walk
import Derived.Sort.WalkB12
import Derived.Lib.SliceRun
import Derived.Lib.SlicesDelete
import Derived.Test.YthhipejbnbochaaCz00
namespace Go.Proofs.Ythhipejbnbochaa
open Go Go.Eng
def ti3 : TI := { agg := false, kin := 3, siz := 1, zer := some [.d (.int .i64 0)], ik := some .i64, byt := some 256 }
theorem tk3 : TIok Try.prog 3 ti3 := .of (by kernel_rfl) (by kernel_rfl) (by kernel_rfl) (.inl rfl) (by kernel_rfl) (.inr (by kernel_rfl)) (.inl rfl) (.inl rfl) (.inr (by kernel_rfl)) (.inr ⟨256, by decide +kernel, by decide +kernel, rfl⟩) (.inr rfl)
def ti4 : TI := { agg := false, kin := 1, siz := 1, zer := some [.d (.bool false)], byt := some 256 }
theorem tk4 : TIok Try.prog 4 ti4 := .of (by kernel_rfl) (by kernel_rfl) (by kernel_rfl) (.inl rfl) (by kernel_rfl) (.inr (by kernel_rfl)) (.inl rfl) (.inl rfl) (.inl rfl) (.inr ⟨256, by decide +kernel, by decide +kernel, rfl⟩) (.inr rfl)
def ti5 : TI := { agg := false, kin := 3, siz := 1, zer := some [.d (.int .u8 0)], ik := some .u8, byt := some 256 }
theorem tk5 : TIok Try.prog 5 ti5 := .of (by kernel_rfl) (by kernel_rfl) (by kernel_rfl) (.inl rfl) (by kernel_rfl) (.inr (by kernel_rfl)) (.inl rfl) (.inl rfl) (.inr (by kernel_rfl)) (.inr ⟨256, by decide +kernel, by decide +kernel, rfl⟩) (.inr rfl)
def ti9 : TI := { agg := false, kin := 2, siz := 1, zer := some [.d (.str ⟨#[]⟩)], byt := some 256 }
theorem tk9 : TIok Try.prog 9 ti9 := .of (by kernel_rfl) (by kernel_rfl) (by kernel_rfl) (.inl rfl) (by kernel_rfl) (.inr (by kernel_rfl)) (.inl rfl) (.inl rfl) (.inl rfl) (.inr ⟨256, by decide +kernel, by decide +kernel, rfl⟩) (.inr rfl)
def Zvm : TI := { agg := false, kin := 4, siz := 1, elm := some (42, 5), zer := some [.e0], byt := some 256 }
theorem ZvI : TIok Try.prog 22 Zvm := .of (by kernel_rfl) (by kernel_rfl) (by kernel_rfl) (.inr (by kernel_rfl)) (by kernel_rfl) (.inr (by kernel_rfl)) (.inl rfl) (.inl rfl) (.inl rfl) (.inr ⟨256, by decide +kernel, by decide +kernel, rfl⟩) (.inr rfl)
def Zuu : TI := { agg := false, kin := 4, siz := 1, elm := some (89, 5), zer := some [.e0], byt := some 256 }
theorem Zvz : TIok Try.prog 23 Zuu := .of (by kernel_rfl) (by kernel_rfl) (by kernel_rfl) (.inr (by kernel_rfl)) (by kernel_rfl) (.inr (by kernel_rfl)) (.inl rfl) (.inl rfl) (.inl rfl) (.inr ⟨256, by decide +kernel, by decide +kernel, rfl⟩) (.inr rfl)
def ZuL : TI := { agg := false, kin := 4, siz := 1, elm := some (149, 3), zer := some [.e0], byt := some 256 }
theorem Zwl : TIok Try.prog 24 ZuL := .of (by kernel_rfl) (by kernel_rfl) (by kernel_rfl) (.inr (by kernel_rfl)) (by kernel_rfl) (.inr (by kernel_rfl)) (.inl rfl) (.inl rfl) (.inl rfl) (.inr ⟨256, by decide +kernel, by decide +kernel, rfl⟩) (.inr rfl)
def Zu2 : TI := { agg := true, kin := 0, siz := 3, fld := [(0, 1, false), (1, 1, false), (2, 1, false)], zer := some [.e0, .e0, .e0], str := true, byt := some 256 }
theorem ZvK : TIok Try.prog 26 Zu2 := .of (by kernel_rfl) (by kernel_rfl) (by kernel_rfl) (.inl rfl) (by kernel_rfl) (.inr (by kernel_rfl)) (.inl rfl) (.inr (by kernel_rfl)) (.inl rfl) (.inr ⟨256, by decide +kernel, by decide +kernel, rfl⟩) (.inr rfl)
def Zu5 : TI := { agg := false, kin := 4, siz := 1, elm := some (31, 1), zer := some [.e0], byt := some 256 }
theorem ZvE : TIok Try.prog 28 Zu5 := .of (by kernel_rfl) (by kernel_rfl) (by kernel_rfl) (.inr (by kernel_rfl)) (by kernel_rfl) (.inr (by kernel_rfl)) (.inl rfl) (.inl rfl) (.inl rfl) (.inr ⟨256, by decide +kernel, by decide +kernel, rfl⟩) (.inr rfl)
def Zvj : TI := { agg := false, kin := 4, siz := 1, elm := some (9, 1), zer := some [.e0], byt := some 256 }
theorem ZvP : TIok Try.prog 31 Zvj := .of (by kernel_rfl) (by kernel_rfl) (by kernel_rfl) (.inr (by kernel_rfl)) (by kernel_rfl) (.inr (by kernel_rfl)) (.inl rfl) (.inl rfl) (.inl rfl) (.inr ⟨256, by decide +kernel, by decide +kernel, rfl⟩) (.inr rfl)
def Zvp : TI := { agg := false, kin := 4, siz := 1, elm := some (3, 1), zer := some [.e0], byt := some 256 }
theorem Zwj : TIok Try.prog 33 Zvp := .of (by kernel_rfl) (by kernel_rfl) (by kernel_rfl) (.inr (by kernel_rfl)) (by kernel_rfl) (.inr (by kernel_rfl)) (.inl rfl) (.inl rfl) (.inl rfl) (.inr ⟨256, by decide +kernel, by decide +kernel, rfl⟩) (.inr rfl)
def Zvb : TI := { agg := false, kin := 3, siz := 1, zer := some [.d (.int .i64 0)], ik := some .i64, byt := some 256 }
theorem Zvu : TIok Try.prog 34 Zvb := .of (by kernel_rfl) (by kernel_rfl) (by kernel_rfl) (.inl rfl) (by kernel_rfl) (.inr (by kernel_rfl)) (.inl rfl) (.inl rfl) (.inr (by kernel_rfl)) (.inr ⟨256, by decide +kernel, by decide +kernel, rfl⟩) (.inr rfl)
def Zuv : TI := { agg := false, kin := 4, siz := 1, elm := some (57, 16), zer := some [.e0], byt := some 256 }
theorem ZvZ : TIok Try.prog 38 Zuv := .of (by kernel_rfl) (by kernel_rfl) (by kernel_rfl) (.inr (by kernel_rfl)) (by kernel_rfl) (.inr (by kernel_rfl)) (.inl rfl) (.inl rfl) (.inl rfl) (.inr ⟨256, by decide +kernel, by decide +kernel, rfl⟩) (.inr rfl)
def Zuw : TI := { agg := false, kin := 4, siz := 1, elm := some (151, 2), zer := some [.e0], byt := some 256 }
theorem Zv8 : TIok Try.prog 39 Zuw := .of (by kernel_rfl) (by kernel_rfl) (by kernel_rfl) (.inr (by kernel_rfl)) (by kernel_rfl) (.inr (by kernel_rfl)) (.inl rfl) (.inl rfl) (.inl rfl) (.inr ⟨256, by decide +kernel, by decide +kernel, rfl⟩) (.inr rfl)
def Zvc : TI := { agg := false, kin := 4, siz := 1, elm := some (153, 8), zer := some [.e0], byt := some 256 }
theorem Zwg : TIok Try.prog 40 Zvc := .of (by kernel_rfl) (by kernel_rfl) (by kernel_rfl) (.inr (by kernel_rfl)) (by kernel_rfl) (.inr (by kernel_rfl)) (.inl rfl) (.inl rfl) (.inl rfl) (.inr ⟨256, by decide +kernel, by decide +kernel, rfl⟩) (.inr rfl)
def ZuO : TI := { agg := true, kin := 0, siz := 5, fld := [(0, 1, false), (1, 1, false), (2, 1, false), (3, 1, false), (4, 1, false)], zer := some [.d (.str ⟨#[]⟩), .e0, .e0, .e0, .e0], str := true, byt := some 256 }
theorem ZvH : TIok Try.prog 42 ZuO := .of (by kernel_rfl) (by kernel_rfl) (by kernel_rfl) (.inl rfl) (by kernel_rfl) (.inr (by kernel_rfl)) (.inl rfl) (.inr (by kernel_rfl)) (.inl rfl) (.inr ⟨256, by decide +kernel, by decide +kernel, rfl⟩) (.inr rfl)
def ZuA : TI := { agg := true, kin := 0, siz := 2, fld := [(0, 1, false), (1, 1, false)], zer := some [.d (.int .i64 0), .d (.str ⟨#[]⟩)], eqt := some [3, 2], str := true, byt := some 256 }
theorem Zwe : TIok Try.prog 48 ZuA := .of (by kernel_rfl) (by kernel_rfl) (by kernel_rfl) (.inl rfl) (by kernel_rfl) (.inr (by kernel_rfl)) (.inr (by kernel_rfl)) (.inr (by kernel_rfl)) (.inl rfl) (.inr ⟨256, by decide +kernel, by decide +kernel, rfl⟩) (.inr rfl)
def ZuI : TI := { agg := false, kin := 3, siz := 1, zer := some [.d (.int .u64 0)], ik := some .u64, byt := some 256 }
theorem Zwb : TIok Try.prog 49 ZuI := .of (by kernel_rfl) (by kernel_rfl) (by kernel_rfl) (.inl rfl) (by kernel_rfl) (.inr (by kernel_rfl)) (.inl rfl) (.inl rfl) (.inr (by kernel_rfl)) (.inr ⟨256, by decide +kernel, by decide +kernel, rfl⟩) (.inr rfl)
def Zvf : TI := { agg := false, kin := 4, siz := 1, elm := some (55, 7), zer := some [.e0], byt := some 256 }
theorem Zwk : TIok Try.prog 50 Zvf := .of (by kernel_rfl) (by kernel_rfl) (by kernel_rfl) (.inr (by kernel_rfl)) (by kernel_rfl) (.inr (by kernel_rfl)) (.inl rfl) (.inl rfl) (.inl rfl) (.inr ⟨256, by decide +kernel, by decide +kernel, rfl⟩) (.inr rfl)
def Zuz : TI := { agg := false, kin := 4, siz := 1, elm := some (155, 14), zer := some [.e0], byt := some 256 }
theorem ZvO : TIok Try.prog 51 Zuz := .of (by kernel_rfl) (by kernel_rfl) (by kernel_rfl) (.inr (by kernel_rfl)) (by kernel_rfl) (.inr (by kernel_rfl)) (.inl rfl) (.inl rfl) (.inl rfl) (.inr ⟨256, by decide +kernel, by decide +kernel, rfl⟩) (.inr rfl)
def ZuF : TI := { agg := false, kin := 4, siz := 1, elm := some (157, 8), zer := some [.e0], byt := some 256 }
theorem Zv3 : TIok Try.prog 52 ZuF := .of (by kernel_rfl) (by kernel_rfl) (by kernel_rfl) (.inr (by kernel_rfl)) (by kernel_rfl) (.inr (by kernel_rfl)) (.inl rfl) (.inl rfl) (.inl rfl) (.inr ⟨256, by decide +kernel, by decide +kernel, rfl⟩) (.inr rfl)
def Zut : TI := { agg := false, kin := 4, siz := 1, elm := some (159, 4), zer := some [.e0], byt := some 256 }
theorem Zvw : TIok Try.prog 53 Zut := .of (by kernel_rfl) (by kernel_rfl) (by kernel_rfl) (.inr (by kernel_rfl)) (by kernel_rfl) (.inr (by kernel_rfl)) (.inl rfl) (.inl rfl) (.inl rfl) (.inr ⟨256, by decide +kernel, by decide +kernel, rfl⟩) (.inr rfl)
def ZuS : TI := { agg := true, kin := 0, siz := 7, fld := [(0, 1, false), (1, 1, false), (2, 1, false), (3, 1, false), (4, 1, false), (5, 1, false), (6, 1, false)], zer := some [.d (.int .i64 0), .d (.int .u64 0), .d (.str ⟨#[]⟩), .e0, .e0, .e0, .e0], str := true, byt := some 256 }
theorem Zvx : TIok Try.prog 55 ZuS := .of (by kernel_rfl) (by kernel_rfl) (by kernel_rfl) (.inl rfl) (by kernel_rfl) (.inr (by kernel_rfl)) (.inl rfl) (.inr (by kernel_rfl)) (.inl rfl) (.inr ⟨256, by decide +kernel, by decide +kernel, rfl⟩) (.inr rfl)
def ZuE : TI := { agg := true, kin := 0, siz := 16, fld := [(0, 1, false), (1, 1, false), (2, 1, false), (3, 1, false), (4, 2, true), (6, 1, false), (7, 1, false), (8, 7, true), (15, 1, false)], zer := some [.d (.int .i64 0), .d (.str ⟨#[]⟩), .d (.int .i64 0), .d (.int .i64 0), .d (.int .i64 0), .d (.str ⟨#[]⟩), .d (.str ⟨#[]⟩), .d (.bool false), .d (.int .i64 0), .d (.int .u64 0), .d (.str ⟨#[]⟩), .e0, .e0, .e0, .e0, .e0], str := true, byt := some 256 }
theorem Zv9 : TIok Try.prog 57 ZuE := .of (by kernel_rfl) (by kernel_rfl) (by kernel_rfl) (.inl rfl) (by kernel_rfl) (.inr (by kernel_rfl)) (.inl rfl) (.inr (by kernel_rfl)) (.inl rfl) (.inr ⟨256, by decide +kernel, by decide +kernel, rfl⟩) (.inr rfl)
def ZuB : TI := { agg := false, kin := 0, siz := 1, mp := some (true, [.str ⟨#[]⟩, .list [], .list [], .list [], .list []]), zer := some [.p (.map none)] }
theorem ZvG : TIok Try.prog 66 ZuB := .of (by kernel_rfl) (by kernel_rfl) (by kernel_rfl) (.inl rfl) (by kernel_rfl) (.inr (by kernel_rfl)) (.inl rfl) (.inl rfl) (.inl rfl) (.inl rfl) (.inr rfl)
def Zu7 : TI := { agg := false, kin := 0, siz := 1, mp := some (false, [.bool false]), zer := some [.p (.map none)] }
theorem Zwh : TIok Try.prog 67 Zu7 := .of (by kernel_rfl) (by kernel_rfl) (by kernel_rfl) (.inl rfl) (by kernel_rfl) (.inr (by kernel_rfl)) (.inl rfl) (.inl rfl) (.inl rfl) (.inl rfl) (.inr rfl)
def Zvn : TI := { agg := true, kin := 0, siz := 2, fld := [(0, 1, false), (1, 1, false)], zer := some [.p (.map none), .p (.map none)], str := true, byt := some 256 }
theorem Zv4 : TIok Try.prog 69 Zvn := .of (by kernel_rfl) (by kernel_rfl) (by kernel_rfl) (.inl rfl) (by kernel_rfl) (.inr (by kernel_rfl)) (.inl rfl) (.inr (by kernel_rfl)) (.inl rfl) (.inr ⟨256, by decide +kernel, by decide +kernel, rfl⟩) (.inr rfl)
def Zvd : TI := { agg := false, kin := 0, siz := 1, mp := some (false, [.map false []]), zer := some [.p (.map none)] }
theorem Zvs : TIok Try.prog 71 Zvd := .of (by kernel_rfl) (by kernel_rfl) (by kernel_rfl) (.inl rfl) (by kernel_rfl) (.inr (by kernel_rfl)) (.inl rfl) (.inl rfl) (.inl rfl) (.inl rfl) (.inr rfl)
def Zva : TI := { agg := false, kin := 0, siz := 1, zer := some [.p .nilFunc] }
theorem ZvJ : TIok Try.prog 75 Zva := .of (by kernel_rfl) (by kernel_rfl) (by kernel_rfl) (.inl rfl) (by kernel_rfl) (.inr (by kernel_rfl)) (.inl rfl) (.inl rfl) (.inl rfl) (.inl rfl) (.inr rfl)
def ZuU : TI := { agg := false, kin := 0, siz := 1, mp := some (false, [.list []]), zer := some [.p (.map none)] }
theorem Zv2 : TIok Try.prog 81 ZuU := .of (by kernel_rfl) (by kernel_rfl) (by kernel_rfl) (.inl rfl) (by kernel_rfl) (.inr (by kernel_rfl)) (.inl rfl) (.inl rfl) (.inl rfl) (.inl rfl) (.inr rfl)
def Zu4 : TI := { agg := false, kin := 4, siz := 1, elm := some (161, 3), zer := some [.e0], byt := some 256 }
theorem ZvY : TIok Try.prog 87 Zu4 := .of (by kernel_rfl) (by kernel_rfl) (by kernel_rfl) (.inr (by kernel_rfl)) (by kernel_rfl) (.inr (by kernel_rfl)) (.inl rfl) (.inl rfl) (.inl rfl) (.inr ⟨256, by decide +kernel, by decide +kernel, rfl⟩) (.inr rfl)
def Zu6 : TI := { agg := true, kin := 0, siz := 5, fld := [(0, 1, false), (1, 1, false), (2, 1, false), (3, 1, false), (4, 1, false)], zer := some [.d (.str ⟨#[]⟩), .d (.bool false), .e0, .e0, .e0], str := true, byt := some 256 }
theorem ZvU : TIok Try.prog 89 Zu6 := .of (by kernel_rfl) (by kernel_rfl) (by kernel_rfl) (.inl rfl) (by kernel_rfl) (.inr (by kernel_rfl)) (.inl rfl) (.inr (by kernel_rfl)) (.inl rfl) (.inr ⟨256, by decide +kernel, by decide +kernel, rfl⟩) (.inr rfl)
def ZuJ : TI := { agg := false, kin := 0, siz := 1, mp := some (false, [.int .i64 0]), zer := some [.p (.map none)] }
theorem Zwd : TIok Try.prog 92 ZuJ := .of (by kernel_rfl) (by kernel_rfl) (by kernel_rfl) (.inl rfl) (by kernel_rfl) (.inr (by kernel_rfl)) (.inl rfl) (.inl rfl) (.inl rfl) (.inl rfl) (.inr rfl)
def Zr0 : TI := { agg := false, kin := 3, siz := 1, zer := some [.d (.int .u64 0)], ik := some .u64, byt := some 256 }
theorem Zuh : TIok Try.prog 107 Zr0 := .of (by kernel_rfl) (by kernel_rfl) (by kernel_rfl) (.inl rfl) (by kernel_rfl) (.inr (by kernel_rfl)) (.inl rfl) (.inl rfl) (.inr (by kernel_rfl)) (.inr ⟨256, by decide +kernel, by decide +kernel, rfl⟩) (.inr rfl)
def ZrX : TI := { agg := false, kin := 3, siz := 1, zer := some [.d (.int .i64 0)], ik := some .i64, byt := some 256 }
theorem Zt5 : TIok Try.prog 110 ZrX := .of (by kernel_rfl) (by kernel_rfl) (by kernel_rfl) (.inl rfl) (by kernel_rfl) (.inr (by kernel_rfl)) (.inl rfl) (.inl rfl) (.inr (by kernel_rfl)) (.inr ⟨256, by decide +kernel, by decide +kernel, rfl⟩) (.inr rfl)
def Zqk : TI := { agg := false, kin := 3, siz := 1, zer := some [.d (.int .u32 0)], ik := some .u32, byt := some 256 }
theorem Zuc : TIok Try.prog 119 Zqk := .of (by kernel_rfl) (by kernel_rfl) (by kernel_rfl) (.inl rfl) (by kernel_rfl) (.inr (by kernel_rfl)) (.inl rfl) (.inl rfl) (.inr (by kernel_rfl)) (.inr ⟨256, by decide +kernel, by decide +kernel, rfl⟩) (.inr rfl)
def ZqF : TI := { agg := false, kin := 3, siz := 1, zer := some [.d (.int .u64 0)], ik := some .u64, byt := some 256 }
theorem ZtT : TIok Try.prog 122 ZqF := .of (by kernel_rfl) (by kernel_rfl) (by kernel_rfl) (.inl rfl) (by kernel_rfl) (.inr (by kernel_rfl)) (.inl rfl) (.inl rfl) (.inr (by kernel_rfl)) (.inr ⟨256, by decide +kernel, by decide +kernel, rfl⟩) (.inr rfl)
def ZqV : TI := { agg := false, kin := 0, siz := 1, zer := some [.p (.pointer none)] }
theorem Zup : TIok Try.prog 126 ZqV := .of (by kernel_rfl) (by kernel_rfl) (by kernel_rfl) (.inl rfl) (by kernel_rfl) (.inr (by kernel_rfl)) (.inl rfl) (.inl rfl) (.inl rfl) (.inl rfl) (.inr rfl)
def ZqB : TI := { agg := false, kin := 0, siz := 1, zer := some [.p (.pointer none)] }
theorem ZtV : TIok Try.prog 129 ZqB := .of (by kernel_rfl) (by kernel_rfl) (by kernel_rfl) (.inl rfl) (by kernel_rfl) (.inr (by kernel_rfl)) (.inl rfl) (.inl rfl) (.inl rfl) (.inl rfl) (.inr rfl)
def Zr8 : TI := { agg := false, kin := 4, siz := 1, elm := some (164, 5), zer := some [.e0], byt := some 256 }
theorem Zuq : TIok Try.prog 147 Zr8 := .of (by kernel_rfl) (by kernel_rfl) (by kernel_rfl) (.inr (by kernel_rfl)) (by kernel_rfl) (.inr (by kernel_rfl)) (.inl rfl) (.inl rfl) (.inl rfl) (.inr ⟨256, by decide +kernel, by decide +kernel, rfl⟩) (.inr rfl)
def Zq0 : TI := { agg := true, kin := 0, siz := 3, fld := [(0, 1, false), (1, 1, false), (2, 1, false)], zer := some [.d (.str ⟨#[]⟩), .e0, .e0], str := true, byt := some 256 }
theorem Zt2 : TIok Try.prog 149 Zq0 := .of (by kernel_rfl) (by kernel_rfl) (by kernel_rfl) (.inl rfl) (by kernel_rfl) (.inr (by kernel_rfl)) (.inl rfl) (.inr (by kernel_rfl)) (.inl rfl) (.inr ⟨256, by decide +kernel, by decide +kernel, rfl⟩) (.inr rfl)
def ZqE : TI := { agg := true, kin := 0, siz := 2, fld := [(0, 1, false), (1, 1, false)], zer := some [.d (.int .i64 0), .d (.int .i64 0)], eqt := some [3, 3], str := true, byt := some 256 }
theorem ZtQ : TIok Try.prog 151 ZqE := .of (by kernel_rfl) (by kernel_rfl) (by kernel_rfl) (.inl rfl) (by kernel_rfl) (.inr (by kernel_rfl)) (.inr (by kernel_rfl)) (.inr (by kernel_rfl)) (.inl rfl) (.inr ⟨256, by decide +kernel, by decide +kernel, rfl⟩) (.inr rfl)
def ZsU : TI := { agg := true, kin := 0, siz := 8, fld := [(0, 1, false), (1, 7, true)], zer := some [.d (.str ⟨#[]⟩), .d (.int .i64 0), .d (.int .u64 0), .d (.str ⟨#[]⟩), .e0, .e0, .e0, .e0], str := true, byt := some 256 }
theorem Zua : TIok Try.prog 153 ZsU := .of (by kernel_rfl) (by kernel_rfl) (by kernel_rfl) (.inl rfl) (by kernel_rfl) (.inr (by kernel_rfl)) (.inl rfl) (.inr (by kernel_rfl)) (.inl rfl) (.inr ⟨256, by decide +kernel, by decide +kernel, rfl⟩) (.inr rfl)
def ZqH : TI := { agg := true, kin := 0, siz := 14, fld := [(0, 7, true), (7, 7, true)], zer := some [.d (.int .i64 0), .d (.int .u64 0), .d (.str ⟨#[]⟩), .e0, .e0, .e0, .e0, .d (.int .i64 0), .d (.int .u64 0), .d (.str ⟨#[]⟩), .e0, .e0, .e0, .e0], str := true, byt := some 256 }
theorem ZtS : TIok Try.prog 155 ZqH := .of (by kernel_rfl) (by kernel_rfl) (by kernel_rfl) (.inl rfl) (by kernel_rfl) (.inr (by kernel_rfl)) (.inl rfl) (.inr (by kernel_rfl)) (.inl rfl) (.inr ⟨256, by decide +kernel, by decide +kernel, rfl⟩) (.inr rfl)
def Zs0 : TI := { agg := true, kin := 0, siz := 8, fld := [(0, 1, false), (1, 7, true)], zer := some [.d (.int .i64 0), .d (.int .i64 0), .d (.int .u64 0), .d (.str ⟨#[]⟩), .e0, .e0, .e0, .e0], str := true, byt := some 256 }
theorem Zt6 : TIok Try.prog 157 Zs0 := .of (by kernel_rfl) (by kernel_rfl) (by kernel_rfl) (.inl rfl) (by kernel_rfl) (.inr (by kernel_rfl)) (.inl rfl) (.inr (by kernel_rfl)) (.inl rfl) (.inr ⟨256, by decide +kernel, by decide +kernel, rfl⟩) (.inr rfl)
def ZsK : TI := { agg := true, kin := 0, siz := 4, fld := [(0, 1, false), (1, 1, false), (2, 1, false), (3, 1, false)], zer := some [.d (.int .i64 0), .d (.int .i64 0), .d (.int .u64 0), .d (.str ⟨#[]⟩)], eqt := some [3, 3, 3, 2], str := true, byt := some 256 }
theorem Zt9 : TIok Try.prog 159 ZsK := .of (by kernel_rfl) (by kernel_rfl) (by kernel_rfl) (.inl rfl) (by kernel_rfl) (.inr (by kernel_rfl)) (.inr (by kernel_rfl)) (.inr (by kernel_rfl)) (.inl rfl) (.inr ⟨256, by decide +kernel, by decide +kernel, rfl⟩) (.inr rfl)
def ZrA : TI := { agg := true, kin := 0, siz := 3, fld := [(0, 1, false), (1, 1, false), (2, 1, false)], zer := some [.d (.str ⟨#[]⟩), .d (.int .i64 0), .e0], str := true, byt := some 256 }
theorem Zuj : TIok Try.prog 161 ZrA := .of (by kernel_rfl) (by kernel_rfl) (by kernel_rfl) (.inl rfl) (by kernel_rfl) (.inr (by kernel_rfl)) (.inl rfl) (.inr (by kernel_rfl)) (.inl rfl) (.inr ⟨256, by decide +kernel, by decide +kernel, rfl⟩) (.inr rfl)
def Zrl : TI := { agg := true, kin := 0, siz := 5, fld := [(0, 1, false), (1, 1, false), (2, 1, false), (3, 1, false), (4, 1, false)], zer := some [.d (.str ⟨#[]⟩), .d (.str ⟨#[]⟩), .d (.str ⟨#[]⟩), .d (.int .i64 0), .e0], str := true, byt := some 256 }
theorem Zt1 : TIok Try.prog 164 Zrl := .of (by kernel_rfl) (by kernel_rfl) (by kernel_rfl) (.inl rfl) (by kernel_rfl) (.inr (by kernel_rfl)) (.inl rfl) (.inr (by kernel_rfl)) (.inl rfl) (.inr ⟨256, by decide +kernel, by decide +kernel, rfl⟩) (.inr rfl)
def tl : List (Nat × TI) := [(3, ti3), (4, ti4), (5, ti5), (9, ti9), (22, Zvm), (23, Zuu), (24, ZuL), (26, Zu2), (28, Zu5), (31, Zvj), (33, Zvp), (34, Zvb), (38, Zuv), (39, Zuw), (40, Zvc), (42, ZuO), (48, ZuA), (49, ZuI), (50, Zvf), (51, Zuz), (52, ZuF), (53, Zut), (55, ZuS), (57, ZuE), (66, ZuB), (67, Zu7), (69, Zvn), (71, Zvd), (75, Zva), (81, ZuU), (87, Zu4), (89, Zu6), (92, ZuJ), (107, Zr0), (110, ZrX), (119, Zqk), (122, ZqF), (126, ZqV), (129, ZqB), (147, Zr8), (149, Zq0), (151, ZqE), (153, ZsU), (155, ZqH), (157, Zs0), (159, ZsK), (161, ZrA), (164, Zrl)]
theorem tok : TOk Try.prog (lkT tl) := Zm5 tl (by
 intro p hp
 simp only [tl, Ys, List.not_mem_nil, or_false] at hp
 rcases hp with rfl | rfl | rfl | rfl | rfl | rfl | rfl | rfl | rfl | rfl | rfl | rfl | rfl | rfl | rfl | rfl | rfl | rfl | rfl | rfl | rfl | rfl | rfl | rfl | rfl | rfl | rfl | rfl | rfl | rfl | rfl | rfl | rfl | rfl | rfl | rfl | rfl | rfl | rfl | rfl | rfl | rfl | rfl | rfl | rfl | rfl | rfl | rfl
 ·exact tk3
 ·exact tk4
 ·exact tk5
 ·exact tk9
 ·exact ZvI
 ·exact Zvz
 ·exact Zwl
 ·exact ZvK
 ·exact ZvE
 ·exact ZvP
 ·exact Zwj
 ·exact Zvu
 ·exact ZvZ
 ·exact Zv8
 ·exact Zwg
 ·exact ZvH
 ·exact Zwe
 ·exact Zwb
 ·exact Zwk
 ·exact ZvO
 ·exact Zv3
 ·exact Zvw
 ·exact Zvx
 ·exact Zv9
 ·exact ZvG
 ·exact Zwh
 ·exact Zv4
 ·exact Zvs
 ·exact ZvJ
 ·exact Zv2
 ·exact ZvY
 ·exact ZvU
 ·exact Zwd
 ·exact Zuh
 ·exact Zt5
 ·exact Zuc
 ·exact ZtT
 ·exact Zup
 ·exact ZtV
 ·exact Zuq
 ·exact Zt2
 ·exact ZtQ
 ·exact Zua
 ·exact ZtS
 ·exact Zt6
 ·exact Zt9
 ·exact Zuj
 ·exact Zt1)
theorem tmo : Try.prog.follows .mixedOrders = true := by kernel_rfl
end Go.Proofs.Ythhipejbnbochaa
namespace Go.Proofs.Ythhipejbnbochaa
set_option linter.all false
open Go Go.RowKit Go.Lib Go.Sort Go.Eng
def Zov : Value := .slice none 0 0
def idV (v : Value) : Value := v
theorem Zsh : (Try.prog.info? 31).map (fun i => (i.zero, i.size, i.bytes)) = some (some Zov, 1, 24) := by kernel_rfl
set_option maxHeartbeats 4000000 in
set_option maxRecDepth 1000000 in
theorem Zmr (blk off cap i j : Nat) (d : Array Value) (w : World) (h1c : ∀ v ∈ d.toList, v.oneCell' = true) (hH : Holds idV w blk off d) (hcap : d.size ≤ cap) (hm : d.size ≤ 9223372036854775807) (hij : i ≤ j) (hj : j ≤ d.size) :
  Calls Try.prog 60 #[.slice (some ⟨blk, off, none⟩) d.size cap, .int .i64 i, .int .i64 j] w fun e w' => e = .returned (.slice (some ⟨blk, off, none⟩) (d.size - (j - i)) cap) ∧ ∃ q, w' = putRow idV (Sort.ahead w q) blk off (d.toList.take i ++ d.toList.drop j ++ List.replicate (j - i) Zov).toArray := by
 obtain ⟨i0, hi0, hz0, hz1, hz2⟩ := info_parts Zsh
 by_cases heq : i = j
 ·subst heq
  have h0 : Calls Try.prog 60 #[.slice (some ⟨blk, off, none⟩) d.size cap, .int .i64 i, .int .i64 i] w fun e w' => e = .returned (.slice (some ⟨blk, off, none⟩) d.size cap) ∧ w' = w := by
   clear hH
   go_enter Try.func60, Try.ntmps60
   go_wp2
   all_goals (go_ret; exact ⟨rfl, rfl⟩)
  refine h0.mono ?_
  rintro e w' ⟨rfl, rfl⟩
  have e : (d.toList.take i ++ d.toList.drop i ++ List.replicate (i - i) Zov).toArray = d := by simp
  refine ⟨by rw [Ybl, Ybm], 0, ?_⟩
  rw [e]
  exact (putRow_self idV (Sort.ahead w' 0) blk off d hH).symm
 ·have hlt : i < j := by omega
  obtain ⟨news, hnews⟩ : ∃ news, news = (d.toList.drop j).map idV := ⟨_, rfl⟩
  have hlen : news.length = d.size - j := by rw [hnews]; simp
  have hget : ∀ t, t < d.size - j → news[t]? = some (idV d[j + t]!) := by
   intro t ht
   rw [hnews, Yt, YG, Yk, getElem!_pos d (j + t) (by omega), Yf (by omega)]
   rfl
  obtain ⟨A, hA, hsrc⟩ : ∃ A : Addr, (if cap = j then some (⟨blk, off, none⟩ : Addr) else some ⟨blk, off + j, none⟩) = some A ∧ Hid (∀ t u, news[t]? = some u → w.drew.cell? (A.add t) = some u) := by
   by_cases h : cap = j
   ·refine ⟨⟨blk, off, none⟩, by simp [h], fun t u hu => ?_⟩
    have h0 : news.length = 0 := by rw [hlen]; omega
    rw [YaD.1 h0] at hu
    simp at hu
   ·refine ⟨⟨blk, off + j, none⟩, by simp [h], fun t u hu => ?_⟩
    have ht : t < d.size - j := by
     have := (Yh.1 hu).1
     rwa [hlen] at this
    rw [hget t ht] at hu
    rw [Addr.add_lit, show off + j + t = off + (j + t) by omega]
    exact (hH (j + t) (by omega)).1.trans hu
  have s1 : Hid (news.length = (d.size - j) * 1) := by rw [Yam]; exact hlen
  have s2 : Hid (∀ u ∈ news, u.oneCell' = true) := by
   intro u hu
   rw [hnews] at hu
   obtain ⟨x, hx, rfl⟩ := YB.1 hu
   exact h1c x (YaN hx)
  have s3 : Hid (∀ t, t < news.length → (w.drew.cell? ⟨blk, off + i * 1 + t, none⟩).isSome = true ∧ w.drew.frozen? ⟨blk, off + i * 1 + t, none⟩ = false) := by
   intro t ht
   rw [hlen] at ht
   rw [Yam, Yx]
   exact ⟨by show (w.cell? _).isSome = true; rw [(hH (i + t) (by omega)).1]; rfl, (hH (i + t) (by omega)).2⟩
  obtain ⟨W1, hW1⟩ : ∃ W1, W1 = w.drew.setCells blk (off + i * 1) news := ⟨_, rfl⟩
  have hW1' : W1 = putRow idV (Sort.ahead w 1) blk off (lay d i (d.toList.drop j)) := by
   rw [hW1, hnews, Yam, ← putRow_setCells idV (Sort.ahead w 1) blk off _ d i (by simp; omega), putRow_self idV (Sort.ahead w 1) blk off d (holds_ahead idV w 1 blk off d hH)]
   rfl
  have hH1 : Holds idV W1 blk off (lay d i (d.toList.drop j)) := by rw [hW1']; exact holds_putRow idV _ blk off d _ (holds_ahead idV w 1 blk off d hH) (lay_size _ _ _)
  have hcl : ∀ ty, (Builtin.clear_ #[28] ty #[.slice (some ⟨blk, off + (i + (d.size - j)), none⟩) (d.size - (i + (d.size - j))) (cap - (i + (d.size - j)))]).run Try.prog W1 = .ok (.tuple #[]) (W1.setCells blk (off + (i + (d.size - j))) (List.replicate (d.size - (i + (d.size - j))) (idV Zov))) :=
   fun ty => Lib.run_clear_slice W1 _ _ ty _ Try.underlying28 Try.zeroValue31 rfl rfl blk (off + (i + (d.size - j))) _ _ (by omega) (fun t ht => by rw [show off + (i + (d.size - j)) + t = off + (i + (d.size - j) + t) by omega, (hH1 _ (by rw [lay_size]; omega)).1]; rfl) (fun t ht => by rw [show off + (i + (d.size - j)) + t = off + (i + (d.size - j) + t) by omega]; exact (hH1 _ (by rw [lay_size]; omega)).2)
  have X : Aside (W1 = putRow idV (Sort.ahead w 1) blk off (lay d i (d.toList.drop j))) := hW1'
  have hW : Hid (W1 = w.drew.setCells blk (off + i * 1) news) := hW1
  have hic : i ≤ cap := by omega
  have hjc : j ≤ cap := by omega
  clear hW1 hW1' hH1 hH hget hnews hlen h1c
  go_enter Try.func60, Try.ntmps60
  go_wp2_with fail
  go_region_law (refine step_append_room rfl (.tmp 22) (.tmp 25) 28 rfl 31 i0 1 Try.underlying28 hi0 hz1 blk off i cap (by simp [Act.eval, Act.put]) A (d.size - j) (cap - j) news (by simp [Act.eval, Act.put]) s1.out hsrc.out s2.out (by omega) s3.out ?_; rw [← hW.out])
  go_wp2
  go_ret
  refine ⟨by rw [show d.size - (j - i) = i + (d.size - j) by omega]; rfl, 1, ?_⟩
  rw [← delete_arr d i j Zov hij hj, ← putRow_setCells idV _ blk off _ _ (i + (d.size - j)) (by rw [lay_size]; simp; omega), ← X.out, List.map_replicate, show d.size - (i + (d.size - j)) = j - i by omega]
theorem Zd2 (xs : List (List ByteArray)) : Zag Zas xs = xs.map fun x => .d (.list (x.map Zam)) := by
 induction xs with
 | nil => rfl
 | cons x l ih => rw [Zbe, ih]; rfl
theorem Zki {d : Array Value} {i : Nat} (h : i < d.size) : d[i]! = d[i] := getElem!_pos d i h
theorem ZpI {off : Nat} {d C : Array Value} {i : Nat} (hi : i < d.size) (hC : off + i < C.size) : (putCells idV off d C)[off + i]? = some d[i] := by
 unfold putCells
 rw [Ybj, Yf hC, YE, if_pos (by omega)]
 rw [show off + i - off = i from by omega, Zki hi]
 rfl
theorem ZjC {off : Nat} {d C : Array Value} : (putCells idV off d C).size = C.size := by
 unfold putCells
 rw [Array.size_mapIdx]
theorem Zkx {ℓ : Nat} {ℋ : Hp} {k : Key} (hk : k.1 ≤ ℓ) {g : Nat} {e : TypeId} (xs : List (List ByteArray)) (i j : Nat) (hij : i < j) (hj : j ≤ xs.length) (hb : xs.length < 4611686018427387904) (hH : ℋ k = ⟨g, true, e, 1, Zag Zas xs⟩)
  {Post : AV → Hp → Prop} (h : Post (.ref k g 0 (xs.take i ++ xs.drop j).length) (updH ℋ k ⟨g, true, e, 1, Zag Zas (xs.take i ++ xs.drop j)⟩)) : ZaK Try.prog 60 ℓ [.ref k g 0 xs.length, .d (.int .i64 i), .d (.int .i64 j)] ℋ Post :=
 ⟨⟨_, Zaq Try.f60, Try.func60, by kernel_rfl, by kernel_rfl⟩, fun m S w vs hO hA => by
  obtain ⟨hs, hr⟩ := hA
  obtain ⟨vl⟩ := vs
  match vl, hs, hr with
  | [v0, v1, v2], _, hr =>
   have h0 := hr 0 _ v0 rfl rfl
   have h1 := hr 1 _ v1 rfl rfl
   have h2 := hr 2 _ v2 rfl rfl
   cases h1 with
   | d _ _ h1 =>
   cases h1 with
   | int _ _ =>
   cases h2 with
   | d _ _ h2 =>
   cases h2 with
   | int _ _ =>
   have hl : (ℋ k).live = true := by rw [hH]
   have hg : (ℋ k).g = g := by rw [hH]
   cases h0 with
   | refD _ _ _ _ _ _ _ hd _ => rw [hd hg.symm] at hl; cases hl
   | refL _ _ _ a _ _ hcap ha =>
    rw [Ybm, Yz] at *
    have hc0 : (m k).cap ≠ 0 := by omega
    obtain ⟨C, c1, c2, c3, c4⟩ := hO.blk k hk hl hc0
    have ha' := ha (by omega)
    rw [Y8, Y7] at ha'
    subst ha'
    rw [hH] at c1 c2 c3 c4
    rw [Yam] at c2 c3
    have hlt : (m k).b < w.heap.size := (Yw.1 c1).1
    obtain ⟨d, hd⟩ : ∃ d, d = C.extract (m k).o ((m k).o + xs.length) := ⟨_, rfl⟩
    have hds : d.size = xs.length := by rw [hd, Array.size_extract]; omega
    have hat : ∀ t (ht : t < d.size), C[(m k).o + t]? = some d[t] := fun t ht => by
     subst hd
     rw [Array.getElem_extract, Yf (by omega)]
    have hHolds : Holds idV w (m k).b (m k).o d := fun t ht => by
     refine ⟨?_, ?_⟩
     ·unfold World.cell?
      simp only [c1]
      rw [Zki ht]
      exact hat t ht
     ·unfold World.frozen?
      simp only [c1]
      simp
    have hrep : ∀ t (ht : t < d.size) (x : List ByteArray), xs[t]? = some x → d[t].oneCell' = true ∧ RepA w S ℋ m k.1 (.d (.list (x.map Zam))) d[t] := fun t ht x hx =>
     c4 t _ _ (by show (Zag Zas xs)[t]? = _; rw [Zd2, Yt, hx]; rfl) (hat t ht)
    have h1c : ∀ v ∈ d.toList, v.oneCell' = true := fun v hv => by
     obtain ⟨t, ht, rfl⟩ := List.mem_iff_getElem.1 hv
     have ht' : t < d.size := by simpa using ht
     exact (hrep t ht' _ (Yc (by omega))).1
    have hcall := Zmr (m k).b (m k).o (m k).cap i j d w h1c hHolds (by omega) (by omega) (by omega) (by omega)
    rw [hds] at hcall
    refine hcall.mono fun e' w' ⟨h1, n, h2⟩ => ?_
    obtain ⟨D, hD⟩ : ∃ D, D = (d.toList.take i ++ d.toList.drop j ++ List.replicate (j - i) Zov).toArray := ⟨_, rfl⟩
    have hDs : D.size = xs.length := by rw [hD]; simp; omega
    rw [← hD] at h2
    have hlen : (xs.take i ++ xs.drop j).length = xs.length - (j - i) := by simp; omega
    have hDat : ∀ t x, (xs.take i ++ xs.drop j)[t]? = some x → ∃ (u : Nat) (hu : u < d.size) (ht : t < D.size), D[t] = d[u] ∧ xs[u]? = some x := fun t x hx => by
     have htl := (Yh.1 hx).1
     have htD : t < D.size := by omega
     have e1 : D[t]? = (d.toList.take i ++ d.toList.drop j ++ List.replicate (j - i) Zov)[t]? := by rw [hD]; exact YaL
     have ld : (d.toList.take i ++ d.toList.drop j).length = xs.length - (j - i) := by simp; omega
     rw [Yi (by omega)] at e1
     rcases Yo t i with hti | hti
     ·rw [Yi (by simp; omega), YL, if_pos hti] at hx
      rw [Yi (by simp; omega), YL, if_pos hti, Yk, Yf htD, Yf (by omega)] at e1
      exact ⟨t, by omega, htD, Option.some.inj e1, hx⟩
     ·have l1 : (xs.take i).length = i := by simp; omega
      have l2 : (d.toList.take i).length = i := by simp; omega
      rw [Ym (by omega), l1, YG] at hx
      rw [Ym (by omega), l2, YG, Yk, Yf htD, Yf (by omega)] at e1
      exact ⟨j + (t - i), by omega, htD, Option.some.inj e1, hx⟩
    obtain ⟨k1, k2⟩ := hO.write k hk hl hc0 (Zag Zas (xs.take i ++ xs.drop j)) (putCells idV (m k).o D C) (by rw [ZjC, c2, hH, Yam]) (by rw [Zd2, Yq, hH, Yam]; omega)
     (putRow idV (Sort.ahead w n) (m k).b (m k).o D) (fun b => by rw [hH]; exact ZmK (Sort.ahead w n) (m k).b _ c1 b) (by rw [size_putRow]; rfl) rfl rfl rfl (fun t x v hx hv => by
      rw [Zd2, Yt] at hx
      cases hq : (xs.take i ++ xs.drop j)[t]? with
      | none => rw [hq] at hx; cases hx
      | some y =>
       rw [hq] at hx
       cases hx
       obtain ⟨u, hu, ht, e1, e2⟩ := hDat t y hq
       rw [ZpI ht (by omega)] at hv
       cases hv
       rw [e1]
       exact hrep u hu y e2)
    rw [hH] at k1 k2
    subst h2
    refine ⟨_, _, _, m, S, h1, h, k1, ?_, k2⟩
    rw [hlen]
    have := RepA.refL (w := putRow idV (Sort.ahead w n) (m k).b (m k).o D) (S := S) (H := updH ℋ k ⟨(ℋ k).g, true, .t e, 1, Zag Zas (xs.take i ++ xs.drop j)⟩) (m := m) (l := ℓ) k 0 (xs.length - (j - i)) (some ⟨(m k).b, (m k).o, none⟩) hk (by rw [Zaa]) (by omega) (fun _ => by rw [Y8, Y7])
    rw [Zaa] at this
    exact this⟩
def Zh5 (p0 : List (List ByteArray)) (p1 p2 : Int) : Option (List (List ByteArray)) := if 0 ≤ p1 ∧ p1 < p2 ∧ p2 ≤ p0.length ∧ p0.length < 4611686018427387904 then some (p0.take p1.toNat ++ p0.drop p2.toNat) else none
abbrev E60 : List (List ByteArray) → AV := fun y => .ref (0, 0) 0 0 y.length
@[reducible] def G60 : List (List ByteArray) → List Blk := fun y => [⟨0, true, 31, 1, Zag Zas y⟩]
theorem Zv0 (p0 : List (List ByteArray)) (p1 p2 : Int) : KO Try.prog 60 1 [.ref (0, 0) 0 0 p0.length, vI p1, vI p2] [⟨0, true, 31, 1, Zag Zas p0⟩] (fun _ _ _ _ => True) (Zh5 p0 p1 p2) E60 G60 := ⟨fun l H ks gs θ hks hlow hnd hH _ y hy => by
 obtain ⟨⟨h0, h1, h2, h3⟩, hy⟩ := Zax hy
 cases hy
 obtain ⟨i, rfl⟩ := Ybc h0
 obtain ⟨j, rfl⟩ := Ybc (show 0 ≤ p2 by omega)
 match ks, hks with
 | [k0], _ => exact Zkx hlow.1 p0 i j (by omega) (by omega) h3 ((hH.1.2 rfl).trans (ZcM (Zah _ _))) ⟨rfl, (congrArg (updH H k0) (ZcM (Zah _ _))).symm⟩⟩
end Go.Proofs.Ythhipejbnbochaa
