import Derived.Test.YthhipejbnbochaaProg
import Derived.Test.YthhipejbnbochaaCx10
import Derived.Test.YthhipejbnbochaaCx13
import Derived.WalkKit
import Derived.Shelf.RegionOpenPlain
import Derived.Deep.LoopGhost
import Derived.Deep.RegionLaw
import Derived.Lib.Walk
import Derived.Sort.WalkB12
import Derived.Lib.SliceRun
import Derived.Lib.SlicesDelete
import Derived.Test.YthhipejbnbochaaCx00
namespace Go.Proofs.Ythhipejbnbochaa
open Go Go.Eng
def ti3 : TI := { agg := false, kin := 3, siz := 1, zer := some [.d (.int .i64 0)], ik := some .i64, byt := some 256 }
theorem tk3 : TIok Try.prog 3 ti3 := .of (by kernel_rfl) (by kernel_rfl) (by kernel_rfl) (.inl rfl) (by kernel_rfl) (.inr (by kernel_rfl)) (.inl rfl) (.inl rfl) (.inr (by kernel_rfl)) (.inr ⟨256, by decide +kernel, by decide +kernel, rfl⟩) (.inr rfl)
def ti4 : TI := { agg := false, kin := 1, siz := 1, zer := some [.d (.bool false)], byt := some 256 }
theorem tk4 : TIok Try.prog 4 ti4 := .of (by kernel_rfl) (by kernel_rfl) (by kernel_rfl) (.inl rfl) (by kernel_rfl) (.inr (by kernel_rfl)) (.inl rfl) (.inl rfl) (.inl rfl) (.inr ⟨256, by decide +kernel, by decide +kernel, rfl⟩) (.inr rfl)
def ti5 : TI := { agg := false, kin := 3, siz := 1, zer := some [.d (.int .u8 0)], ik := some .u8, byt := some 256 }
theorem tk5 : TIok Try.prog 5 ti5 := .of (by kernel_rfl) (by kernel_rfl) (by kernel_rfl) (.inl rfl) (by kernel_rfl) (.inr (by kernel_rfl)) (.inl rfl) (.inl rfl) (.inr (by kernel_rfl)) (.inr ⟨256, by decide +kernel, by decide +kernel, rfl⟩) (.inr rfl)
def ti9 : TI := { agg := false, kin := 2, siz := 1, zer := some [.d (.str ⟨#[]⟩)], byt := some 256 }
theorem tk9 : TIok Try.prog 9 ti9 := .of (by kernel_rfl) (by kernel_rfl) (by kernel_rfl) (.inl rfl) (by kernel_rfl) (.inr (by kernel_rfl)) (.inl rfl) (.inl rfl) (.inl rfl) (.inr ⟨256, by decide +kernel, by decide +kernel, rfl⟩) (.inr rfl)
def ZxL : TI := { agg := false, kin := 4, siz := 1, elm := some (42, 5), zer := some [.e0], byt := some 256 }
theorem Zy3 : TIok Try.prog 22 ZxL := .of (by kernel_rfl) (by kernel_rfl) (by kernel_rfl) (.inr (by kernel_rfl)) (by kernel_rfl) (.inr (by kernel_rfl)) (.inl rfl) (.inl rfl) (.inl rfl) (.inr ⟨256, by decide +kernel, by decide +kernel, rfl⟩) (.inr rfl)
def Zxx : TI := { agg := false, kin := 4, siz := 1, elm := some (89, 5), zer := some [.e0], byt := some 256 }
theorem Zyn : TIok Try.prog 23 Zxx := .of (by kernel_rfl) (by kernel_rfl) (by kernel_rfl) (.inr (by kernel_rfl)) (by kernel_rfl) (.inr (by kernel_rfl)) (.inl rfl) (.inl rfl) (.inl rfl) (.inr ⟨256, by decide +kernel, by decide +kernel, rfl⟩) (.inr rfl)
def Zxt : TI := { agg := false, kin := 4, siz := 1, elm := some (149, 3), zer := some [.e0], byt := some 256 }
theorem ZyZ : TIok Try.prog 24 Zxt := .of (by kernel_rfl) (by kernel_rfl) (by kernel_rfl) (.inr (by kernel_rfl)) (by kernel_rfl) (.inr (by kernel_rfl)) (.inl rfl) (.inl rfl) (.inl rfl) (.inr ⟨256, by decide +kernel, by decide +kernel, rfl⟩) (.inr rfl)
def ZxG : TI := { agg := true, kin := 0, siz := 3, fld := [(0, 1, false), (1, 1, false), (2, 1, false)], zer := some [.e0, .e0, .e0], str := true, byt := some 256 }
theorem ZyD : TIok Try.prog 26 ZxG := .of (by kernel_rfl) (by kernel_rfl) (by kernel_rfl) (.inl rfl) (by kernel_rfl) (.inr (by kernel_rfl)) (.inl rfl) (.inr (by kernel_rfl)) (.inl rfl) (.inr ⟨256, by decide +kernel, by decide +kernel, rfl⟩) (.inr rfl)
def Zxj : TI := { agg := false, kin := 4, siz := 1, elm := some (31, 1), zer := some [.e0], byt := some 256 }
theorem ZyH : TIok Try.prog 28 Zxj := .of (by kernel_rfl) (by kernel_rfl) (by kernel_rfl) (.inr (by kernel_rfl)) (by kernel_rfl) (.inr (by kernel_rfl)) (.inl rfl) (.inl rfl) (.inl rfl) (.inr ⟨256, by decide +kernel, by decide +kernel, rfl⟩) (.inr rfl)
def Zxz : TI := { agg := false, kin := 4, siz := 1, elm := some (9, 1), zer := some [.e0], byt := some 256 }
theorem Zy5 : TIok Try.prog 31 Zxz := .of (by kernel_rfl) (by kernel_rfl) (by kernel_rfl) (.inr (by kernel_rfl)) (by kernel_rfl) (.inr (by kernel_rfl)) (.inl rfl) (.inl rfl) (.inl rfl) (.inr ⟨256, by decide +kernel, by decide +kernel, rfl⟩) (.inr rfl)
def Zxq : TI := { agg := false, kin := 4, siz := 1, elm := some (3, 1), zer := some [.e0], byt := some 256 }
theorem Zyh : TIok Try.prog 33 Zxq := .of (by kernel_rfl) (by kernel_rfl) (by kernel_rfl) (.inr (by kernel_rfl)) (by kernel_rfl) (.inr (by kernel_rfl)) (.inl rfl) (.inl rfl) (.inl rfl) (.inr ⟨256, by decide +kernel, by decide +kernel, rfl⟩) (.inr rfl)
def Zyc : TI := { agg := false, kin := 3, siz := 1, zer := some [.d (.int .i64 0)], ik := some .i64, byt := some 256 }
theorem ZyY : TIok Try.prog 34 Zyc := .of (by kernel_rfl) (by kernel_rfl) (by kernel_rfl) (.inl rfl) (by kernel_rfl) (.inr (by kernel_rfl)) (.inl rfl) (.inl rfl) (.inr (by kernel_rfl)) (.inr ⟨256, by decide +kernel, by decide +kernel, rfl⟩) (.inr rfl)
def Zx8 : TI := { agg := false, kin := 4, siz := 1, elm := some (57, 16), zer := some [.e0], byt := some 256 }
theorem ZyI : TIok Try.prog 38 Zx8 := .of (by kernel_rfl) (by kernel_rfl) (by kernel_rfl) (.inr (by kernel_rfl)) (by kernel_rfl) (.inr (by kernel_rfl)) (.inl rfl) (.inl rfl) (.inl rfl) (.inr ⟨256, by decide +kernel, by decide +kernel, rfl⟩) (.inr rfl)
def Zx1 : TI := { agg := false, kin := 4, siz := 1, elm := some (151, 2), zer := some [.e0], byt := some 256 }
theorem Zze : TIok Try.prog 39 Zx1 := .of (by kernel_rfl) (by kernel_rfl) (by kernel_rfl) (.inr (by kernel_rfl)) (by kernel_rfl) (.inr (by kernel_rfl)) (.inl rfl) (.inl rfl) (.inl rfl) (.inr ⟨256, by decide +kernel, by decide +kernel, rfl⟩) (.inr rfl)
def ZxX : TI := { agg := false, kin := 4, siz := 1, elm := some (153, 8), zer := some [.e0], byt := some 256 }
theorem ZyN : TIok Try.prog 40 ZxX := .of (by kernel_rfl) (by kernel_rfl) (by kernel_rfl) (.inr (by kernel_rfl)) (by kernel_rfl) (.inr (by kernel_rfl)) (.inl rfl) (.inl rfl) (.inl rfl) (.inr ⟨256, by decide +kernel, by decide +kernel, rfl⟩) (.inr rfl)
def Zx4 : TI := { agg := true, kin := 0, siz := 5, fld := [(0, 1, false), (1, 1, false), (2, 1, false), (3, 1, false), (4, 1, false)], zer := some [.d (.str ⟨#[]⟩), .e0, .e0, .e0, .e0], str := true, byt := some 256 }
theorem Zyv : TIok Try.prog 42 Zx4 := .of (by kernel_rfl) (by kernel_rfl) (by kernel_rfl) (.inl rfl) (by kernel_rfl) (.inr (by kernel_rfl)) (.inl rfl) (.inr (by kernel_rfl)) (.inl rfl) (.inr ⟨256, by decide +kernel, by decide +kernel, rfl⟩) (.inr rfl)
def ZxB : TI := { agg := true, kin := 0, siz := 2, fld := [(0, 1, false), (1, 1, false)], zer := some [.d (.int .i64 0), .d (.str ⟨#[]⟩)], eqt := some [3, 2], str := true, byt := some 256 }
theorem ZyW : TIok Try.prog 48 ZxB := .of (by kernel_rfl) (by kernel_rfl) (by kernel_rfl) (.inl rfl) (by kernel_rfl) (.inr (by kernel_rfl)) (.inr (by kernel_rfl)) (.inr (by kernel_rfl)) (.inl rfl) (.inr ⟨256, by decide +kernel, by decide +kernel, rfl⟩) (.inr rfl)
def Zyd : TI := { agg := false, kin := 3, siz := 1, zer := some [.d (.int .u64 0)], ik := some .u64, byt := some 256 }
theorem Zyo : TIok Try.prog 49 Zyd := .of (by kernel_rfl) (by kernel_rfl) (by kernel_rfl) (.inl rfl) (by kernel_rfl) (.inr (by kernel_rfl)) (.inl rfl) (.inl rfl) (.inr (by kernel_rfl)) (.inr ⟨256, by decide +kernel, by decide +kernel, rfl⟩) (.inr rfl)
def Zx5 : TI := { agg := false, kin := 4, siz := 1, elm := some (55, 7), zer := some [.e0], byt := some 256 }
theorem Zy1 : TIok Try.prog 50 Zx5 := .of (by kernel_rfl) (by kernel_rfl) (by kernel_rfl) (.inr (by kernel_rfl)) (by kernel_rfl) (.inr (by kernel_rfl)) (.inl rfl) (.inl rfl) (.inl rfl) (.inr ⟨256, by decide +kernel, by decide +kernel, rfl⟩) (.inr rfl)
def ZxK : TI := { agg := false, kin := 4, siz := 1, elm := some (155, 14), zer := some [.e0], byt := some 256 }
theorem Zyf : TIok Try.prog 51 ZxK := .of (by kernel_rfl) (by kernel_rfl) (by kernel_rfl) (.inr (by kernel_rfl)) (by kernel_rfl) (.inr (by kernel_rfl)) (.inl rfl) (.inl rfl) (.inl rfl) (.inr ⟨256, by decide +kernel, by decide +kernel, rfl⟩) (.inr rfl)
def ZxC : TI := { agg := false, kin := 4, siz := 1, elm := some (157, 8), zer := some [.e0], byt := some 256 }
theorem Zzc : TIok Try.prog 52 ZxC := .of (by kernel_rfl) (by kernel_rfl) (by kernel_rfl) (.inr (by kernel_rfl)) (by kernel_rfl) (.inr (by kernel_rfl)) (.inl rfl) (.inl rfl) (.inl rfl) (.inr ⟨256, by decide +kernel, by decide +kernel, rfl⟩) (.inr rfl)
def Zxk : TI := { agg := false, kin := 4, siz := 1, elm := some (159, 4), zer := some [.e0], byt := some 256 }
theorem Zys : TIok Try.prog 53 Zxk := .of (by kernel_rfl) (by kernel_rfl) (by kernel_rfl) (.inr (by kernel_rfl)) (by kernel_rfl) (.inr (by kernel_rfl)) (.inl rfl) (.inl rfl) (.inl rfl) (.inr ⟨256, by decide +kernel, by decide +kernel, rfl⟩) (.inr rfl)
def Zxw : TI := { agg := true, kin := 0, siz := 7, fld := [(0, 1, false), (1, 1, false), (2, 1, false), (3, 1, false), (4, 1, false), (5, 1, false), (6, 1, false)], zer := some [.d (.int .i64 0), .d (.int .u64 0), .d (.str ⟨#[]⟩), .e0, .e0, .e0, .e0], str := true, byt := some 256 }
theorem ZyO : TIok Try.prog 55 Zxw := .of (by kernel_rfl) (by kernel_rfl) (by kernel_rfl) (.inl rfl) (by kernel_rfl) (.inr (by kernel_rfl)) (.inl rfl) (.inr (by kernel_rfl)) (.inl rfl) (.inr ⟨256, by decide +kernel, by decide +kernel, rfl⟩) (.inr rfl)
def ZxE : TI := { agg := true, kin := 0, siz := 16, fld := [(0, 1, false), (1, 1, false), (2, 1, false), (3, 1, false), (4, 2, true), (6, 1, false), (7, 1, false), (8, 7, true), (15, 1, false)], zer := some [.d (.int .i64 0), .d (.str ⟨#[]⟩), .d (.int .i64 0), .d (.int .i64 0), .d (.int .i64 0), .d (.str ⟨#[]⟩), .d (.str ⟨#[]⟩), .d (.bool false), .d (.int .i64 0), .d (.int .u64 0), .d (.str ⟨#[]⟩), .e0, .e0, .e0, .e0, .e0], str := true, byt := some 256 }
theorem Zye : TIok Try.prog 57 ZxE := .of (by kernel_rfl) (by kernel_rfl) (by kernel_rfl) (.inl rfl) (by kernel_rfl) (.inr (by kernel_rfl)) (.inl rfl) (.inr (by kernel_rfl)) (.inl rfl) (.inr ⟨256, by decide +kernel, by decide +kernel, rfl⟩) (.inr rfl)
def Zxy : TI := { agg := false, kin := 0, siz := 1, mp := some (true, [.str ⟨#[]⟩, .list [], .list [], .list [], .list []]), zer := some [.p (.map none)] }
theorem ZyJ : TIok Try.prog 66 Zxy := .of (by kernel_rfl) (by kernel_rfl) (by kernel_rfl) (.inl rfl) (by kernel_rfl) (.inr (by kernel_rfl)) (.inl rfl) (.inl rfl) (.inl rfl) (.inl rfl) (.inr rfl)
def Zxi : TI := { agg := false, kin := 0, siz := 1, mp := some (false, [.bool false]), zer := some [.p (.map none)] }
theorem Zzd : TIok Try.prog 67 Zxi := .of (by kernel_rfl) (by kernel_rfl) (by kernel_rfl) (.inl rfl) (by kernel_rfl) (.inr (by kernel_rfl)) (.inl rfl) (.inl rfl) (.inl rfl) (.inl rfl) (.inr rfl)
def ZxS : TI := { agg := true, kin := 0, siz := 2, fld := [(0, 1, false), (1, 1, false)], zer := some [.p (.map none), .p (.map none)], str := true, byt := some 256 }
theorem ZyF : TIok Try.prog 69 ZxS := .of (by kernel_rfl) (by kernel_rfl) (by kernel_rfl) (.inl rfl) (by kernel_rfl) (.inr (by kernel_rfl)) (.inl rfl) (.inr (by kernel_rfl)) (.inl rfl) (.inr ⟨256, by decide +kernel, by decide +kernel, rfl⟩) (.inr rfl)
def Zx6 : TI := { agg := false, kin := 0, siz := 1, mp := some (false, [.map false []]), zer := some [.p (.map none)] }
theorem Zyu : TIok Try.prog 71 Zx6 := .of (by kernel_rfl) (by kernel_rfl) (by kernel_rfl) (.inl rfl) (by kernel_rfl) (.inr (by kernel_rfl)) (.inl rfl) (.inl rfl) (.inl rfl) (.inl rfl) (.inr rfl)
def Zxm : TI := { agg := false, kin := 0, siz := 1, zer := some [.p .nilFunc] }
theorem Zyt : TIok Try.prog 75 Zxm := .of (by kernel_rfl) (by kernel_rfl) (by kernel_rfl) (.inl rfl) (by kernel_rfl) (.inr (by kernel_rfl)) (.inl rfl) (.inl rfl) (.inl rfl) (.inl rfl) (.inr rfl)
def Zya : TI := { agg := false, kin := 0, siz := 1, mp := some (false, [.list []]), zer := some [.p (.map none)] }
theorem Zyx : TIok Try.prog 81 Zya := .of (by kernel_rfl) (by kernel_rfl) (by kernel_rfl) (.inl rfl) (by kernel_rfl) (.inr (by kernel_rfl)) (.inl rfl) (.inl rfl) (.inl rfl) (.inl rfl) (.inr rfl)
def Zx7 : TI := { agg := false, kin := 4, siz := 1, elm := some (161, 3), zer := some [.e0], byt := some 256 }
theorem Zyl : TIok Try.prog 87 Zx7 := .of (by kernel_rfl) (by kernel_rfl) (by kernel_rfl) (.inr (by kernel_rfl)) (by kernel_rfl) (.inr (by kernel_rfl)) (.inl rfl) (.inl rfl) (.inl rfl) (.inr ⟨256, by decide +kernel, by decide +kernel, rfl⟩) (.inr rfl)
def ZxM : TI := { agg := true, kin := 0, siz := 5, fld := [(0, 1, false), (1, 1, false), (2, 1, false), (3, 1, false), (4, 1, false)], zer := some [.d (.str ⟨#[]⟩), .d (.bool false), .e0, .e0, .e0], str := true, byt := some 256 }
theorem ZyP : TIok Try.prog 89 ZxM := .of (by kernel_rfl) (by kernel_rfl) (by kernel_rfl) (.inl rfl) (by kernel_rfl) (.inr (by kernel_rfl)) (.inl rfl) (.inr (by kernel_rfl)) (.inl rfl) (.inr ⟨256, by decide +kernel, by decide +kernel, rfl⟩) (.inr rfl)
def Zx2 : TI := { agg := false, kin := 0, siz := 1, mp := some (false, [.int .i64 0]), zer := some [.p (.map none)] }
theorem Zyr : TIok Try.prog 92 Zx2 := .of (by kernel_rfl) (by kernel_rfl) (by kernel_rfl) (.inl rfl) (by kernel_rfl) (.inr (by kernel_rfl)) (.inl rfl) (.inl rfl) (.inl rfl) (.inl rfl) (.inr rfl)
def Zt3 : TI := { agg := false, kin := 3, siz := 1, zer := some [.d (.int .u64 0)], ik := some .u64, byt := some 256 }
theorem Zw6 : TIok Try.prog 107 Zt3 := .of (by kernel_rfl) (by kernel_rfl) (by kernel_rfl) (.inl rfl) (by kernel_rfl) (.inr (by kernel_rfl)) (.inl rfl) (.inl rfl) (.inr (by kernel_rfl)) (.inr ⟨256, by decide +kernel, by decide +kernel, rfl⟩) (.inr rfl)
def ZuX : TI := { agg := false, kin := 3, siz := 1, zer := some [.d (.int .i64 0)], ik := some .i64, byt := some 256 }
theorem Zxa : TIok Try.prog 110 ZuX := .of (by kernel_rfl) (by kernel_rfl) (by kernel_rfl) (.inl rfl) (by kernel_rfl) (.inr (by kernel_rfl)) (.inl rfl) (.inl rfl) (.inr (by kernel_rfl)) (.inr ⟨256, by decide +kernel, by decide +kernel, rfl⟩) (.inr rfl)
def Zut : TI := { agg := false, kin := 3, siz := 1, zer := some [.d (.int .u32 0)], ik := some .u32, byt := some 256 }
theorem Zw4 : TIok Try.prog 119 Zut := .of (by kernel_rfl) (by kernel_rfl) (by kernel_rfl) (.inl rfl) (by kernel_rfl) (.inr (by kernel_rfl)) (.inl rfl) (.inl rfl) (.inr (by kernel_rfl)) (.inr ⟨256, by decide +kernel, by decide +kernel, rfl⟩) (.inr rfl)
def Ztv : TI := { agg := false, kin := 3, siz := 1, zer := some [.d (.int .u64 0)], ik := some .u64, byt := some 256 }
theorem Zw9 : TIok Try.prog 122 Ztv := .of (by kernel_rfl) (by kernel_rfl) (by kernel_rfl) (.inl rfl) (by kernel_rfl) (.inr (by kernel_rfl)) (.inl rfl) (.inl rfl) (.inr (by kernel_rfl)) (.inr ⟨256, by decide +kernel, by decide +kernel, rfl⟩) (.inr rfl)
def ZtI : TI := { agg := false, kin := 0, siz := 1, zer := some [.p (.pointer none)] }
theorem Zw7 : TIok Try.prog 126 ZtI := .of (by kernel_rfl) (by kernel_rfl) (by kernel_rfl) (.inl rfl) (by kernel_rfl) (.inr (by kernel_rfl)) (.inl rfl) (.inl rfl) (.inl rfl) (.inl rfl) (.inr rfl)
def Zto : TI := { agg := false, kin := 0, siz := 1, zer := some [.p (.pointer none)] }
theorem ZwY : TIok Try.prog 129 Zto := .of (by kernel_rfl) (by kernel_rfl) (by kernel_rfl) (.inl rfl) (by kernel_rfl) (.inr (by kernel_rfl)) (.inl rfl) (.inl rfl) (.inl rfl) (.inl rfl) (.inr rfl)
def Zvs : TI := { agg := false, kin := 4, siz := 1, elm := some (164, 5), zer := some [.e0], byt := some 256 }
theorem Zxc : TIok Try.prog 147 Zvs := .of (by kernel_rfl) (by kernel_rfl) (by kernel_rfl) (.inr (by kernel_rfl)) (by kernel_rfl) (.inr (by kernel_rfl)) (.inl rfl) (.inl rfl) (.inl rfl) (.inr ⟨256, by decide +kernel, by decide +kernel, rfl⟩) (.inr rfl)
def Zvc : TI := { agg := true, kin := 0, siz := 3, fld := [(0, 1, false), (1, 1, false), (2, 1, false)], zer := some [.d (.str ⟨#[]⟩), .e0, .e0], str := true, byt := some 256 }
theorem ZwS : TIok Try.prog 149 Zvc := .of (by kernel_rfl) (by kernel_rfl) (by kernel_rfl) (.inl rfl) (by kernel_rfl) (.inr (by kernel_rfl)) (.inl rfl) (.inr (by kernel_rfl)) (.inl rfl) (.inr ⟨256, by decide +kernel, by decide +kernel, rfl⟩) (.inr rfl)
def ZtL : TI := { agg := true, kin := 0, siz := 2, fld := [(0, 1, false), (1, 1, false)], zer := some [.d (.int .i64 0), .d (.int .i64 0)], eqt := some [3, 3], str := true, byt := some 256 }
theorem ZwV : TIok Try.prog 151 ZtL := .of (by kernel_rfl) (by kernel_rfl) (by kernel_rfl) (.inl rfl) (by kernel_rfl) (.inr (by kernel_rfl)) (.inr (by kernel_rfl)) (.inr (by kernel_rfl)) (.inl rfl) (.inr ⟨256, by decide +kernel, by decide +kernel, rfl⟩) (.inr rfl)
def Zs2 : TI := { agg := true, kin := 0, siz := 8, fld := [(0, 1, false), (1, 7, true)], zer := some [.d (.str ⟨#[]⟩), .d (.int .i64 0), .d (.int .u64 0), .d (.str ⟨#[]⟩), .e0, .e0, .e0, .e0], str := true, byt := some 256 }
theorem ZwR : TIok Try.prog 153 Zs2 := .of (by kernel_rfl) (by kernel_rfl) (by kernel_rfl) (.inl rfl) (by kernel_rfl) (.inr (by kernel_rfl)) (.inl rfl) (.inr (by kernel_rfl)) (.inl rfl) (.inr ⟨256, by decide +kernel, by decide +kernel, rfl⟩) (.inr rfl)
def Zt2 : TI := { agg := true, kin := 0, siz := 14, fld := [(0, 7, true), (7, 7, true)], zer := some [.d (.int .i64 0), .d (.int .u64 0), .d (.str ⟨#[]⟩), .e0, .e0, .e0, .e0, .d (.int .i64 0), .d (.int .u64 0), .d (.str ⟨#[]⟩), .e0, .e0, .e0, .e0], str := true, byt := some 256 }
theorem Zw8 : TIok Try.prog 155 Zt2 := .of (by kernel_rfl) (by kernel_rfl) (by kernel_rfl) (.inl rfl) (by kernel_rfl) (.inr (by kernel_rfl)) (.inl rfl) (.inr (by kernel_rfl)) (.inl rfl) (.inr ⟨256, by decide +kernel, by decide +kernel, rfl⟩) (.inr rfl)
def Zvq : TI := { agg := true, kin := 0, siz := 8, fld := [(0, 1, false), (1, 7, true)], zer := some [.d (.int .i64 0), .d (.int .i64 0), .d (.int .u64 0), .d (.str ⟨#[]⟩), .e0, .e0, .e0, .e0], str := true, byt := some 256 }
theorem ZwG : TIok Try.prog 157 Zvq := .of (by kernel_rfl) (by kernel_rfl) (by kernel_rfl) (.inl rfl) (by kernel_rfl) (.inr (by kernel_rfl)) (.inl rfl) (.inr (by kernel_rfl)) (.inl rfl) (.inr ⟨256, by decide +kernel, by decide +kernel, rfl⟩) (.inr rfl)
def ZvK : TI := { agg := true, kin := 0, siz := 4, fld := [(0, 1, false), (1, 1, false), (2, 1, false), (3, 1, false)], zer := some [.d (.int .i64 0), .d (.int .i64 0), .d (.int .u64 0), .d (.str ⟨#[]⟩)], eqt := some [3, 3, 3, 2], str := true, byt := some 256 }
theorem ZwI : TIok Try.prog 159 ZvK := .of (by kernel_rfl) (by kernel_rfl) (by kernel_rfl) (.inl rfl) (by kernel_rfl) (.inr (by kernel_rfl)) (.inr (by kernel_rfl)) (.inr (by kernel_rfl)) (.inl rfl) (.inr ⟨256, by decide +kernel, by decide +kernel, rfl⟩) (.inr rfl)
def ZuG : TI := { agg := true, kin := 0, siz := 3, fld := [(0, 1, false), (1, 1, false), (2, 1, false)], zer := some [.d (.str ⟨#[]⟩), .d (.int .i64 0), .e0], str := true, byt := some 256 }
theorem ZwN : TIok Try.prog 161 ZuG := .of (by kernel_rfl) (by kernel_rfl) (by kernel_rfl) (.inl rfl) (by kernel_rfl) (.inr (by kernel_rfl)) (.inl rfl) (.inr (by kernel_rfl)) (.inl rfl) (.inr ⟨256, by decide +kernel, by decide +kernel, rfl⟩) (.inr rfl)
def ZtP : TI := { agg := true, kin := 0, siz := 5, fld := [(0, 1, false), (1, 1, false), (2, 1, false), (3, 1, false), (4, 1, false)], zer := some [.d (.str ⟨#[]⟩), .d (.str ⟨#[]⟩), .d (.str ⟨#[]⟩), .d (.int .i64 0), .e0], str := true, byt := some 256 }
theorem Zw0 : TIok Try.prog 164 ZtP := .of (by kernel_rfl) (by kernel_rfl) (by kernel_rfl) (.inl rfl) (by kernel_rfl) (.inr (by kernel_rfl)) (.inl rfl) (.inr (by kernel_rfl)) (.inl rfl) (.inr ⟨256, by decide +kernel, by decide +kernel, rfl⟩) (.inr rfl)
def tl : List (Nat × TI) := [(3, ti3), (4, ti4), (5, ti5), (9, ti9), (22, ZxL), (23, Zxx), (24, Zxt), (26, ZxG), (28, Zxj), (31, Zxz), (33, Zxq), (34, Zyc), (38, Zx8), (39, Zx1), (40, ZxX), (42, Zx4), (48, ZxB), (49, Zyd), (50, Zx5), (51, ZxK), (52, ZxC), (53, Zxk), (55, Zxw), (57, ZxE), (66, Zxy), (67, Zxi), (69, ZxS), (71, Zx6), (75, Zxm), (81, Zya), (87, Zx7), (89, ZxM), (92, Zx2), (107, Zt3), (110, ZuX), (119, Zut), (122, Ztv), (126, ZtI), (129, Zto), (147, Zvs), (149, Zvc), (151, ZtL), (153, Zs2), (155, Zt2), (157, Zvq), (159, ZvK), (161, ZuG), (164, ZtP)]
theorem tok : TOk Try.prog (lkT tl) := Zpd tl (by
 intro p hp
 simp only [tl, Yp, List.not_mem_nil, or_false] at hp
 rcases hp with rfl | rfl | rfl | rfl | rfl | rfl | rfl | rfl | rfl | rfl | rfl | rfl | rfl | rfl | rfl | rfl | rfl | rfl | rfl | rfl | rfl | rfl | rfl | rfl | rfl | rfl | rfl | rfl | rfl | rfl | rfl | rfl | rfl | rfl | rfl | rfl | rfl | rfl | rfl | rfl | rfl | rfl | rfl | rfl | rfl | rfl | rfl | rfl
 ·exact tk3
 ·exact tk4
 ·exact tk5
 ·exact tk9
 ·exact Zy3
 ·exact Zyn
 ·exact ZyZ
 ·exact ZyD
 ·exact ZyH
 ·exact Zy5
 ·exact Zyh
 ·exact ZyY
 ·exact ZyI
 ·exact Zze
 ·exact ZyN
 ·exact Zyv
 ·exact ZyW
 ·exact Zyo
 ·exact Zy1
 ·exact Zyf
 ·exact Zzc
 ·exact Zys
 ·exact ZyO
 ·exact Zye
 ·exact ZyJ
 ·exact Zzd
 ·exact ZyF
 ·exact Zyu
 ·exact Zyt
 ·exact Zyx
 ·exact Zyl
 ·exact ZyP
 ·exact Zyr
 ·exact Zw6
 ·exact Zxa
 ·exact Zw4
 ·exact Zw9
 ·exact Zw7
 ·exact ZwY
 ·exact Zxc
 ·exact ZwS
 ·exact ZwV
 ·exact ZwR
 ·exact Zw8
 ·exact ZwG
 ·exact ZwI
 ·exact ZwN
 ·exact Zw0)
theorem tmo : Try.prog.follows .mixedOrders = true := by kernel_rfl
end Go.Proofs.Ythhipejbnbochaa
namespace Go.Proofs.Ythhipejbnbochaa
set_option linter.all false
open Go Go.RowKit Go.Lib Go.Sort Go.Eng
def ZrM : Value := .slice none 0 0
def idV (v : Value) : Value := v
theorem Zur : (Try.prog.info? 31).map (fun i => (i.zero, i.size, i.bytes)) = some (some ZrM, 1, 24) := by kernel_rfl
set_option maxHeartbeats 4000000 in
set_option maxRecDepth 1000000 in
theorem Znx (blk off cap i j : Nat) (d : Array Value) (w : World) (h1c : ∀ v ∈ d.toList, v.oneCell' = true) (hH : Holds idV w blk off d) (hcap : d.size ≤ cap) (hm : d.size ≤ 9223372036854775807) (hij : i ≤ j) (hj : j ≤ d.size) :
  Calls Try.prog 60 #[.slice (some ⟨blk, off, none⟩) d.size cap, .int .i64 i, .int .i64 j] w fun e w' => e = .returned (.slice (some ⟨blk, off, none⟩) (d.size - (j - i)) cap) ∧ ∃ q, w' = putRow idV (Sort.ahead w q) blk off (d.toList.take i ++ d.toList.drop j ++ List.replicate (j - i) ZrM).toArray := by
 obtain ⟨i0, hi0, hz0, hz1, hz2⟩ := info_parts Zur
 by_cases heq : i = j
 ·subst heq
  have h0 : Calls Try.prog 60 #[.slice (some ⟨blk, off, none⟩) d.size cap, .int .i64 i, .int .i64 i] w fun e w' => e = .returned (.slice (some ⟨blk, off, none⟩) d.size cap) ∧ w' = w := by
   clear hH
   go_enter Try.func60, Try.ntmps60
   go_wp2
   all_goals (go_ret; exact ⟨rfl, rfl⟩)
  refine h0.mono ?_
  rintro e w' ⟨rfl, rfl⟩
  have e : (d.toList.take i ++ d.toList.drop i ++ List.replicate (i - i) ZrM).toArray = d := by simp
  refine ⟨by rw [Ybu, Ybg], 0, ?_⟩
  rw [e]
  exact (putRow_self idV (Sort.ahead w' 0) blk off d hH).symm
 ·have hlt : i < j := by omega
  obtain ⟨news, hnews⟩ : ∃ news, news = (d.toList.drop j).map idV := ⟨_, rfl⟩
  have hlen : news.length = d.size - j := by rw [hnews]; simp
  have hget : ∀ t, t < d.size - j → news[t]? = some (idV d[j + t]!) := by
   intro t ht
   rw [hnews, Ys, YD, Yk, getElem!_pos d (j + t) (by omega), Yh (by omega)]
   rfl
  obtain ⟨A, hA, hsrc⟩ : ∃ A : Addr, (if cap = j then some (⟨blk, off, none⟩ : Addr) else some ⟨blk, off + j, none⟩) = some A ∧ Hid (∀ t u, news[t]? = some u → w.drew.cell? (A.add t) = some u) := by
   by_cases h : cap = j
   ·refine ⟨⟨blk, off, none⟩, by simp [h], fun t u hu => ?_⟩
    have h0 : news.length = 0 := by rw [hlen]; omega
    rw [YaJ.1 h0] at hu
    simp at hu
   ·refine ⟨⟨blk, off + j, none⟩, by simp [h], fun t u hu => ?_⟩
    have ht : t < d.size - j := by
     have := (Yg.1 hu).1
     rwa [hlen] at this
    rw [hget t ht] at hu
    rw [Addr.add_lit, show off + j + t = off + (j + t) by omega]
    exact (hH (j + t) (by omega)).1.trans hu
  have s1 : Hid (news.length = (d.size - j) * 1) := by rw [Yap]; exact hlen
  have s2 : Hid (∀ u ∈ news, u.oneCell' = true) := by
   intro u hu
   rw [hnews] at hu
   obtain ⟨x, hx, rfl⟩ := Yr.1 hu
   exact h1c x (YaT hx)
  have s3 : Hid (∀ t, t < news.length → (w.drew.cell? ⟨blk, off + i * 1 + t, none⟩).isSome = true ∧ w.drew.frozen? ⟨blk, off + i * 1 + t, none⟩ = false) := by
   intro t ht
   rw [hlen] at ht
   rw [Yap, Yv]
   exact ⟨by show (w.cell? _).isSome = true; rw [(hH (i + t) (by omega)).1]; rfl, (hH (i + t) (by omega)).2⟩
  obtain ⟨W1, hW1⟩ : ∃ W1, W1 = w.drew.setCells blk (off + i * 1) news := ⟨_, rfl⟩
  have hW1' : W1 = putRow idV (Sort.ahead w 1) blk off (lay d i (d.toList.drop j)) := by
   rw [hW1, hnews, Yap, ← putRow_setCells idV (Sort.ahead w 1) blk off _ d i (by simp; omega), putRow_self idV (Sort.ahead w 1) blk off d (holds_ahead idV w 1 blk off d hH)]
   rfl
  have hH1 : Holds idV W1 blk off (lay d i (d.toList.drop j)) := by rw [hW1']; exact holds_putRow idV _ blk off d _ (holds_ahead idV w 1 blk off d hH) (lay_size _ _ _)
  have hcl : ∀ ty, (Builtin.clear_ #[28] ty #[.slice (some ⟨blk, off + (i + (d.size - j)), none⟩) (d.size - (i + (d.size - j))) (cap - (i + (d.size - j)))]).run Try.prog W1 = .ok (.tuple #[]) (W1.setCells blk (off + (i + (d.size - j))) (List.replicate (d.size - (i + (d.size - j))) (idV ZrM))) :=
   fun ty => Lib.run_clear_slice W1 _ _ ty _ Try.underlying28 Try.zeroValue31 rfl rfl blk (off + (i + (d.size - j))) _ _ (by omega) (fun t ht => by rw [show off + (i + (d.size - j)) + t = off + (i + (d.size - j) + t) by omega, (hH1 _ (by rw [lay_size]; omega)).1]; rfl) (fun t ht => by rw [show off + (i + (d.size - j)) + t = off + (i + (d.size - j) + t) by omega]; exact (hH1 _ (by rw [lay_size]; omega)).2)
  have X : Aside (W1 = putRow idV (Sort.ahead w 1) blk off (lay d i (d.toList.drop j))) := hW1'
  have hW : Hid (W1 = w.drew.setCells blk (off + i * 1) news) := hW1
  have hic : i ≤ cap := by omega
  have hjc : j ≤ cap := by omega
  clear hW1 hW1' hH1 hH hget hnews hlen h1c
  go_enter Try.func60, Try.ntmps60
  go_wp2_with fail
  go_region_law (refine step_append_room rfl (.tmp 22) (.tmp 25) 28 rfl 31 i0 1 Try.underlying28 hi0 hz1 blk off i cap (by simp [Act.eval, Act.put]) A (d.size - j) (cap - j) news (by simp [Act.eval, Act.put]) s1.out hsrc.out s2.out (by omega) s3.out ?_; rw [← hW.out])
  go_wp2
  go_ret
  refine ⟨by rw [show d.size - (j - i) = i + (d.size - j) by omega]; rfl, 1, ?_⟩
  rw [← delete_arr d i j ZrM hij hj, ← putRow_setCells idV _ blk off _ _ (i + (d.size - j)) (by rw [lay_size]; simp; omega), ← X.out, List.map_replicate, show d.size - (i + (d.size - j)) = j - i by omega]
theorem Zey (xs : List (List ByteArray)) : Zah Zau xs = xs.map fun x => .d (.list (x.map Zad)) := by
 induction xs with
 | nil => rfl
 | cons x l ih => rw [Zbs, ih]; rfl
theorem ZkP {d : Array Value} {i : Nat} (h : i < d.size) : d[i]! = d[i] := getElem!_pos d i h
theorem ZqG {off : Nat} {d C : Array Value} {i : Nat} (hi : i < d.size) (hC : off + i < C.size) : (putCells idV off d C)[off + i]? = some d[i] := by
 unfold putCells
 rw [Ybs, Yh hC, YB, if_pos (by omega)]
 rw [show off + i - off = i from by omega, ZkP hi]
 rfl
theorem ZkW {off : Nat} {d C : Array Value} : (putCells idV off d C).size = C.size := by
 unfold putCells
 rw [Array.size_mapIdx]
theorem Zkk {ℓ : Nat} {ℋ : Hp} {k : Key} (hk : k.1 ≤ ℓ) {g : Nat} {e : TypeId} (xs : List (List ByteArray)) (i j : Nat) (hij : i < j) (hj : j ≤ xs.length) (hb : xs.length < 4611686018427387904) (hH : ℋ k = ⟨g, true, e, 1, Zah Zau xs⟩)
  {Post : AV → Hp → Prop} (h : Post (.ref k g 0 (xs.take i ++ xs.drop j).length) (updH ℋ k ⟨g, true, e, 1, Zah Zau (xs.take i ++ xs.drop j)⟩)) : ZaM Try.prog 60 ℓ [.ref k g 0 xs.length, .d (.int .i64 i), .d (.int .i64 j)] ℋ Post :=
 ⟨⟨_, Zak Try.f60, Try.func60, by kernel_rfl, by kernel_rfl⟩, fun m S w vs hO hA => by
  obtain ⟨hs, hr⟩ := hA
  obtain ⟨vl⟩ := vs
  match vl, hs, hr with
  | [v0, v1, v2], _, hr =>
   have h0 := hr 0 _ v0 rfl rfl
   have h1 := hr 1 _ v1 rfl rfl
   have h2 := hr 2 _ v2 rfl rfl
   cases h1 with
   | d _ _ h1 =>
   cases h1 with
   | int _ _ =>
   cases h2 with
   | d _ _ h2 =>
   cases h2 with
   | int _ _ =>
   have hl : (ℋ k).live = true := by rw [hH]
   have hg : (ℋ k).g = g := by rw [hH]
   cases h0 with
   | refD _ _ _ _ _ _ _ hd _ => rw [hd hg.symm] at hl; cases hl
   | refL _ _ _ a _ _ hcap ha =>
    rw [Ybg, Yy] at *
    have hc0 : (m k).cap ≠ 0 := by omega
    obtain ⟨C, c1, c2, c3, c4⟩ := hO.blk k hk hl hc0
    have ha' := ha (by omega)
    rw [Yaa, Y9] at ha'
    subst ha'
    rw [hH] at c1 c2 c3 c4
    rw [Yap] at c2 c3
    have hlt : (m k).b < w.heap.size := (Yu.1 c1).1
    obtain ⟨d, hd⟩ : ∃ d, d = C.extract (m k).o ((m k).o + xs.length) := ⟨_, rfl⟩
    have hds : d.size = xs.length := by rw [hd, Array.size_extract]; omega
    have hat : ∀ t (ht : t < d.size), C[(m k).o + t]? = some d[t] := fun t ht => by
     subst hd
     rw [Array.getElem_extract, Yh (by omega)]
    have hHolds : Holds idV w (m k).b (m k).o d := fun t ht => by
     refine ⟨?_, ?_⟩
     ·unfold World.cell?
      simp only [c1]
      rw [ZkP ht]
      exact hat t ht
     ·unfold World.frozen?
      simp only [c1]
      simp
    have hrep : ∀ t (ht : t < d.size) (x : List ByteArray), xs[t]? = some x → d[t].oneCell' = true ∧ RepA w S ℋ m k.1 (.d (.list (x.map Zad))) d[t] := fun t ht x hx =>
     c4 t _ _ (by show (Zah Zau xs)[t]? = _; rw [Zey, Ys, hx]; rfl) (hat t ht)
    have h1c : ∀ v ∈ d.toList, v.oneCell' = true := fun v hv => by
     obtain ⟨t, ht, rfl⟩ := List.mem_iff_getElem.1 hv
     have ht' : t < d.size := by simpa using ht
     exact (hrep t ht' _ (Yc (by omega))).1
    have hcall := Znx (m k).b (m k).o (m k).cap i j d w h1c hHolds (by omega) (by omega) (by omega) (by omega)
    rw [hds] at hcall
    refine hcall.mono fun e' w' ⟨h1, n, h2⟩ => ?_
    obtain ⟨D, hD⟩ : ∃ D, D = (d.toList.take i ++ d.toList.drop j ++ List.replicate (j - i) ZrM).toArray := ⟨_, rfl⟩
    have hDs : D.size = xs.length := by rw [hD]; simp; omega
    rw [← hD] at h2
    have hlen : (xs.take i ++ xs.drop j).length = xs.length - (j - i) := by simp; omega
    have hDat : ∀ t x, (xs.take i ++ xs.drop j)[t]? = some x → ∃ (u : Nat) (hu : u < d.size) (ht : t < D.size), D[t] = d[u] ∧ xs[u]? = some x := fun t x hx => by
     have htl := (Yg.1 hx).1
     have htD : t < D.size := by omega
     have e1 : D[t]? = (d.toList.take i ++ d.toList.drop j ++ List.replicate (j - i) ZrM)[t]? := by rw [hD]; exact YaR
     have ld : (d.toList.take i ++ d.toList.drop j).length = xs.length - (j - i) := by simp; omega
     rw [Yi (by omega)] at e1
     rcases Yq t i with hti | hti
     ·rw [Yi (by simp; omega), YJ, if_pos hti] at hx
      rw [Yi (by simp; omega), YJ, if_pos hti, Yk, Yh htD, Yh (by omega)] at e1
      exact ⟨t, by omega, htD, Option.some.inj e1, hx⟩
     ·have l1 : (xs.take i).length = i := by simp; omega
      have l2 : (d.toList.take i).length = i := by simp; omega
      rw [Yn (by omega), l1, YD] at hx
      rw [Yn (by omega), l2, YD, Yk, Yh htD, Yh (by omega)] at e1
      exact ⟨j + (t - i), by omega, htD, Option.some.inj e1, hx⟩
    obtain ⟨k1, k2⟩ := hO.write k hk hl hc0 (Zah Zau (xs.take i ++ xs.drop j)) (putCells idV (m k).o D C) (by rw [ZkW, c2, hH, Yap]) (by rw [Zey, Ym, hH, Yap]; omega)
     (putRow idV (Sort.ahead w n) (m k).b (m k).o D) (fun b => by rw [hH]; exact ZoM (Sort.ahead w n) (m k).b _ c1 b) (by rw [size_putRow]; rfl) rfl rfl rfl (fun t x v hx hv => by
      rw [Zey, Ys] at hx
      cases hq : (xs.take i ++ xs.drop j)[t]? with
      | none => rw [hq] at hx; cases hx
      | some y =>
       rw [hq] at hx
       cases hx
       obtain ⟨u, hu, ht, e1, e2⟩ := hDat t y hq
       rw [ZqG ht (by omega)] at hv
       cases hv
       rw [e1]
       exact hrep u hu y e2)
    rw [hH] at k1 k2
    subst h2
    refine ⟨_, _, _, m, S, h1, h, k1, ?_, k2⟩
    rw [hlen]
    have := RepA.refL (w := putRow idV (Sort.ahead w n) (m k).b (m k).o D) (S := S) (H := updH ℋ k ⟨(ℋ k).g, true, .t e, 1, Zah Zau (xs.take i ++ xs.drop j)⟩) (m := m) (l := ℓ) k 0 (xs.length - (j - i)) (some ⟨(m k).b, (m k).o, none⟩) hk (by rw [Zaa]) (by omega) (fun _ => by rw [Yaa, Y9])
    rw [Zaa] at this
    exact this⟩
def Zin (p0 : List (List ByteArray)) (p1 p2 : Int) : Option (List (List ByteArray)) := if 0 ≤ p1 ∧ p1 < p2 ∧ p2 ≤ p0.length ∧ p0.length < 4611686018427387904 then some (p0.take p1.toNat ++ p0.drop p2.toNat) else none
abbrev E60 : List (List ByteArray) → AV := fun y => .ref (0, 0) 0 0 y.length
@[reducible] def G60 : List (List ByteArray) → List Blk := fun y => [⟨0, true, 31, 1, Zah Zau y⟩]
theorem Zyp (p0 : List (List ByteArray)) (p1 p2 : Int) : KO Try.prog 60 1 [.ref (0, 0) 0 0 p0.length, vI p1, vI p2] [⟨0, true, 31, 1, Zah Zau p0⟩] (fun _ _ _ _ => True) (Zin p0 p1 p2) E60 G60 := ⟨fun l H ks gs θ hks hlow hnd hH _ y hy => by
 obtain ⟨⟨h0, h1, h2, h3⟩, hy⟩ := Zax hy
 cases hy
 obtain ⟨i, rfl⟩ := Ybm h0
 obtain ⟨j, rfl⟩ := Ybm (show 0 ≤ p2 by omega)
 match ks, hks with
 | [k0], _ => exact Zkk hlow.1 p0 i j (by omega) (by omega) h3 ((hH.1.2 rfl).trans (Zb8 (Zag _ _))) ⟨rfl, (congrArg (updH H k0) (Zb8 (Zag _ _))).symm⟩⟩
end Go.Proofs.Ythhipejbnbochaa
