import Derived.Test.YthhipejbnbochaaProg
import Derived.Test.YthhipejbnbochaaCu10
import Derived.Test.YthhipejbnbochaaCu13
import Derived.WalkKit
import Derived.Shelf.RegionOpenPlain
import Derived.Deep.LoopGhost
import Derived.Deep.RegionLaw
import Derived.Lib.Walk
import Derived.Sort.WalkB12
import Derived.Lib.SliceRun
import Derived.Lib.SlicesDelete
import Derived.Test.YthhipejbnbochaaCu15
import Derived.Test.YthhipejbnbochaaCu00
namespace Go.Proofs.Ythhipejbnbochaa
open Go Go.Eng
def ti3 : TI := { agg := false, kin := 3, siz := 1, zer := some [.d (.int .i64 0)], ik := some .i64, byt := some 256 }
theorem tk3 : TIok Try.prog 3 ti3 := .of (by kernel_rfl) (by kernel_rfl) (by kernel_rfl) (.inl rfl) (by kernel_rfl) (.inr (by kernel_rfl)) (.inl rfl) (.inl rfl) (.inr (by kernel_rfl)) (.inr ⟨256, by decide +kernel, by decide +kernel, rfl⟩) (.inr rfl)
def ti4 : TI := { agg := false, kin := 1, siz := 1, zer := some [.d (.bool false)], byt := some 256 }
theorem tk4 : TIok Try.prog 4 ti4 := .of (by kernel_rfl) (by kernel_rfl) (by kernel_rfl) (.inl rfl) (by kernel_rfl) (.inr (by kernel_rfl)) (.inl rfl) (.inl rfl) (.inl rfl) (.inr ⟨256, by decide +kernel, by decide +kernel, rfl⟩) (.inr rfl)
def ti5 : TI := { agg := false, kin := 3, siz := 1, zer := some [.d (.int .u8 0)], ik := some .u8, byt := some 256 }
theorem tk5 : TIok Try.prog 5 ti5 := .of (by kernel_rfl) (by kernel_rfl) (by kernel_rfl) (.inl rfl) (by kernel_rfl) (.inr (by kernel_rfl)) (.inl rfl) (.inl rfl) (.inr (by kernel_rfl)) (.inr ⟨256, by decide +kernel, by decide +kernel, rfl⟩) (.inr rfl)
def ti9 : TI := { agg := false, kin := 2, siz := 1, zer := some [.d (.str ⟨#[]⟩)], byt := some 256 }
theorem tk9 : TIok Try.prog 9 ti9 := .of (by kernel_rfl) (by kernel_rfl) (by kernel_rfl) (.inl rfl) (by kernel_rfl) (.inr (by kernel_rfl)) (.inl rfl) (.inl rfl) (.inl rfl) (.inr ⟨256, by decide +kernel, by decide +kernel, rfl⟩) (.inr rfl)
def Zya : TI := { agg := false, kin := 4, siz := 1, elm := some (42, 5), zer := some [.e0], byt := some 256 }
theorem Zzp : TIok Try.prog 22 Zya := .of (by kernel_rfl) (by kernel_rfl) (by kernel_rfl) (.inr (by kernel_rfl)) (by kernel_rfl) (.inr (by kernel_rfl)) (.inl rfl) (.inl rfl) (.inl rfl) (.inr ⟨256, by decide +kernel, by decide +kernel, rfl⟩) (.inr rfl)
def Zyr : TI := { agg := false, kin := 4, siz := 1, elm := some (89, 5), zer := some [.e0], byt := some 256 }
theorem Zza : TIok Try.prog 23 Zyr := .of (by kernel_rfl) (by kernel_rfl) (by kernel_rfl) (.inr (by kernel_rfl)) (by kernel_rfl) (.inr (by kernel_rfl)) (.inl rfl) (.inl rfl) (.inl rfl) (.inr ⟨256, by decide +kernel, by decide +kernel, rfl⟩) (.inr rfl)
def Zyb : TI := { agg := false, kin := 4, siz := 1, elm := some (149, 3), zer := some [.e0], byt := some 256 }
theorem Zy3 : TIok Try.prog 24 Zyb := .of (by kernel_rfl) (by kernel_rfl) (by kernel_rfl) (.inr (by kernel_rfl)) (by kernel_rfl) (.inr (by kernel_rfl)) (.inl rfl) (.inl rfl) (.inl rfl) (.inr ⟨256, by decide +kernel, by decide +kernel, rfl⟩) (.inr rfl)
def ZxD : TI := { agg := true, kin := 0, siz := 3, fld := [(0, 1, false), (1, 1, false), (2, 1, false)], zer := some [.e0, .e0, .e0], str := true, byt := some 256 }
theorem Zy2 : TIok Try.prog 26 ZxD := .of (by kernel_rfl) (by kernel_rfl) (by kernel_rfl) (.inl rfl) (by kernel_rfl) (.inr (by kernel_rfl)) (.inl rfl) (.inr (by kernel_rfl)) (.inl rfl) (.inr ⟨256, by decide +kernel, by decide +kernel, rfl⟩) (.inr rfl)
def Zx3 : TI := { agg := false, kin := 4, siz := 1, elm := some (31, 1), zer := some [.e0], byt := some 256 }
theorem Zzf : TIok Try.prog 28 Zx3 := .of (by kernel_rfl) (by kernel_rfl) (by kernel_rfl) (.inr (by kernel_rfl)) (by kernel_rfl) (.inr (by kernel_rfl)) (.inl rfl) (.inl rfl) (.inl rfl) (.inr ⟨256, by decide +kernel, by decide +kernel, rfl⟩) (.inr rfl)
def Zyv : TI := { agg := false, kin := 4, siz := 1, elm := some (9, 1), zer := some [.e0], byt := some 256 }
theorem ZyP : TIok Try.prog 31 Zyv := .of (by kernel_rfl) (by kernel_rfl) (by kernel_rfl) (.inr (by kernel_rfl)) (by kernel_rfl) (.inr (by kernel_rfl)) (.inl rfl) (.inl rfl) (.inl rfl) (.inr ⟨256, by decide +kernel, by decide +kernel, rfl⟩) (.inr rfl)
def Zyo : TI := { agg := false, kin := 4, siz := 1, elm := some (3, 1), zer := some [.e0], byt := some 256 }
theorem ZyX : TIok Try.prog 33 Zyo := .of (by kernel_rfl) (by kernel_rfl) (by kernel_rfl) (.inr (by kernel_rfl)) (by kernel_rfl) (.inr (by kernel_rfl)) (.inl rfl) (.inl rfl) (.inl rfl) (.inr ⟨256, by decide +kernel, by decide +kernel, rfl⟩) (.inr rfl)
def Zx7 : TI := { agg := false, kin := 3, siz := 1, zer := some [.d (.int .i64 0)], ik := some .i64, byt := some 256 }
theorem ZyW : TIok Try.prog 34 Zx7 := .of (by kernel_rfl) (by kernel_rfl) (by kernel_rfl) (.inl rfl) (by kernel_rfl) (.inr (by kernel_rfl)) (.inl rfl) (.inl rfl) (.inr (by kernel_rfl)) (.inr ⟨256, by decide +kernel, by decide +kernel, rfl⟩) (.inr rfl)
def ZxT : TI := { agg := false, kin := 4, siz := 1, elm := some (57, 16), zer := some [.e0], byt := some 256 }
theorem ZyE : TIok Try.prog 38 ZxT := .of (by kernel_rfl) (by kernel_rfl) (by kernel_rfl) (.inr (by kernel_rfl)) (by kernel_rfl) (.inr (by kernel_rfl)) (.inl rfl) (.inl rfl) (.inl rfl) (.inr ⟨256, by decide +kernel, by decide +kernel, rfl⟩) (.inr rfl)
def Zyx : TI := { agg := false, kin := 4, siz := 1, elm := some (151, 2), zer := some [.e0], byt := some 256 }
theorem ZyR : TIok Try.prog 39 Zyx := .of (by kernel_rfl) (by kernel_rfl) (by kernel_rfl) (.inr (by kernel_rfl)) (by kernel_rfl) (.inr (by kernel_rfl)) (.inl rfl) (.inl rfl) (.inl rfl) (.inr ⟨256, by decide +kernel, by decide +kernel, rfl⟩) (.inr rfl)
def Zxy : TI := { agg := false, kin := 4, siz := 1, elm := some (153, 8), zer := some [.e0], byt := some 256 }
theorem ZyT : TIok Try.prog 40 Zxy := .of (by kernel_rfl) (by kernel_rfl) (by kernel_rfl) (.inr (by kernel_rfl)) (by kernel_rfl) (.inr (by kernel_rfl)) (.inl rfl) (.inl rfl) (.inl rfl) (.inr ⟨256, by decide +kernel, by decide +kernel, rfl⟩) (.inr rfl)
def ZxR : TI := { agg := true, kin := 0, siz := 5, fld := [(0, 1, false), (1, 1, false), (2, 1, false), (3, 1, false), (4, 1, false)], zer := some [.d (.str ⟨#[]⟩), .e0, .e0, .e0, .e0], str := true, byt := some 256 }
theorem Zy6 : TIok Try.prog 42 ZxR := .of (by kernel_rfl) (by kernel_rfl) (by kernel_rfl) (.inl rfl) (by kernel_rfl) (.inr (by kernel_rfl)) (.inl rfl) (.inr (by kernel_rfl)) (.inl rfl) (.inr ⟨256, by decide +kernel, by decide +kernel, rfl⟩) (.inr rfl)
def Zx5 : TI := { agg := true, kin := 0, siz := 2, fld := [(0, 1, false), (1, 1, false)], zer := some [.d (.int .i64 0), .d (.str ⟨#[]⟩)], eqt := some [3, 2], str := true, byt := some 256 }
theorem Zzh : TIok Try.prog 48 Zx5 := .of (by kernel_rfl) (by kernel_rfl) (by kernel_rfl) (.inl rfl) (by kernel_rfl) (.inr (by kernel_rfl)) (.inr (by kernel_rfl)) (.inr (by kernel_rfl)) (.inl rfl) (.inr ⟨256, by decide +kernel, by decide +kernel, rfl⟩) (.inr rfl)
def Zyl : TI := { agg := false, kin := 3, siz := 1, zer := some [.d (.int .u64 0)], ik := some .u64, byt := some 256 }
theorem ZyB : TIok Try.prog 49 Zyl := .of (by kernel_rfl) (by kernel_rfl) (by kernel_rfl) (.inl rfl) (by kernel_rfl) (.inr (by kernel_rfl)) (.inl rfl) (.inl rfl) (.inr (by kernel_rfl)) (.inr ⟨256, by decide +kernel, by decide +kernel, rfl⟩) (.inr rfl)
def Zyg : TI := { agg := false, kin := 4, siz := 1, elm := some (55, 7), zer := some [.e0], byt := some 256 }
theorem ZyI : TIok Try.prog 50 Zyg := .of (by kernel_rfl) (by kernel_rfl) (by kernel_rfl) (.inr (by kernel_rfl)) (by kernel_rfl) (.inr (by kernel_rfl)) (.inl rfl) (.inl rfl) (.inl rfl) (.inr ⟨256, by decide +kernel, by decide +kernel, rfl⟩) (.inr rfl)
def Zyi : TI := { agg := false, kin := 4, siz := 1, elm := some (155, 14), zer := some [.e0], byt := some 256 }
theorem ZyA : TIok Try.prog 51 Zyi := .of (by kernel_rfl) (by kernel_rfl) (by kernel_rfl) (.inr (by kernel_rfl)) (by kernel_rfl) (.inr (by kernel_rfl)) (.inl rfl) (.inl rfl) (.inl rfl) (.inr ⟨256, by decide +kernel, by decide +kernel, rfl⟩) (.inr rfl)
def Zx2 : TI := { agg := false, kin := 4, siz := 1, elm := some (157, 8), zer := some [.e0], byt := some 256 }
theorem ZyU : TIok Try.prog 52 Zx2 := .of (by kernel_rfl) (by kernel_rfl) (by kernel_rfl) (.inr (by kernel_rfl)) (by kernel_rfl) (.inr (by kernel_rfl)) (.inl rfl) (.inl rfl) (.inl rfl) (.inr ⟨256, by decide +kernel, by decide +kernel, rfl⟩) (.inr rfl)
def ZxZ : TI := { agg := false, kin := 4, siz := 1, elm := some (159, 4), zer := some [.e0], byt := some 256 }
theorem ZyN : TIok Try.prog 53 ZxZ := .of (by kernel_rfl) (by kernel_rfl) (by kernel_rfl) (.inr (by kernel_rfl)) (by kernel_rfl) (.inr (by kernel_rfl)) (.inl rfl) (.inl rfl) (.inl rfl) (.inr ⟨256, by decide +kernel, by decide +kernel, rfl⟩) (.inr rfl)
def Zyh : TI := { agg := true, kin := 0, siz := 7, fld := [(0, 1, false), (1, 1, false), (2, 1, false), (3, 1, false), (4, 1, false), (5, 1, false), (6, 1, false)], zer := some [.d (.int .i64 0), .d (.int .u64 0), .d (.str ⟨#[]⟩), .e0, .e0, .e0, .e0], str := true, byt := some 256 }
theorem Zzt : TIok Try.prog 55 Zyh := .of (by kernel_rfl) (by kernel_rfl) (by kernel_rfl) (.inl rfl) (by kernel_rfl) (.inr (by kernel_rfl)) (.inl rfl) (.inr (by kernel_rfl)) (.inl rfl) (.inr ⟨256, by decide +kernel, by decide +kernel, rfl⟩) (.inr rfl)
def ZxX : TI := { agg := true, kin := 0, siz := 16, fld := [(0, 1, false), (1, 1, false), (2, 1, false), (3, 1, false), (4, 2, true), (6, 1, false), (7, 1, false), (8, 7, true), (15, 1, false)], zer := some [.d (.int .i64 0), .d (.str ⟨#[]⟩), .d (.int .i64 0), .d (.int .i64 0), .d (.int .i64 0), .d (.str ⟨#[]⟩), .d (.str ⟨#[]⟩), .d (.bool false), .d (.int .i64 0), .d (.int .u64 0), .d (.str ⟨#[]⟩), .e0, .e0, .e0, .e0, .e0], str := true, byt := some 256 }
theorem Zzc : TIok Try.prog 57 ZxX := .of (by kernel_rfl) (by kernel_rfl) (by kernel_rfl) (.inl rfl) (by kernel_rfl) (.inr (by kernel_rfl)) (.inl rfl) (.inr (by kernel_rfl)) (.inl rfl) (.inr ⟨256, by decide +kernel, by decide +kernel, rfl⟩) (.inr rfl)
def ZxQ : TI := { agg := false, kin := 0, siz := 1, mp := some (true, [.str ⟨#[]⟩, .list [], .list [], .list [], .list []]), zer := some [.p (.map none)] }
theorem ZyF : TIok Try.prog 66 ZxQ := .of (by kernel_rfl) (by kernel_rfl) (by kernel_rfl) (.inl rfl) (by kernel_rfl) (.inr (by kernel_rfl)) (.inl rfl) (.inl rfl) (.inl rfl) (.inl rfl) (.inr rfl)
def Zym : TI := { agg := false, kin := 0, siz := 1, mp := some (false, [.bool false]), zer := some [.p (.map none)] }
theorem Zze : TIok Try.prog 67 Zym := .of (by kernel_rfl) (by kernel_rfl) (by kernel_rfl) (.inl rfl) (by kernel_rfl) (.inr (by kernel_rfl)) (.inl rfl) (.inl rfl) (.inl rfl) (.inl rfl) (.inr rfl)
def ZxE : TI := { agg := true, kin := 0, siz := 2, fld := [(0, 1, false), (1, 1, false)], zer := some [.p (.map none), .p (.map none)], str := true, byt := some 256 }
theorem Zy4 : TIok Try.prog 69 ZxE := .of (by kernel_rfl) (by kernel_rfl) (by kernel_rfl) (.inl rfl) (by kernel_rfl) (.inr (by kernel_rfl)) (.inl rfl) (.inr (by kernel_rfl)) (.inl rfl) (.inr ⟨256, by decide +kernel, by decide +kernel, rfl⟩) (.inr rfl)
def Zyf : TI := { agg := false, kin := 0, siz := 1, mp := some (false, [.map false []]), zer := some [.p (.map none)] }
theorem Zy7 : TIok Try.prog 71 Zyf := .of (by kernel_rfl) (by kernel_rfl) (by kernel_rfl) (.inl rfl) (by kernel_rfl) (.inr (by kernel_rfl)) (.inl rfl) (.inl rfl) (.inl rfl) (.inl rfl) (.inr rfl)
def Zyd : TI := { agg := false, kin := 0, siz := 1, zer := some [.p .nilFunc] }
theorem Zy8 : TIok Try.prog 75 Zyd := .of (by kernel_rfl) (by kernel_rfl) (by kernel_rfl) (.inl rfl) (by kernel_rfl) (.inr (by kernel_rfl)) (.inl rfl) (.inl rfl) (.inl rfl) (.inl rfl) (.inr rfl)
def Zxz : TI := { agg := false, kin := 0, siz := 1, mp := some (false, [.list []]), zer := some [.p (.map none)] }
theorem ZyL : TIok Try.prog 81 Zxz := .of (by kernel_rfl) (by kernel_rfl) (by kernel_rfl) (.inl rfl) (by kernel_rfl) (.inr (by kernel_rfl)) (.inl rfl) (.inl rfl) (.inl rfl) (.inl rfl) (.inr rfl)
def Zyu : TI := { agg := false, kin := 4, siz := 1, elm := some (161, 3), zer := some [.e0], byt := some 256 }
theorem Zzo : TIok Try.prog 87 Zyu := .of (by kernel_rfl) (by kernel_rfl) (by kernel_rfl) (.inr (by kernel_rfl)) (by kernel_rfl) (.inr (by kernel_rfl)) (.inl rfl) (.inl rfl) (.inl rfl) (.inr ⟨256, by decide +kernel, by decide +kernel, rfl⟩) (.inr rfl)
def Zyk : TI := { agg := true, kin := 0, siz := 5, fld := [(0, 1, false), (1, 1, false), (2, 1, false), (3, 1, false), (4, 1, false)], zer := some [.d (.str ⟨#[]⟩), .d (.bool false), .e0, .e0, .e0], str := true, byt := some 256 }
theorem Zzx : TIok Try.prog 89 Zyk := .of (by kernel_rfl) (by kernel_rfl) (by kernel_rfl) (.inl rfl) (by kernel_rfl) (.inr (by kernel_rfl)) (.inl rfl) (.inr (by kernel_rfl)) (.inl rfl) (.inr ⟨256, by decide +kernel, by decide +kernel, rfl⟩) (.inr rfl)
def Zx9 : TI := { agg := false, kin := 0, siz := 1, mp := some (false, [.int .i64 0]), zer := some [.p (.map none)] }
theorem Zzm : TIok Try.prog 92 Zx9 := .of (by kernel_rfl) (by kernel_rfl) (by kernel_rfl) (.inl rfl) (by kernel_rfl) (.inr (by kernel_rfl)) (.inl rfl) (.inl rfl) (.inl rfl) (.inl rfl) (.inr rfl)
def ZtL : TI := { agg := false, kin := 3, siz := 1, zer := some [.d (.int .u64 0)], ik := some .u64, byt := some 256 }
theorem Zxs : TIok Try.prog 107 ZtL := .of (by kernel_rfl) (by kernel_rfl) (by kernel_rfl) (.inl rfl) (by kernel_rfl) (.inr (by kernel_rfl)) (.inl rfl) (.inl rfl) (.inr (by kernel_rfl)) (.inr ⟨256, by decide +kernel, by decide +kernel, rfl⟩) (.inr rfl)
def ZvP : TI := { agg := false, kin := 3, siz := 1, zer := some [.d (.int .i64 0)], ik := some .i64, byt := some 256 }
theorem Zxh : TIok Try.prog 110 ZvP := .of (by kernel_rfl) (by kernel_rfl) (by kernel_rfl) (.inl rfl) (by kernel_rfl) (.inr (by kernel_rfl)) (.inl rfl) (.inl rfl) (.inr (by kernel_rfl)) (.inr ⟨256, by decide +kernel, by decide +kernel, rfl⟩) (.inr rfl)
def Zvu : TI := { agg := false, kin := 3, siz := 1, zer := some [.d (.int .u32 0)], ik := some .u32, byt := some 256 }
theorem Zxi : TIok Try.prog 119 Zvu := .of (by kernel_rfl) (by kernel_rfl) (by kernel_rfl) (.inl rfl) (by kernel_rfl) (.inr (by kernel_rfl)) (.inl rfl) (.inl rfl) (.inr (by kernel_rfl)) (.inr ⟨256, by decide +kernel, by decide +kernel, rfl⟩) (.inr rfl)
def Zv2 : TI := { agg := false, kin := 3, siz := 1, zer := some [.d (.int .u64 0)], ik := some .u64, byt := some 256 }
theorem Zw1 : TIok Try.prog 122 Zv2 := .of (by kernel_rfl) (by kernel_rfl) (by kernel_rfl) (.inl rfl) (by kernel_rfl) (.inr (by kernel_rfl)) (.inl rfl) (.inl rfl) (.inr (by kernel_rfl)) (.inr ⟨256, by decide +kernel, by decide +kernel, rfl⟩) (.inr rfl)
def Zuh : TI := { agg := false, kin := 0, siz := 1, zer := some [.p (.pointer none)] }
theorem Zw4 : TIok Try.prog 126 Zuh := .of (by kernel_rfl) (by kernel_rfl) (by kernel_rfl) (.inl rfl) (by kernel_rfl) (.inr (by kernel_rfl)) (.inl rfl) (.inl rfl) (.inl rfl) (.inl rfl) (.inr rfl)
def Zt2 : TI := { agg := false, kin := 0, siz := 1, zer := some [.p (.pointer none)] }
theorem Zw7 : TIok Try.prog 129 Zt2 := .of (by kernel_rfl) (by kernel_rfl) (by kernel_rfl) (.inl rfl) (by kernel_rfl) (.inr (by kernel_rfl)) (.inl rfl) (.inl rfl) (.inl rfl) (.inl rfl) (.inr rfl)
def ZtO : TI := { agg := false, kin := 4, siz := 1, elm := some (164, 5), zer := some [.e0], byt := some 256 }
theorem Zxk : TIok Try.prog 147 ZtO := .of (by kernel_rfl) (by kernel_rfl) (by kernel_rfl) (.inr (by kernel_rfl)) (by kernel_rfl) (.inr (by kernel_rfl)) (.inl rfl) (.inl rfl) (.inl rfl) (.inr ⟨256, by decide +kernel, by decide +kernel, rfl⟩) (.inr rfl)
def Zuc : TI := { agg := true, kin := 0, siz := 3, fld := [(0, 1, false), (1, 1, false), (2, 1, false)], zer := some [.d (.str ⟨#[]⟩), .e0, .e0], str := true, byt := some 256 }
theorem ZwQ : TIok Try.prog 149 Zuc := .of (by kernel_rfl) (by kernel_rfl) (by kernel_rfl) (.inl rfl) (by kernel_rfl) (.inr (by kernel_rfl)) (.inl rfl) (.inr (by kernel_rfl)) (.inl rfl) (.inr ⟨256, by decide +kernel, by decide +kernel, rfl⟩) (.inr rfl)
def Zvv : TI := { agg := true, kin := 0, siz := 2, fld := [(0, 1, false), (1, 1, false)], zer := some [.d (.int .i64 0), .d (.int .i64 0)], eqt := some [3, 3], str := true, byt := some 256 }
theorem Zxq : TIok Try.prog 151 Zvv := .of (by kernel_rfl) (by kernel_rfl) (by kernel_rfl) (.inl rfl) (by kernel_rfl) (.inr (by kernel_rfl)) (.inr (by kernel_rfl)) (.inr (by kernel_rfl)) (.inl rfl) (.inr ⟨256, by decide +kernel, by decide +kernel, rfl⟩) (.inr rfl)
def Zv5 : TI := { agg := true, kin := 0, siz := 8, fld := [(0, 1, false), (1, 7, true)], zer := some [.d (.str ⟨#[]⟩), .d (.int .i64 0), .d (.int .u64 0), .d (.str ⟨#[]⟩), .e0, .e0, .e0, .e0], str := true, byt := some 256 }
theorem Zxf : TIok Try.prog 153 Zv5 := .of (by kernel_rfl) (by kernel_rfl) (by kernel_rfl) (.inl rfl) (by kernel_rfl) (.inr (by kernel_rfl)) (.inl rfl) (.inr (by kernel_rfl)) (.inl rfl) (.inr ⟨256, by decide +kernel, by decide +kernel, rfl⟩) (.inr rfl)
def Zto : TI := { agg := true, kin := 0, siz := 14, fld := [(0, 7, true), (7, 7, true)], zer := some [.d (.int .i64 0), .d (.int .u64 0), .d (.str ⟨#[]⟩), .e0, .e0, .e0, .e0, .d (.int .i64 0), .d (.int .u64 0), .d (.str ⟨#[]⟩), .e0, .e0, .e0, .e0], str := true, byt := some 256 }
theorem Zxd : TIok Try.prog 155 Zto := .of (by kernel_rfl) (by kernel_rfl) (by kernel_rfl) (.inl rfl) (by kernel_rfl) (.inr (by kernel_rfl)) (.inl rfl) (.inr (by kernel_rfl)) (.inl rfl) (.inr ⟨256, by decide +kernel, by decide +kernel, rfl⟩) (.inr rfl)
def Zvm : TI := { agg := true, kin := 0, siz := 8, fld := [(0, 1, false), (1, 7, true)], zer := some [.d (.int .i64 0), .d (.int .i64 0), .d (.int .u64 0), .d (.str ⟨#[]⟩), .e0, .e0, .e0, .e0], str := true, byt := some 256 }
theorem Zxw : TIok Try.prog 157 Zvm := .of (by kernel_rfl) (by kernel_rfl) (by kernel_rfl) (.inl rfl) (by kernel_rfl) (.inr (by kernel_rfl)) (.inl rfl) (.inr (by kernel_rfl)) (.inl rfl) (.inr ⟨256, by decide +kernel, by decide +kernel, rfl⟩) (.inr rfl)
def ZvM : TI := { agg := true, kin := 0, siz := 4, fld := [(0, 1, false), (1, 1, false), (2, 1, false), (3, 1, false)], zer := some [.d (.int .i64 0), .d (.int .i64 0), .d (.int .u64 0), .d (.str ⟨#[]⟩)], eqt := some [3, 3, 3, 2], str := true, byt := some 256 }
theorem Zxe : TIok Try.prog 159 ZvM := .of (by kernel_rfl) (by kernel_rfl) (by kernel_rfl) (.inl rfl) (by kernel_rfl) (.inr (by kernel_rfl)) (.inr (by kernel_rfl)) (.inr (by kernel_rfl)) (.inl rfl) (.inr ⟨256, by decide +kernel, by decide +kernel, rfl⟩) (.inr rfl)
def Zvn : TI := { agg := true, kin := 0, siz := 3, fld := [(0, 1, false), (1, 1, false), (2, 1, false)], zer := some [.d (.str ⟨#[]⟩), .d (.int .i64 0), .e0], str := true, byt := some 256 }
theorem ZwS : TIok Try.prog 161 Zvn := .of (by kernel_rfl) (by kernel_rfl) (by kernel_rfl) (.inl rfl) (by kernel_rfl) (.inr (by kernel_rfl)) (.inl rfl) (.inr (by kernel_rfl)) (.inl rfl) (.inr ⟨256, by decide +kernel, by decide +kernel, rfl⟩) (.inr rfl)
def ZuO : TI := { agg := true, kin := 0, siz := 5, fld := [(0, 1, false), (1, 1, false), (2, 1, false), (3, 1, false), (4, 1, false)], zer := some [.d (.str ⟨#[]⟩), .d (.str ⟨#[]⟩), .d (.str ⟨#[]⟩), .d (.int .i64 0), .e0], str := true, byt := some 256 }
theorem Zxx : TIok Try.prog 164 ZuO := .of (by kernel_rfl) (by kernel_rfl) (by kernel_rfl) (.inl rfl) (by kernel_rfl) (.inr (by kernel_rfl)) (.inl rfl) (.inr (by kernel_rfl)) (.inl rfl) (.inr ⟨256, by decide +kernel, by decide +kernel, rfl⟩) (.inr rfl)
def tl : List (Nat × TI) := [(3, ti3), (4, ti4), (5, ti5), (9, ti9), (22, Zya), (23, Zyr), (24, Zyb), (26, ZxD), (28, Zx3), (31, Zyv), (33, Zyo), (34, Zx7), (38, ZxT), (39, Zyx), (40, Zxy), (42, ZxR), (48, Zx5), (49, Zyl), (50, Zyg), (51, Zyi), (52, Zx2), (53, ZxZ), (55, Zyh), (57, ZxX), (66, ZxQ), (67, Zym), (69, ZxE), (71, Zyf), (75, Zyd), (81, Zxz), (87, Zyu), (89, Zyk), (92, Zx9), (107, ZtL), (110, ZvP), (119, Zvu), (122, Zv2), (126, Zuh), (129, Zt2), (147, ZtO), (149, Zuc), (151, Zvv), (153, Zv5), (155, Zto), (157, Zvm), (159, ZvM), (161, Zvn), (164, ZuO)]
theorem tok : TOk Try.prog (lkT tl) := Zp3 tl (by
 intro p hp
 simp only [tl, Yr, Ybo, or_false] at hp
 rcases hp with rfl | rfl | rfl | rfl | rfl | rfl | rfl | rfl | rfl | rfl | rfl | rfl | rfl | rfl | rfl | rfl | rfl | rfl | rfl | rfl | rfl | rfl | rfl | rfl | rfl | rfl | rfl | rfl | rfl | rfl | rfl | rfl | rfl | rfl | rfl | rfl | rfl | rfl | rfl | rfl | rfl | rfl | rfl | rfl | rfl | rfl | rfl | rfl
 ·exact tk3
 ·exact tk4
 ·exact tk5
 ·exact tk9
 ·exact Zzp
 ·exact Zza
 ·exact Zy3
 ·exact Zy2
 ·exact Zzf
 ·exact ZyP
 ·exact ZyX
 ·exact ZyW
 ·exact ZyE
 ·exact ZyR
 ·exact ZyT
 ·exact Zy6
 ·exact Zzh
 ·exact ZyB
 ·exact ZyI
 ·exact ZyA
 ·exact ZyU
 ·exact ZyN
 ·exact Zzt
 ·exact Zzc
 ·exact ZyF
 ·exact Zze
 ·exact Zy4
 ·exact Zy7
 ·exact Zy8
 ·exact ZyL
 ·exact Zzo
 ·exact Zzx
 ·exact Zzm
 ·exact Zxs
 ·exact Zxh
 ·exact Zxi
 ·exact Zw1
 ·exact Zw4
 ·exact Zw7
 ·exact Zxk
 ·exact ZwQ
 ·exact Zxq
 ·exact Zxf
 ·exact Zxd
 ·exact Zxw
 ·exact Zxe
 ·exact ZwS
 ·exact Zxx)
theorem tmo : Try.prog.follows .mixedOrders = true := by kernel_rfl
end Go.Proofs.Ythhipejbnbochaa
namespace Go.Proofs.Ythhipejbnbochaa
set_option linter.all false
open Go Go.RowKit Go.Lib Go.Sort Go.Eng
def Zqv : Value := .slice none 0 0
def idV (v : Value) : Value := v
theorem Zvd : (Try.prog.info? 31).map (fun i => (i.zero, i.size, i.bytes)) = some (some Zqv, 1, 24) := by kernel_rfl
set_option maxHeartbeats 4000000 in
set_option maxRecDepth 1000000 in
theorem ZoW (blk off cap i j : Nat) (d : Array Value) (w : World) (h1c : ∀ v ∈ d.toList, v.oneCell' = true) (hH : Holds idV w blk off d) (hcap : d.size ≤ cap) (hm : d.size ≤ 9223372036854775807) (hij : i ≤ j) (hj : j ≤ d.size) :
  Calls Try.prog 60 #[.slice (some ⟨blk, off, none⟩) d.size cap, .int .i64 i, .int .i64 j] w fun e w' => e = .returned (.slice (some ⟨blk, off, none⟩) (d.size - (j - i)) cap) ∧ ∃ q, w' = putRow idV (Sort.ahead w q) blk off (d.toList.take i ++ d.toList.drop j ++ List.replicate (j - i) Zqv).toArray := by
 obtain ⟨i0, hi0, hz0, hz1, hz2⟩ := info_parts Zvd
 by_cases heq : i = j
 ·subst heq
  have h0 : Calls Try.prog 60 #[.slice (some ⟨blk, off, none⟩) d.size cap, .int .i64 i, .int .i64 i] w fun e w' => e = .returned (.slice (some ⟨blk, off, none⟩) d.size cap) ∧ w' = w := by
   clear hH
   go_enter Try.func60, Try.ntmps60
   go_wp2
   all_goals (go_ret; exact ⟨rfl, rfl⟩)
  refine h0.mono ?_
  rintro e w' ⟨rfl, rfl⟩
  have e : (d.toList.take i ++ d.toList.drop i ++ List.replicate (i - i) Zqv).toArray = d := by simp
  refine ⟨by rw [YbE, YbF], 0, ?_⟩
  rw [e]
  exact (putRow_self idV (Sort.ahead w' 0) blk off d hH).symm
 ·have hlt : i < j := by omega
  obtain ⟨news, hnews⟩ : ∃ news, news = (d.toList.drop j).map idV := ⟨_, rfl⟩
  have hlen : news.length = d.size - j := by rw [hnews]; simp
  have hget : ∀ t, t < d.size - j → news[t]? = some (idV d[j + t]!) := by
   intro t ht
   rw [hnews, Yu, YI, Yk, getElem!_pos d (j + t) (by omega), Yh (by omega)]
   rfl
  obtain ⟨A, hA, hsrc⟩ : ∃ A : Addr, (if cap = j then some (⟨blk, off, none⟩ : Addr) else some ⟨blk, off + j, none⟩) = some A ∧ Hid (∀ t u, news[t]? = some u → w.drew.cell? (A.add t) = some u) := by
   by_cases h : cap = j
   ·refine ⟨⟨blk, off, none⟩, by simp [h], fun t u hu => ?_⟩
    have h0 : news.length = 0 := by rw [hlen]; omega
    rw [YaL.1 h0] at hu
    simp at hu
   ·refine ⟨⟨blk, off + j, none⟩, by simp [h], fun t u hu => ?_⟩
    have ht : t < d.size - j := by
     have := (Yg.1 hu).1
     rwa [hlen] at this
    rw [hget t ht] at hu
    rw [Addr.add_lit, show off + j + t = off + (j + t) by omega]
    exact (hH (j + t) (by omega)).1.trans hu
  have s1 : Hid (news.length = (d.size - j) * 1) := by rw [Yao]; exact hlen
  have s2 : Hid (∀ u ∈ news, u.oneCell' = true) := by
   intro u hu
   rw [hnews] at hu
   obtain ⟨x, hx, rfl⟩ := Yq.1 hu
   exact h1c x (YaV hx)
  have s3 : Hid (∀ t, t < news.length → (w.drew.cell? ⟨blk, off + i * 1 + t, none⟩).isSome = true ∧ w.drew.frozen? ⟨blk, off + i * 1 + t, none⟩ = false) := by
   intro t ht
   rw [hlen] at ht
   rw [Yao, Yx]
   exact ⟨by show (w.cell? _).isSome = true; rw [(hH (i + t) (by omega)).1]; rfl, (hH (i + t) (by omega)).2⟩
  obtain ⟨W1, hW1⟩ : ∃ W1, W1 = w.drew.setCells blk (off + i * 1) news := ⟨_, rfl⟩
  have hW1' : W1 = putRow idV (Sort.ahead w 1) blk off (lay d i (d.toList.drop j)) := by
   rw [hW1, hnews, Yao, ← putRow_setCells idV (Sort.ahead w 1) blk off _ d i (by simp; omega), putRow_self idV (Sort.ahead w 1) blk off d (holds_ahead idV w 1 blk off d hH)]
   rfl
  have hH1 : Holds idV W1 blk off (lay d i (d.toList.drop j)) := by rw [hW1']; exact holds_putRow idV _ blk off d _ (holds_ahead idV w 1 blk off d hH) (lay_size _ _ _)
  have hcl : ∀ ty, (Builtin.clear_ #[28] ty #[.slice (some ⟨blk, off + (i + (d.size - j)), none⟩) (d.size - (i + (d.size - j))) (cap - (i + (d.size - j)))]).run Try.prog W1 = .ok (.tuple #[]) (W1.setCells blk (off + (i + (d.size - j))) (List.replicate (d.size - (i + (d.size - j))) (idV Zqv))) :=
   fun ty => Lib.run_clear_slice W1 _ _ ty _ Try.underlying28 Try.zeroValue31 rfl rfl blk (off + (i + (d.size - j))) _ _ (by omega) (fun t ht => by rw [show off + (i + (d.size - j)) + t = off + (i + (d.size - j) + t) by omega, (hH1 _ (by rw [lay_size]; omega)).1]; rfl) (fun t ht => by rw [show off + (i + (d.size - j)) + t = off + (i + (d.size - j) + t) by omega]; exact (hH1 _ (by rw [lay_size]; omega)).2)
  have X : Aside (W1 = putRow idV (Sort.ahead w 1) blk off (lay d i (d.toList.drop j))) := hW1'
  have hW : Hid (W1 = w.drew.setCells blk (off + i * 1) news) := hW1
  have hic : i ≤ cap := by omega
  have hjc : j ≤ cap := by omega
  clear hW1 hW1' hH1 hH hget hnews hlen h1c
  go_enter Try.func60, Try.ntmps60
  go_wp2_with fail
  go_region_law (refine step_append_room rfl (.tmp 22) (.tmp 25) 28 rfl 31 i0 1 Try.underlying28 hi0 hz1 blk off i cap (by simp [Act.eval, Act.put]) A (d.size - j) (cap - j) news (by simp [Act.eval, Act.put]) s1.out hsrc.out s2.out (by omega) s3.out ?_; rw [← hW.out])
  go_wp2
  go_ret
  refine ⟨by rw [show d.size - (j - i) = i + (d.size - j) by omega]; rfl, 1, ?_⟩
  rw [← delete_arr d i j Zqv hij hj, ← putRow_setCells idV _ blk off _ _ (i + (d.size - j)) (by rw [lay_size]; simp; omega), ← X.out, List.map_replicate, show d.size - (i + (d.size - j)) = j - i by omega]
theorem ZeV (xs : List (List ByteArray)) : Zak Zax xs = xs.map fun x => .d (.list (x.map Zai)) := by
 induction xs with
 | nil => rfl
 | cons x l ih => rw [ZbG, ih]; rfl
theorem Zmt {d : Array Value} {i : Nat} (h : i < d.size) : d[i]! = d[i] := getElem!_pos d i h
theorem Zso {off : Nat} {d C : Array Value} {i : Nat} (hi : i < d.size) (hC : off + i < C.size) : (putCells idV off d C)[off + i]? = some d[i] := by
 unfold putCells
 rw [YbA, Yh hC, YF, if_pos (by omega)]
 rw [show off + i - off = i from by omega, Zmt hi]
 rfl
theorem ZkM {off : Nat} {d C : Array Value} : (putCells idV off d C).size = C.size := by
 unfold putCells
 rw [Array.size_mapIdx]
theorem ZkS {ℓ : Nat} {ℋ : Hp} {k : Key} (hk : k.1 ≤ ℓ) {g : Nat} {e : TypeId} (xs : List (List ByteArray)) (i j : Nat) (hij : i < j) (hj : j ≤ xs.length) (hb : xs.length < 4611686018427387904) (hH : ℋ k = ⟨g, true, e, 1, Zak Zax xs⟩)
  {Post : AV → Hp → Prop} (h : Post (.ref k g 0 (xs.take i ++ xs.drop j).length) (updH ℋ k ⟨g, true, e, 1, Zak Zax (xs.take i ++ xs.drop j)⟩)) : ZaY Try.prog 60 ℓ [.ref k g 0 xs.length, .d (.int .i64 i), .d (.int .i64 j)] ℋ Post :=
 ⟨⟨_, Zad Try.f60, Try.func60, by kernel_rfl, by kernel_rfl⟩, fun m S w vs hO hA => by
  obtain ⟨hs, hr⟩ := hA
  obtain ⟨vl⟩ := vs
  match vl, hs, hr with
  | [v0, v1, v2], _, hr =>
   have h0 := hr 0 _ v0 rfl rfl
   have h1 := hr 1 _ v1 rfl rfl
   have h2 := hr 2 _ v2 rfl rfl
   cases h1 with
   | d _ _ h1 =>
   cases h1 with
   | int _ _ =>
   cases h2 with
   | d _ _ h2 =>
   cases h2 with
   | int _ _ =>
   have hl : (ℋ k).live = true := by rw [hH]
   have hg : (ℋ k).g = g := by rw [hH]
   cases h0 with
   | refD _ _ _ _ _ _ _ hd _ => rw [hd hg.symm] at hl; cases hl
   | refL _ _ _ a _ _ hcap ha =>
    rw [YbF, Yy] at *
    have hc0 : (m k).cap ≠ 0 := by omega
    obtain ⟨C, c1, c2, c3, c4⟩ := hO.blk k hk hl hc0
    have ha' := ha (by omega)
    rw [Yah, Yag] at ha'
    subst ha'
    rw [hH] at c1 c2 c3 c4
    rw [Yao] at c2 c3
    have hlt : (m k).b < w.heap.size := (Yz.1 c1).1
    obtain ⟨d, hd⟩ : ∃ d, d = C.extract (m k).o ((m k).o + xs.length) := ⟨_, rfl⟩
    have hds : d.size = xs.length := by rw [hd, Array.size_extract]; omega
    have hat : ∀ t (ht : t < d.size), C[(m k).o + t]? = some d[t] := fun t ht => by
     subst hd
     rw [Array.getElem_extract, Yh (by omega)]
    have hHolds : Holds idV w (m k).b (m k).o d := fun t ht => by
     refine ⟨?_, ?_⟩
     ·unfold World.cell?
      simp only [c1]
      rw [Zmt ht]
      exact hat t ht
     ·unfold World.frozen?
      simp only [c1]
      simp
    have hrep : ∀ t (ht : t < d.size) (x : List ByteArray), xs[t]? = some x → d[t].oneCell' = true ∧ RepA w S ℋ m k.1 (.d (.list (x.map Zai))) d[t] := fun t ht x hx =>
     c4 t _ _ (by show (Zak Zax xs)[t]? = _; rw [ZeV, Yu, hx]; rfl) (hat t ht)
    have h1c : ∀ v ∈ d.toList, v.oneCell' = true := fun v hv => by
     obtain ⟨t, ht, rfl⟩ := List.mem_iff_getElem.1 hv
     have ht' : t < d.size := by simpa using ht
     exact (hrep t ht' _ (Yc (by omega))).1
    have hcall := ZoW (m k).b (m k).o (m k).cap i j d w h1c hHolds (by omega) (by omega) (by omega) (by omega)
    rw [hds] at hcall
    refine hcall.mono fun e' w' ⟨h1, n, h2⟩ => ?_
    obtain ⟨D, hD⟩ : ∃ D, D = (d.toList.take i ++ d.toList.drop j ++ List.replicate (j - i) Zqv).toArray := ⟨_, rfl⟩
    have hDs : D.size = xs.length := by rw [hD]; simp; omega
    rw [← hD] at h2
    have hlen : (xs.take i ++ xs.drop j).length = xs.length - (j - i) := by simp; omega
    have hDat : ∀ t x, (xs.take i ++ xs.drop j)[t]? = some x → ∃ (u : Nat) (hu : u < d.size) (ht : t < D.size), D[t] = d[u] ∧ xs[u]? = some x := fun t x hx => by
     have htl := (Yg.1 hx).1
     have htD : t < D.size := by omega
     have e1 : D[t]? = (d.toList.take i ++ d.toList.drop j ++ List.replicate (j - i) Zqv)[t]? := by rw [hD]; exact YaS
     have ld : (d.toList.take i ++ d.toList.drop j).length = xs.length - (j - i) := by simp; omega
     rw [Yi (by omega)] at e1
     rcases Ys t i with hti | hti
     ·rw [Yi (by simp; omega), YN, if_pos hti] at hx
      rw [Yi (by simp; omega), YN, if_pos hti, Yk, Yh htD, Yh (by omega)] at e1
      exact ⟨t, by omega, htD, Ybu e1, hx⟩
     ·have l1 : (xs.take i).length = i := by simp; omega
      have l2 : (d.toList.take i).length = i := by simp; omega
      rw [Yn (by omega), l1, YI] at hx
      rw [Yn (by omega), l2, YI, Yk, Yh htD, Yh (by omega)] at e1
      exact ⟨j + (t - i), by omega, htD, Ybu e1, hx⟩
    obtain ⟨k1, k2⟩ := hO.write k hk hl hc0 (Zak Zax (xs.take i ++ xs.drop j)) (putCells idV (m k).o D C) (by rw [ZkM, c2, hH, Yao]) (by rw [ZeV, Yp, hH, Yao]; omega)
     (putRow idV (Sort.ahead w n) (m k).b (m k).o D) (fun b => by rw [hH]; exact Zpq (Sort.ahead w n) (m k).b _ c1 b) (by rw [size_putRow]; rfl) rfl rfl rfl (fun t x v hx hv => by
      rw [ZeV, Yu] at hx
      cases hq : (xs.take i ++ xs.drop j)[t]? with
      | none => rw [hq] at hx; cases hx
      | some y =>
       rw [hq] at hx
       cases hx
       obtain ⟨u, hu, ht, e1, e2⟩ := hDat t y hq
       rw [Zso ht (by omega)] at hv
       cases hv
       rw [e1]
       exact hrep u hu y e2)
    rw [hH] at k1 k2
    subst h2
    refine ⟨_, _, _, m, S, h1, h, k1, ?_, k2⟩
    rw [hlen]
    have := RepA.refL (w := putRow idV (Sort.ahead w n) (m k).b (m k).o D) (S := S) (H := updH ℋ k ⟨(ℋ k).g, true, .t e, 1, Zak Zax (xs.take i ++ xs.drop j)⟩) (m := m) (l := ℓ) k 0 (xs.length - (j - i)) (some ⟨(m k).b, (m k).o, none⟩) hk (by rw [Zaa]) (by omega) (fun _ => by rw [Yah, Yag])
    rw [Zaa] at this
    exact this⟩
def Zij (p0 : List (List ByteArray)) (p1 p2 : Int) : Option (List (List ByteArray)) := if 0 ≤ p1 ∧ p1 < p2 ∧ p2 ≤ p0.length ∧ p0.length < 4611686018427387904 then some (p0.take p1.toNat ++ p0.drop p2.toNat) else none
abbrev E60 : List (List ByteArray) → AV := fun y => .ref (0, 0) 0 0 y.length
@[reducible] def G60 : List (List ByteArray) → List Blk := fun y => [⟨0, true, 31, 1, Zak Zax y⟩]
theorem Zzw (p0 : List (List ByteArray)) (p1 p2 : Int) : KO Try.prog 60 1 [.ref (0, 0) 0 0 p0.length, vI p1, vI p2] [⟨0, true, 31, 1, Zak Zax p0⟩] (fun _ _ _ _ => True) (Zij p0 p1 p2) E60 G60 := ⟨fun l H ks gs θ hks hlow hnd hH _ y hy => by
 obtain ⟨⟨h0, h1, h2, h3⟩, hy⟩ := Zau hy
 cases hy
 obtain ⟨i, rfl⟩ := Ybs h0
 obtain ⟨j, rfl⟩ := Ybs (show 0 ≤ p2 by omega)
 match ks, hks with
 | [k0], _ => exact ZkS hlow.1 p0 i j (by omega) (by omega) h3 ((hH.1.2 rfl).trans (Zdv (Zam _ _))) ⟨rfl, (congrArg (updH H k0) (Zdv (Zam _ _))).symm⟩⟩
end Go.Proofs.Ythhipejbnbochaa
namespace Go.Eng
set_option linter.all false
open Go Go.RowKit
def gB : Nat → List (List ByteArray) → List (Key × Blk)
 | _, [] => []
 | i, g :: r => ((1, 3000 + i), ⟨0, true, 9, 1, Zak Zai g⟩) :: gB (i + 1) r
def gC : Nat → List (List ByteArray) → List AV
 | _, [] => []
 | i, g :: r => .ref (1, 3000 + i) 0 0 g.length :: gC (i + 1) r
def gS : List (List ByteArray) → AV
 | [] => .e0
 | g :: r => .ref (1, 43) 0 0 (g :: r).length
def gR : List (List ByteArray) → List (Key × Blk)
 | [] => []
 | g :: r => [((1, 43), ⟨0, true, 31, 1, gC 0 (g :: r)⟩)]
theorem ZkY : ∀ (i : Nat) (l : List (List ByteArray)), (gC i l).length = l.length
 | _, [] => rfl
 | i, g :: r => by rw [gC, Y7, ZkY (i + 1) r, Y7]
theorem ZuX : ∀ (i : Nat) (l : List (List ByteArray)) (j : Nat) (x : AV), (gC i l)[j]? = some x → ∃ g, l[j]? = some g ∧ x = .ref (1, 3000 + (i + j)) 0 0 g.length
 | _, [], j, x, h => by simp [gC] at h
 | i, g :: r, 0, x, h => by simp [gC] at h; exact ⟨g, rfl, by rw [← h]; rfl⟩
 | i, g :: r, j + 1, x, h => by
  rw [gC, YT] at h
  obtain ⟨g', h1, h2⟩ := ZuX (i + 1) r j x h
  exact ⟨g', by rw [YT]; exact h1, by rw [h2, show i + 1 + j = i + (j + 1) by omega]⟩
theorem Zpj : ∀ (i : Nat) (l : List (List ByteArray)) (j : Nat) (g : List ByteArray), l[j]? = some g → ((1, 3000 + (i + j)), (⟨0, true, 9, 1, Zak Zai g⟩ : Blk)) ∈ gB i l
 | _, [], j, g, h => by simp at h
 | i, g :: r, 0, g', h => by simp at h; subst h; exact Yv ..
 | i, g :: r, j + 1, g', h => by
  rw [YT] at h
  have := Zpj (i + 1) r j g' h
  rw [show i + 1 + j = i + (j + 1) by omega] at this
  exact Yt _ this
theorem ZiN : ∀ M : List (List ByteArray), (M.map Zax).flatten = M.map fun g => .list (g.map Zai)
 | [] => rfl
 | a :: l => by simp [Zax, ZiN l]
theorem Zrs {H' : Hp} {r : Ren} {l : Nat} (L : List (List ByteArray)) (h : L ≠ [] → H' (r.κ (1, 43)) = ZaJ r (1, 43) ⟨0, true, 31, 1, gC 0 L⟩) (hk : ∀ d, (r.κ (1, d)).1 ≤ l)
  (hg : ∀ j g, L[j]? = some g → H' (r.κ (1, 3000 + j)) = ZaJ r (1, 3000 + j) ⟨0, true, 9, 1, Zak Zai g⟩) : Vw H' l (ren r (gS L)) (.list (L.map Zax)) := by
 cases L with
 | nil => exact .e0
 | cons a t =>
  have h := h (by simp)
  generalize e : a :: t = M at *
  have e2 : gS M = .ref (1, 43) 0 0 M.length := by rw [← e]; rfl
  rw [e2]
  unfold ren
  refine .ref _ _ _ _ (hk _) (by rw [h]; rfl) (Yp _) (by rw [h]; rfl) (fun x hx => ?_) (by rw [h]; simp [ZaJ]) ?_ fun i x d hx hd => ?_
  ·obtain ⟨g, _, rfl⟩ := Yq.1 hx
   rw [h]; rfl
  ·rw [h]; show (Zaj r (gC 0 M)).length = M.length * 1
   rw [Zaw, ZkY, Yao]
  ·rw [h] at hx
   change (Zaj r (gC 0 M))[i]? = some x at hx
   rw [Zcu] at hx
   obtain ⟨c, h1, rfl⟩ := YX.1 hx
   obtain ⟨g, h2, rfl⟩ := ZuX 0 M i c h1
   have h3 : (M.map Zax).flatten = M.map fun g => .list (g.map Zai) := by
    exact ZiN M
   rw [h3, Yu, h2] at hd
   cases hd
   rw [Yy]
   exact Zng (hg i g h2) (hk _) (fun _ => rfl)
section
variable {os : Nat} {β : Type}
@[reducible] def rnw {α : Type} [Rw α] (d d' e i : Nat) (xs : List α) (k : PT os β) : PT os β := ⟨.rnm d d' e i k.a, fun E => Zda (Zak Rw.e xs) ∧ k.q E, k.m, k.n, fun E hn y hm hL => ⟨Zfq _ _, k.ok E hn y hm hL⟩⟩
@[reducible] def apG (L : List (List ByteArray)) (x : AV) (kk : Key) (g : Nat) (h : x.onef = true) (k : PT os β) : PT os β :=
 ⟨.nat 1 (.cs [x] (.cs (gC 0 L ++ [x]) (.nat (L.length + 1) k.a))), fun E => ZhZ 1 [x] (.ref kk g 0 1) 1 [x] ∧ Zrm (gC 0 L) 0 L.length 1 1 256 [x] (gC 0 L ++ [x]) (L.length + 1) ∧ k.q E, if L.length < 8 then k.m else none, k.n, fun E hn y hm hL => by
  obtain ⟨h8, hm⟩ := Zau hm
  exact ⟨⟨by simp [h], rfl, Ye _, rfl⟩, ⟨by rw [ZkY]; omega, by simp, rfl, by omega⟩, k.ok E hn y hm hL⟩⟩
def vfl : List (List ByteArray) → PT os β → PT os β
 | [], k => k
 | g :: r, k => vz (fl g) (vfl r k)
def vfz : Nat → List (List ByteArray) → PT os β → PT os β
 | _, [], k => k
 | i, g :: r, k => vw (.frz (3000 + i) [] [((1, 43), i, g.map Zai)]) (vz (fz g) (vfz (i + 1) r k))
end
end Go.Eng
