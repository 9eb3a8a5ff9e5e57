import Derived.Test.YthhipejbnbochaaProg
import Derived.Test.YthhipejbnbochaaCt10
import Derived.Test.YthhipejbnbochaaCt13
import Derived.WalkKit
import Derived.Shelf.RegionOpenPlain
import Derived.Deep.LoopGhost
import Derived.Deep.RegionLaw
import Derived.Lib.Walk
import Derived.Sort.WalkB12
import Derived.Lib.SliceRun
import Derived.Lib.SlicesDelete
import Derived.Test.YthhipejbnbochaaCt15
import Derived.Test.YthhipejbnbochaaCt00
namespace Go.Proofs.Ythhipejbnbochaa
open Go Go.Eng
def ti3 : TI := { agg := false, kin := 3, siz := 1, zer := some [.d (.int .i64 0)], ik := some .i64, byt := some 256 }
theorem tk3 : TIok Try.prog 3 ti3 := .of (by kernel_rfl) (by kernel_rfl) (by kernel_rfl) (.inl rfl) (by kernel_rfl) (.inr (by kernel_rfl)) (.inl rfl) (.inl rfl) (.inr (by kernel_rfl)) (.inr ⟨256, by decide +kernel, by decide +kernel, rfl⟩) (.inr rfl)
def ti4 : TI := { agg := false, kin := 1, siz := 1, zer := some [.d (.bool false)], byt := some 256 }
theorem tk4 : TIok Try.prog 4 ti4 := .of (by kernel_rfl) (by kernel_rfl) (by kernel_rfl) (.inl rfl) (by kernel_rfl) (.inr (by kernel_rfl)) (.inl rfl) (.inl rfl) (.inl rfl) (.inr ⟨256, by decide +kernel, by decide +kernel, rfl⟩) (.inr rfl)
def ti5 : TI := { agg := false, kin := 3, siz := 1, zer := some [.d (.int .u8 0)], ik := some .u8, byt := some 256 }
theorem tk5 : TIok Try.prog 5 ti5 := .of (by kernel_rfl) (by kernel_rfl) (by kernel_rfl) (.inl rfl) (by kernel_rfl) (.inr (by kernel_rfl)) (.inl rfl) (.inl rfl) (.inr (by kernel_rfl)) (.inr ⟨256, by decide +kernel, by decide +kernel, rfl⟩) (.inr rfl)
def ti9 : TI := { agg := false, kin := 2, siz := 1, zer := some [.d (.str ⟨#[]⟩)], byt := some 256 }
theorem tk9 : TIok Try.prog 9 ti9 := .of (by kernel_rfl) (by kernel_rfl) (by kernel_rfl) (.inl rfl) (by kernel_rfl) (.inr (by kernel_rfl)) (.inl rfl) (.inl rfl) (.inl rfl) (.inr ⟨256, by decide +kernel, by decide +kernel, rfl⟩) (.inr rfl)
def Zya : TI := { agg := false, kin := 4, siz := 1, elm := some (42, 5), zer := some [.e0], byt := some 256 }
theorem Zzy : TIok Try.prog 22 Zya := .of (by kernel_rfl) (by kernel_rfl) (by kernel_rfl) (.inr (by kernel_rfl)) (by kernel_rfl) (.inr (by kernel_rfl)) (.inl rfl) (.inl rfl) (.inl rfl) (.inr ⟨256, by decide +kernel, by decide +kernel, rfl⟩) (.inr rfl)
def Zyr : TI := { agg := false, kin := 4, siz := 1, elm := some (89, 5), zer := some [.e0], byt := some 256 }
theorem ZzT : TIok Try.prog 23 Zyr := .of (by kernel_rfl) (by kernel_rfl) (by kernel_rfl) (.inr (by kernel_rfl)) (by kernel_rfl) (.inr (by kernel_rfl)) (.inl rfl) (.inl rfl) (.inl rfl) (.inr ⟨256, by decide +kernel, by decide +kernel, rfl⟩) (.inr rfl)
def Zyi : TI := { agg := false, kin := 4, siz := 1, elm := some (149, 3), zer := some [.e0], byt := some 256 }
theorem Zzm : TIok Try.prog 24 Zyi := .of (by kernel_rfl) (by kernel_rfl) (by kernel_rfl) (.inr (by kernel_rfl)) (by kernel_rfl) (.inr (by kernel_rfl)) (.inl rfl) (.inl rfl) (.inl rfl) (.inr ⟨256, by decide +kernel, by decide +kernel, rfl⟩) (.inr rfl)
def Zyf : TI := { agg := true, kin := 0, siz := 3, fld := [(0, 1, false), (1, 1, false), (2, 1, false)], zer := some [.e0, .e0, .e0], str := true, byt := some 256 }
theorem ZzE : TIok Try.prog 26 Zyf := .of (by kernel_rfl) (by kernel_rfl) (by kernel_rfl) (.inl rfl) (by kernel_rfl) (.inr (by kernel_rfl)) (.inl rfl) (.inr (by kernel_rfl)) (.inl rfl) (.inr ⟨256, by decide +kernel, by decide +kernel, rfl⟩) (.inr rfl)
def ZyO : TI := { agg := false, kin := 4, siz := 1, elm := some (31, 1), zer := some [.e0], byt := some 256 }
theorem ZzW : TIok Try.prog 28 ZyO := .of (by kernel_rfl) (by kernel_rfl) (by kernel_rfl) (.inr (by kernel_rfl)) (by kernel_rfl) (.inr (by kernel_rfl)) (.inl rfl) (.inl rfl) (.inl rfl) (.inr ⟨256, by decide +kernel, by decide +kernel, rfl⟩) (.inr rfl)
def ZyJ : TI := { agg := false, kin := 4, siz := 1, elm := some (9, 1), zer := some [.e0], byt := some 256 }
theorem Zzr : TIok Try.prog 31 ZyJ := .of (by kernel_rfl) (by kernel_rfl) (by kernel_rfl) (.inr (by kernel_rfl)) (by kernel_rfl) (.inr (by kernel_rfl)) (.inl rfl) (.inl rfl) (.inl rfl) (.inr ⟨256, by decide +kernel, by decide +kernel, rfl⟩) (.inr rfl)
def Zyj : TI := { agg := false, kin := 4, siz := 1, elm := some (3, 1), zer := some [.e0], byt := some 256 }
theorem ZzC : TIok Try.prog 33 Zyj := .of (by kernel_rfl) (by kernel_rfl) (by kernel_rfl) (.inr (by kernel_rfl)) (by kernel_rfl) (.inr (by kernel_rfl)) (.inl rfl) (.inl rfl) (.inl rfl) (.inr ⟨256, by decide +kernel, by decide +kernel, rfl⟩) (.inr rfl)
def Zye : TI := { agg := false, kin := 3, siz := 1, zer := some [.d (.int .i64 0)], ik := some .i64, byt := some 256 }
theorem Zy7 : TIok Try.prog 34 Zye := .of (by kernel_rfl) (by kernel_rfl) (by kernel_rfl) (.inl rfl) (by kernel_rfl) (.inr (by kernel_rfl)) (.inl rfl) (.inl rfl) (.inr (by kernel_rfl)) (.inr ⟨256, by decide +kernel, by decide +kernel, rfl⟩) (.inr rfl)
def Zx7 : TI := { agg := false, kin := 4, siz := 1, elm := some (57, 16), zer := some [.e0], byt := some 256 }
theorem Zzu : TIok Try.prog 38 Zx7 := .of (by kernel_rfl) (by kernel_rfl) (by kernel_rfl) (.inr (by kernel_rfl)) (by kernel_rfl) (.inr (by kernel_rfl)) (.inl rfl) (.inl rfl) (.inl rfl) (.inr ⟨256, by decide +kernel, by decide +kernel, rfl⟩) (.inr rfl)
def ZyG : TI := { agg := false, kin := 4, siz := 1, elm := some (151, 2), zer := some [.e0], byt := some 256 }
theorem Zzz : TIok Try.prog 39 ZyG := .of (by kernel_rfl) (by kernel_rfl) (by kernel_rfl) (.inr (by kernel_rfl)) (by kernel_rfl) (.inr (by kernel_rfl)) (.inl rfl) (.inl rfl) (.inl rfl) (.inr ⟨256, by decide +kernel, by decide +kernel, rfl⟩) (.inr rfl)
def Zyy : TI := { agg := false, kin := 4, siz := 1, elm := some (153, 8), zer := some [.e0], byt := some 256 }
theorem ZzJ : TIok Try.prog 40 Zyy := .of (by kernel_rfl) (by kernel_rfl) (by kernel_rfl) (.inr (by kernel_rfl)) (by kernel_rfl) (.inr (by kernel_rfl)) (.inl rfl) (.inl rfl) (.inl rfl) (.inr ⟨256, by decide +kernel, by decide +kernel, rfl⟩) (.inr rfl)
def Zyg : TI := { agg := true, kin := 0, siz := 5, fld := [(0, 1, false), (1, 1, false), (2, 1, false), (3, 1, false), (4, 1, false)], zer := some [.d (.str ⟨#[]⟩), .e0, .e0, .e0, .e0], str := true, byt := some 256 }
theorem ZzI : TIok Try.prog 42 Zyg := .of (by kernel_rfl) (by kernel_rfl) (by kernel_rfl) (.inl rfl) (by kernel_rfl) (.inr (by kernel_rfl)) (.inl rfl) (.inr (by kernel_rfl)) (.inl rfl) (.inr ⟨256, by decide +kernel, by decide +kernel, rfl⟩) (.inr rfl)
def ZyI : TI := { agg := true, kin := 0, siz := 2, fld := [(0, 1, false), (1, 1, false)], zer := some [.d (.int .i64 0), .d (.str ⟨#[]⟩)], eqt := some [3, 2], str := true, byt := some 256 }
theorem ZzQ : TIok Try.prog 48 ZyI := .of (by kernel_rfl) (by kernel_rfl) (by kernel_rfl) (.inl rfl) (by kernel_rfl) (.inr (by kernel_rfl)) (.inr (by kernel_rfl)) (.inr (by kernel_rfl)) (.inl rfl) (.inr ⟨256, by decide +kernel, by decide +kernel, rfl⟩) (.inr rfl)
def ZyY : TI := { agg := false, kin := 3, siz := 1, zer := some [.d (.int .u64 0)], ik := some .u64, byt := some 256 }
theorem ZzV : TIok Try.prog 49 ZyY := .of (by kernel_rfl) (by kernel_rfl) (by kernel_rfl) (.inl rfl) (by kernel_rfl) (.inr (by kernel_rfl)) (.inl rfl) (.inl rfl) (.inr (by kernel_rfl)) (.inr ⟨256, by decide +kernel, by decide +kernel, rfl⟩) (.inr rfl)
def Zy3 : TI := { agg := false, kin := 4, siz := 1, elm := some (55, 7), zer := some [.e0], byt := some 256 }
theorem ZzX : TIok Try.prog 50 Zy3 := .of (by kernel_rfl) (by kernel_rfl) (by kernel_rfl) (.inr (by kernel_rfl)) (by kernel_rfl) (.inr (by kernel_rfl)) (.inl rfl) (.inl rfl) (.inl rfl) (.inr ⟨256, by decide +kernel, by decide +kernel, rfl⟩) (.inr rfl)
def Zx3 : TI := { agg := false, kin := 4, siz := 1, elm := some (155, 14), zer := some [.e0], byt := some 256 }
theorem ZzN : TIok Try.prog 51 Zx3 := .of (by kernel_rfl) (by kernel_rfl) (by kernel_rfl) (.inr (by kernel_rfl)) (by kernel_rfl) (.inr (by kernel_rfl)) (.inl rfl) (.inl rfl) (.inl rfl) (.inr ⟨256, by decide +kernel, by decide +kernel, rfl⟩) (.inr rfl)
def Zyu : TI := { agg := false, kin := 4, siz := 1, elm := some (157, 8), zer := some [.e0], byt := some 256 }
theorem Zzl : TIok Try.prog 52 Zyu := .of (by kernel_rfl) (by kernel_rfl) (by kernel_rfl) (.inr (by kernel_rfl)) (by kernel_rfl) (.inr (by kernel_rfl)) (.inl rfl) (.inl rfl) (.inl rfl) (.inr ⟨256, by decide +kernel, by decide +kernel, rfl⟩) (.inr rfl)
def ZyV : TI := { agg := false, kin := 4, siz := 1, elm := some (159, 4), zer := some [.e0], byt := some 256 }
theorem Zzh : TIok Try.prog 53 ZyV := .of (by kernel_rfl) (by kernel_rfl) (by kernel_rfl) (.inr (by kernel_rfl)) (by kernel_rfl) (.inr (by kernel_rfl)) (.inl rfl) (.inl rfl) (.inl rfl) (.inr ⟨256, by decide +kernel, by decide +kernel, rfl⟩) (.inr rfl)
def Zx8 : TI := { agg := true, kin := 0, siz := 7, fld := [(0, 1, false), (1, 1, false), (2, 1, false), (3, 1, false), (4, 1, false), (5, 1, false), (6, 1, false)], zer := some [.d (.int .i64 0), .d (.int .u64 0), .d (.str ⟨#[]⟩), .e0, .e0, .e0, .e0], str := true, byt := some 256 }
theorem Zzw : TIok Try.prog 55 Zx8 := .of (by kernel_rfl) (by kernel_rfl) (by kernel_rfl) (.inl rfl) (by kernel_rfl) (.inr (by kernel_rfl)) (.inl rfl) (.inr (by kernel_rfl)) (.inl rfl) (.inr ⟨256, by decide +kernel, by decide +kernel, rfl⟩) (.inr rfl)
def ZyR : TI := { agg := true, kin := 0, siz := 16, fld := [(0, 1, false), (1, 1, false), (2, 1, false), (3, 1, false), (4, 2, true), (6, 1, false), (7, 1, false), (8, 7, true), (15, 1, false)], zer := some [.d (.int .i64 0), .d (.str ⟨#[]⟩), .d (.int .i64 0), .d (.int .i64 0), .d (.int .i64 0), .d (.str ⟨#[]⟩), .d (.str ⟨#[]⟩), .d (.bool false), .d (.int .i64 0), .d (.int .u64 0), .d (.str ⟨#[]⟩), .e0, .e0, .e0, .e0, .e0], str := true, byt := some 256 }
theorem Zy4 : TIok Try.prog 57 ZyR := .of (by kernel_rfl) (by kernel_rfl) (by kernel_rfl) (.inl rfl) (by kernel_rfl) (.inr (by kernel_rfl)) (.inl rfl) (.inr (by kernel_rfl)) (.inl rfl) (.inr ⟨256, by decide +kernel, by decide +kernel, rfl⟩) (.inr rfl)
def Zyh : TI := { agg := false, kin := 0, siz := 1, mp := some (true, [.str ⟨#[]⟩, .list [], .list [], .list [], .list []]), zer := some [.p (.map none)] }
theorem ZzZ : TIok Try.prog 66 Zyh := .of (by kernel_rfl) (by kernel_rfl) (by kernel_rfl) (.inl rfl) (by kernel_rfl) (.inr (by kernel_rfl)) (.inl rfl) (.inl rfl) (.inl rfl) (.inl rfl) (.inr rfl)
def Zy2 : TI := { agg := false, kin := 0, siz := 1, mp := some (false, [.bool false]), zer := some [.p (.map none)] }
theorem Zzg : TIok Try.prog 67 Zy2 := .of (by kernel_rfl) (by kernel_rfl) (by kernel_rfl) (.inl rfl) (by kernel_rfl) (.inr (by kernel_rfl)) (.inl rfl) (.inl rfl) (.inl rfl) (.inl rfl) (.inr rfl)
def Zyn : TI := { agg := true, kin := 0, siz := 2, fld := [(0, 1, false), (1, 1, false)], zer := some [.p (.map none), .p (.map none)], str := true, byt := some 256 }
theorem ZzK : TIok Try.prog 69 Zyn := .of (by kernel_rfl) (by kernel_rfl) (by kernel_rfl) (.inl rfl) (by kernel_rfl) (.inr (by kernel_rfl)) (.inl rfl) (.inr (by kernel_rfl)) (.inl rfl) (.inr ⟨256, by decide +kernel, by decide +kernel, rfl⟩) (.inr rfl)
def Zyk : TI := { agg := false, kin := 0, siz := 1, mp := some (false, [.map false []]), zer := some [.p (.map none)] }
theorem Zzj : TIok Try.prog 71 Zyk := .of (by kernel_rfl) (by kernel_rfl) (by kernel_rfl) (.inl rfl) (by kernel_rfl) (.inr (by kernel_rfl)) (.inl rfl) (.inl rfl) (.inl rfl) (.inl rfl) (.inr rfl)
def ZyD : TI := { agg := false, kin := 0, siz := 1, zer := some [.p .nilFunc] }
theorem Zzd : TIok Try.prog 75 ZyD := .of (by kernel_rfl) (by kernel_rfl) (by kernel_rfl) (.inl rfl) (by kernel_rfl) (.inr (by kernel_rfl)) (.inl rfl) (.inl rfl) (.inl rfl) (.inl rfl) (.inr rfl)
def Zyl : TI := { agg := false, kin := 0, siz := 1, mp := some (false, [.list []]), zer := some [.p (.map none)] }
theorem ZzP : TIok Try.prog 81 Zyl := .of (by kernel_rfl) (by kernel_rfl) (by kernel_rfl) (.inl rfl) (by kernel_rfl) (.inr (by kernel_rfl)) (.inl rfl) (.inl rfl) (.inl rfl) (.inl rfl) (.inr rfl)
def ZyL : TI := { agg := false, kin := 4, siz := 1, elm := some (161, 3), zer := some [.e0], byt := some 256 }
theorem ZzM : TIok Try.prog 87 ZyL := .of (by kernel_rfl) (by kernel_rfl) (by kernel_rfl) (.inr (by kernel_rfl)) (by kernel_rfl) (.inr (by kernel_rfl)) (.inl rfl) (.inl rfl) (.inl rfl) (.inr ⟨256, by decide +kernel, by decide +kernel, rfl⟩) (.inr rfl)
def Zyv : TI := { agg := true, kin := 0, siz := 5, fld := [(0, 1, false), (1, 1, false), (2, 1, false), (3, 1, false), (4, 1, false)], zer := some [.d (.str ⟨#[]⟩), .d (.bool false), .e0, .e0, .e0], str := true, byt := some 256 }
theorem Zy9 : TIok Try.prog 89 Zyv := .of (by kernel_rfl) (by kernel_rfl) (by kernel_rfl) (.inl rfl) (by kernel_rfl) (.inr (by kernel_rfl)) (.inl rfl) (.inr (by kernel_rfl)) (.inl rfl) (.inr ⟨256, by decide +kernel, by decide +kernel, rfl⟩) (.inr rfl)
def Zyb : TI := { agg := false, kin := 0, siz := 1, mp := some (false, [.int .i64 0]), zer := some [.p (.map none)] }
theorem Zzo : TIok Try.prog 92 Zyb := .of (by kernel_rfl) (by kernel_rfl) (by kernel_rfl) (.inl rfl) (by kernel_rfl) (.inr (by kernel_rfl)) (.inl rfl) (.inl rfl) (.inl rfl) (.inl rfl) (.inr rfl)
def Zug : TI := { agg := false, kin := 3, siz := 1, zer := some [.d (.int .u64 0)], ik := some .u64, byt := some 256 }
theorem Zxy : TIok Try.prog 107 Zug := .of (by kernel_rfl) (by kernel_rfl) (by kernel_rfl) (.inl rfl) (by kernel_rfl) (.inr (by kernel_rfl)) (.inl rfl) (.inl rfl) (.inr (by kernel_rfl)) (.inr ⟨256, by decide +kernel, by decide +kernel, rfl⟩) (.inr rfl)
def Zuv : TI := { agg := false, kin := 3, siz := 1, zer := some [.d (.int .i64 0)], ik := some .i64, byt := some 256 }
theorem Zxt : TIok Try.prog 110 Zuv := .of (by kernel_rfl) (by kernel_rfl) (by kernel_rfl) (.inl rfl) (by kernel_rfl) (.inr (by kernel_rfl)) (.inl rfl) (.inl rfl) (.inr (by kernel_rfl)) (.inr ⟨256, by decide +kernel, by decide +kernel, rfl⟩) (.inr rfl)
def Zwq : TI := { agg := false, kin := 3, siz := 1, zer := some [.d (.int .u32 0)], ik := some .u32, byt := some 256 }
theorem Zxr : TIok Try.prog 119 Zwq := .of (by kernel_rfl) (by kernel_rfl) (by kernel_rfl) (.inl rfl) (by kernel_rfl) (.inr (by kernel_rfl)) (.inl rfl) (.inl rfl) (.inr (by kernel_rfl)) (.inr ⟨256, by decide +kernel, by decide +kernel, rfl⟩) (.inr rfl)
def Zww : TI := { agg := false, kin := 3, siz := 1, zer := some [.d (.int .u64 0)], ik := some .u64, byt := some 256 }
theorem Zxe : TIok Try.prog 122 Zww := .of (by kernel_rfl) (by kernel_rfl) (by kernel_rfl) (.inl rfl) (by kernel_rfl) (.inr (by kernel_rfl)) (.inl rfl) (.inl rfl) (.inr (by kernel_rfl)) (.inr ⟨256, by decide +kernel, by decide +kernel, rfl⟩) (.inr rfl)
def Zui : TI := { agg := false, kin := 0, siz := 1, zer := some [.p (.pointer none)] }
theorem Zxq : TIok Try.prog 126 Zui := .of (by kernel_rfl) (by kernel_rfl) (by kernel_rfl) (.inl rfl) (by kernel_rfl) (.inr (by kernel_rfl)) (.inl rfl) (.inl rfl) (.inl rfl) (.inl rfl) (.inr rfl)
def ZwF : TI := { agg := false, kin := 0, siz := 1, zer := some [.p (.pointer none)] }
theorem Zxp : TIok Try.prog 129 ZwF := .of (by kernel_rfl) (by kernel_rfl) (by kernel_rfl) (.inl rfl) (by kernel_rfl) (.inr (by kernel_rfl)) (.inl rfl) (.inl rfl) (.inl rfl) (.inl rfl) (.inr rfl)
def Zu1 : TI := { agg := false, kin := 4, siz := 1, elm := some (164, 5), zer := some [.e0], byt := some 256 }
theorem ZxZ : TIok Try.prog 147 Zu1 := .of (by kernel_rfl) (by kernel_rfl) (by kernel_rfl) (.inr (by kernel_rfl)) (by kernel_rfl) (.inr (by kernel_rfl)) (.inl rfl) (.inl rfl) (.inl rfl) (.inr ⟨256, by decide +kernel, by decide +kernel, rfl⟩) (.inr rfl)
def ZvR : TI := { agg := true, kin := 0, siz := 3, fld := [(0, 1, false), (1, 1, false), (2, 1, false)], zer := some [.d (.str ⟨#[]⟩), .e0, .e0], str := true, byt := some 256 }
theorem ZxH : TIok Try.prog 149 ZvR := .of (by kernel_rfl) (by kernel_rfl) (by kernel_rfl) (.inl rfl) (by kernel_rfl) (.inr (by kernel_rfl)) (.inl rfl) (.inr (by kernel_rfl)) (.inl rfl) (.inr ⟨256, by decide +kernel, by decide +kernel, rfl⟩) (.inr rfl)
def Zul : TI := { agg := true, kin := 0, siz := 2, fld := [(0, 1, false), (1, 1, false)], zer := some [.d (.int .i64 0), .d (.int .i64 0)], eqt := some [3, 3], str := true, byt := some 256 }
theorem Zxh : TIok Try.prog 151 Zul := .of (by kernel_rfl) (by kernel_rfl) (by kernel_rfl) (.inl rfl) (by kernel_rfl) (.inr (by kernel_rfl)) (.inr (by kernel_rfl)) (.inr (by kernel_rfl)) (.inl rfl) (.inr ⟨256, by decide +kernel, by decide +kernel, rfl⟩) (.inr rfl)
def Zuq : TI := { agg := true, kin := 0, siz := 8, fld := [(0, 1, false), (1, 7, true)], zer := some [.d (.str ⟨#[]⟩), .d (.int .i64 0), .d (.int .u64 0), .d (.str ⟨#[]⟩), .e0, .e0, .e0, .e0], str := true, byt := some 256 }
theorem ZxR : TIok Try.prog 153 Zuq := .of (by kernel_rfl) (by kernel_rfl) (by kernel_rfl) (.inl rfl) (by kernel_rfl) (.inr (by kernel_rfl)) (.inl rfl) (.inr (by kernel_rfl)) (.inl rfl) (.inr ⟨256, by decide +kernel, by decide +kernel, rfl⟩) (.inr rfl)
def ZwO : TI := { agg := true, kin := 0, siz := 14, fld := [(0, 7, true), (7, 7, true)], zer := some [.d (.int .i64 0), .d (.int .u64 0), .d (.str ⟨#[]⟩), .e0, .e0, .e0, .e0, .d (.int .i64 0), .d (.int .u64 0), .d (.str ⟨#[]⟩), .e0, .e0, .e0, .e0], str := true, byt := some 256 }
theorem Zxf : TIok Try.prog 155 ZwO := .of (by kernel_rfl) (by kernel_rfl) (by kernel_rfl) (.inl rfl) (by kernel_rfl) (.inr (by kernel_rfl)) (.inl rfl) (.inr (by kernel_rfl)) (.inl rfl) (.inr ⟨256, by decide +kernel, by decide +kernel, rfl⟩) (.inr rfl)
def ZuD : TI := { agg := true, kin := 0, siz := 8, fld := [(0, 1, false), (1, 7, true)], zer := some [.d (.int .i64 0), .d (.int .i64 0), .d (.int .u64 0), .d (.str ⟨#[]⟩), .e0, .e0, .e0, .e0], str := true, byt := some 256 }
theorem Zx1 : TIok Try.prog 157 ZuD := .of (by kernel_rfl) (by kernel_rfl) (by kernel_rfl) (.inl rfl) (by kernel_rfl) (.inr (by kernel_rfl)) (.inl rfl) (.inr (by kernel_rfl)) (.inl rfl) (.inr ⟨256, by decide +kernel, by decide +kernel, rfl⟩) (.inr rfl)
def Zwh : TI := { agg := true, kin := 0, siz := 4, fld := [(0, 1, false), (1, 1, false), (2, 1, false), (3, 1, false)], zer := some [.d (.int .i64 0), .d (.int .i64 0), .d (.int .u64 0), .d (.str ⟨#[]⟩)], eqt := some [3, 3, 3, 2], str := true, byt := some 256 }
theorem Zxi : TIok Try.prog 159 Zwh := .of (by kernel_rfl) (by kernel_rfl) (by kernel_rfl) (.inl rfl) (by kernel_rfl) (.inr (by kernel_rfl)) (.inr (by kernel_rfl)) (.inr (by kernel_rfl)) (.inl rfl) (.inr ⟨256, by decide +kernel, by decide +kernel, rfl⟩) (.inr rfl)
def ZwJ : TI := { agg := true, kin := 0, siz := 3, fld := [(0, 1, false), (1, 1, false), (2, 1, false)], zer := some [.d (.str ⟨#[]⟩), .d (.int .i64 0), .e0], str := true, byt := some 256 }
theorem ZxY : TIok Try.prog 161 ZwJ := .of (by kernel_rfl) (by kernel_rfl) (by kernel_rfl) (.inl rfl) (by kernel_rfl) (.inr (by kernel_rfl)) (.inl rfl) (.inr (by kernel_rfl)) (.inl rfl) (.inr ⟨256, by decide +kernel, by decide +kernel, rfl⟩) (.inr rfl)
def Zwi : TI := { agg := true, kin := 0, siz := 5, fld := [(0, 1, false), (1, 1, false), (2, 1, false), (3, 1, false), (4, 1, false)], zer := some [.d (.str ⟨#[]⟩), .d (.str ⟨#[]⟩), .d (.str ⟨#[]⟩), .d (.int .i64 0), .e0], str := true, byt := some 256 }
theorem Zxm : TIok Try.prog 164 Zwi := .of (by kernel_rfl) (by kernel_rfl) (by kernel_rfl) (.inl rfl) (by kernel_rfl) (.inr (by kernel_rfl)) (.inl rfl) (.inr (by kernel_rfl)) (.inl rfl) (.inr ⟨256, by decide +kernel, by decide +kernel, rfl⟩) (.inr rfl)
def tl : List (Nat × TI) := [(3, ti3), (4, ti4), (5, ti5), (9, ti9), (22, Zya), (23, Zyr), (24, Zyi), (26, Zyf), (28, ZyO), (31, ZyJ), (33, Zyj), (34, Zye), (38, Zx7), (39, ZyG), (40, Zyy), (42, Zyg), (48, ZyI), (49, ZyY), (50, Zy3), (51, Zx3), (52, Zyu), (53, ZyV), (55, Zx8), (57, ZyR), (66, Zyh), (67, Zy2), (69, Zyn), (71, Zyk), (75, ZyD), (81, Zyl), (87, ZyL), (89, Zyv), (92, Zyb), (107, Zug), (110, Zuv), (119, Zwq), (122, Zww), (126, Zui), (129, ZwF), (147, Zu1), (149, ZvR), (151, Zul), (153, Zuq), (155, ZwO), (157, ZuD), (159, Zwh), (161, ZwJ), (164, Zwi)]
theorem tok : TOk Try.prog (lkT tl) := Zqx tl (by
 intro p hp
 simp only [tl, Yo, List.not_mem_nil, or_false] at hp
 rcases hp with rfl | rfl | rfl | rfl | rfl | rfl | rfl | rfl | rfl | rfl | rfl | rfl | rfl | rfl | rfl | rfl | rfl | rfl | rfl | rfl | rfl | rfl | rfl | rfl | rfl | rfl | rfl | rfl | rfl | rfl | rfl | rfl | rfl | rfl | rfl | rfl | rfl | rfl | rfl | rfl | rfl | rfl | rfl | rfl | rfl | rfl | rfl | rfl
 ·exact tk3
 ·exact tk4
 ·exact tk5
 ·exact tk9
 ·exact Zzy
 ·exact ZzT
 ·exact Zzm
 ·exact ZzE
 ·exact ZzW
 ·exact Zzr
 ·exact ZzC
 ·exact Zy7
 ·exact Zzu
 ·exact Zzz
 ·exact ZzJ
 ·exact ZzI
 ·exact ZzQ
 ·exact ZzV
 ·exact ZzX
 ·exact ZzN
 ·exact Zzl
 ·exact Zzh
 ·exact Zzw
 ·exact Zy4
 ·exact ZzZ
 ·exact Zzg
 ·exact ZzK
 ·exact Zzj
 ·exact Zzd
 ·exact ZzP
 ·exact ZzM
 ·exact Zy9
 ·exact Zzo
 ·exact Zxy
 ·exact Zxt
 ·exact Zxr
 ·exact Zxe
 ·exact Zxq
 ·exact Zxp
 ·exact ZxZ
 ·exact ZxH
 ·exact Zxh
 ·exact ZxR
 ·exact Zxf
 ·exact Zx1
 ·exact Zxi
 ·exact ZxY
 ·exact Zxm)
theorem tmo : Try.prog.follows .mixedOrders = true := by kernel_rfl
end Go.Proofs.Ythhipejbnbochaa
namespace Go.Proofs.Ythhipejbnbochaa
set_option linter.all false
open Go Go.RowKit Go.Lib Go.Sort Go.Eng
def ZtT : Value := .slice none 0 0
def idV (v : Value) : Value := v
theorem Zuw : (Try.prog.info? 31).map (fun i => (i.zero, i.size, i.bytes)) = some (some ZtT, 1, 24) := by kernel_rfl
set_option maxHeartbeats 4000000 in
set_option maxRecDepth 1000000 in
theorem ZpX (blk off cap i j : Nat) (d : Array Value) (w : World) (h1c : ∀ v ∈ d.toList, v.oneCell' = true) (hH : Holds idV w blk off d) (hcap : d.size ≤ cap) (hm : d.size ≤ 9223372036854775807) (hij : i ≤ j) (hj : j ≤ d.size) :
  Calls Try.prog 60 #[.slice (some ⟨blk, off, none⟩) d.size cap, .int .i64 i, .int .i64 j] w fun e w' => e = .returned (.slice (some ⟨blk, off, none⟩) (d.size - (j - i)) cap) ∧ ∃ q, w' = putRow idV (Sort.ahead w q) blk off (d.toList.take i ++ d.toList.drop j ++ List.replicate (j - i) ZtT).toArray := by
 obtain ⟨i0, hi0, hz0, hz1, hz2⟩ := info_parts Zuw
 by_cases heq : i = j
 ·subst heq
  have h0 : Calls Try.prog 60 #[.slice (some ⟨blk, off, none⟩) d.size cap, .int .i64 i, .int .i64 i] w fun e w' => e = .returned (.slice (some ⟨blk, off, none⟩) d.size cap) ∧ w' = w := by
   clear hH
   go_enter Try.func60, Try.ntmps60
   go_wp2
   all_goals (go_ret; exact ⟨rfl, rfl⟩)
  refine h0.mono ?_
  rintro e w' ⟨rfl, rfl⟩
  have e : (d.toList.take i ++ d.toList.drop i ++ List.replicate (i - i) ZtT).toArray = d := by simp
  refine ⟨by rw [YbJ, YbK], 0, ?_⟩
  rw [e]
  exact (putRow_self idV (Sort.ahead w' 0) blk off d hH).symm
 ·have hlt : i < j := by omega
  obtain ⟨news, hnews⟩ : ∃ news, news = (d.toList.drop j).map idV := ⟨_, rfl⟩
  have hlen : news.length = d.size - j := by rw [hnews]; simp
  have hget : ∀ t, t < d.size - j → news[t]? = some (idV d[j + t]!) := by
   intro t ht
   rw [hnews, Ys, YI, Yn, getElem!_pos d (j + t) (by omega), Yh (by omega)]
   rfl
  obtain ⟨A, hA, hsrc⟩ : ∃ A : Addr, (if cap = j then some (⟨blk, off, none⟩ : Addr) else some ⟨blk, off + j, none⟩) = some A ∧ Hid (∀ t u, news[t]? = some u → w.drew.cell? (A.add t) = some u) := by
   by_cases h : cap = j
   ·refine ⟨⟨blk, off, none⟩, by simp [h], fun t u hu => ?_⟩
    have h0 : news.length = 0 := by rw [hlen]; omega
    rw [YaT.1 h0] at hu
    simp at hu
   ·refine ⟨⟨blk, off + j, none⟩, by simp [h], fun t u hu => ?_⟩
    have ht : t < d.size - j := by
     have := (Yb.1 hu).1
     rwa [hlen] at this
    rw [hget t ht] at hu
    rw [Addr.add_lit, show off + j + t = off + (j + t) by omega]
    exact (hH (j + t) (by omega)).1.trans hu
  have s1 : Hid (news.length = (d.size - j) * 1) := by rw [Yao]; exact hlen
  have s2 : Hid (∀ u ∈ news, u.oneCell' = true) := by
   intro u hu
   rw [hnews] at hu
   obtain ⟨x, hx, rfl⟩ := Yq.1 hu
   exact h1c x (Ya9 hx)
  have s3 : Hid (∀ t, t < news.length → (w.drew.cell? ⟨blk, off + i * 1 + t, none⟩).isSome = true ∧ w.drew.frozen? ⟨blk, off + i * 1 + t, none⟩ = false) := by
   intro t ht
   rw [hlen] at ht
   rw [Yao, Yw]
   exact ⟨by show (w.cell? _).isSome = true; rw [(hH (i + t) (by omega)).1]; rfl, (hH (i + t) (by omega)).2⟩
  obtain ⟨W1, hW1⟩ : ∃ W1, W1 = w.drew.setCells blk (off + i * 1) news := ⟨_, rfl⟩
  have hW1' : W1 = putRow idV (Sort.ahead w 1) blk off (lay d i (d.toList.drop j)) := by
   rw [hW1, hnews, Yao, ← putRow_setCells idV (Sort.ahead w 1) blk off _ d i (by simp; omega), putRow_self idV (Sort.ahead w 1) blk off d (holds_ahead idV w 1 blk off d hH)]
   rfl
  have hH1 : Holds idV W1 blk off (lay d i (d.toList.drop j)) := by rw [hW1']; exact holds_putRow idV _ blk off d _ (holds_ahead idV w 1 blk off d hH) (lay_size _ _ _)
  have hcl : ∀ ty, (Builtin.clear_ #[28] ty #[.slice (some ⟨blk, off + (i + (d.size - j)), none⟩) (d.size - (i + (d.size - j))) (cap - (i + (d.size - j)))]).run Try.prog W1 = .ok (.tuple #[]) (W1.setCells blk (off + (i + (d.size - j))) (List.replicate (d.size - (i + (d.size - j))) (idV ZtT))) :=
   fun ty => Lib.run_clear_slice W1 _ _ ty _ Try.underlying28 Try.zeroValue31 rfl rfl blk (off + (i + (d.size - j))) _ _ (by omega) (fun t ht => by rw [show off + (i + (d.size - j)) + t = off + (i + (d.size - j) + t) by omega, (hH1 _ (by rw [lay_size]; omega)).1]; rfl) (fun t ht => by rw [show off + (i + (d.size - j)) + t = off + (i + (d.size - j) + t) by omega]; exact (hH1 _ (by rw [lay_size]; omega)).2)
  have X : Aside (W1 = putRow idV (Sort.ahead w 1) blk off (lay d i (d.toList.drop j))) := hW1'
  have hW : Hid (W1 = w.drew.setCells blk (off + i * 1) news) := hW1
  have hic : i ≤ cap := by omega
  have hjc : j ≤ cap := by omega
  clear hW1 hW1' hH1 hH hget hnews hlen h1c
  go_enter Try.func60, Try.ntmps60
  go_wp2_with fail
  go_region_law (refine step_append_room rfl (.tmp 22) (.tmp 25) 28 rfl 31 i0 1 Try.underlying28 hi0 hz1 blk off i cap (by simp [Act.eval, Act.put]) A (d.size - j) (cap - j) news (by simp [Act.eval, Act.put]) s1.out hsrc.out s2.out (by omega) s3.out ?_; rw [← hW.out])
  go_wp2
  go_ret
  refine ⟨by rw [show d.size - (j - i) = i + (d.size - j) by omega]; rfl, 1, ?_⟩
  rw [← delete_arr d i j ZtT hij hj, ← putRow_setCells idV _ blk off _ _ (i + (d.size - j)) (by rw [lay_size]; simp; omega), ← X.out, List.map_replicate, show d.size - (i + (d.size - j)) = j - i by omega]
theorem ZeQ (xs : List (List ByteArray)) : Zaj Zar xs = xs.map fun x => .d (.list (x.map Zam)) := by
 induction xs with
 | nil => rfl
 | cons x l ih => rw [Zbq, ih]; rfl
theorem Zlz {d : Array Value} {i : Nat} (h : i < d.size) : d[i]! = d[i] := getElem!_pos d i h
theorem Zsr {off : Nat} {d C : Array Value} {i : Nat} (hi : i < d.size) (hC : off + i < C.size) : (putCells idV off d C)[off + i]? = some d[i] := by
 unfold putCells
 rw [YbH, Yh hC, YG, if_pos (by omega)]
 rw [show off + i - off = i from by omega, Zlz hi]
 rfl
theorem Zm1 {off : Nat} {d C : Array Value} : (putCells idV off d C).size = C.size := by
 unfold putCells
 rw [Array.size_mapIdx]
theorem Zl9 {ℓ : Nat} {ℋ : Hp} {k : Key} (hk : k.1 ≤ ℓ) {g : Nat} {e : TypeId} (xs : List (List ByteArray)) (i j : Nat) (hij : i < j) (hj : j ≤ xs.length) (hb : xs.length < 4611686018427387904) (hH : ℋ k = ⟨g, true, e, 1, Zaj Zar xs⟩)
  {Post : AV → Hp → Prop} (h : Post (.ref k g 0 (xs.take i ++ xs.drop j).length) (updH ℋ k ⟨g, true, e, 1, Zaj Zar (xs.take i ++ xs.drop j)⟩)) : Za2 Try.prog 60 ℓ [.ref k g 0 xs.length, .d (.int .i64 i), .d (.int .i64 j)] ℋ Post :=
 ⟨⟨_, Zad Try.f60, Try.func60, by kernel_rfl, by kernel_rfl⟩, fun m S w vs hO hA => by
  obtain ⟨hs, hr⟩ := hA
  obtain ⟨vl⟩ := vs
  match vl, hs, hr with
  | [v0, v1, v2], _, hr =>
   have h0 := hr 0 _ v0 rfl rfl
   have h1 := hr 1 _ v1 rfl rfl
   have h2 := hr 2 _ v2 rfl rfl
   cases h1 with
   | d _ _ h1 =>
   cases h1 with
   | int _ _ =>
   cases h2 with
   | d _ _ h2 =>
   cases h2 with
   | int _ _ =>
   have hl : (ℋ k).live = true := by rw [hH]
   have hg : (ℋ k).g = g := by rw [hH]
   cases h0 with
   | refD _ _ _ _ _ _ _ hd _ => rw [hd hg.symm] at hl; cases hl
   | refL _ _ _ a _ _ hcap ha =>
    rw [YbK, Yx] at *
    have hc0 : (m k).cap ≠ 0 := by omega
    obtain ⟨C, c1, c2, c3, c4⟩ := hO.blk k hk hl hc0
    have ha' := ha (by omega)
    rw [Yae, Yad] at ha'
    subst ha'
    rw [hH] at c1 c2 c3 c4
    rw [Yao] at c2 c3
    have hlt : (m k).b < w.heap.size := (Yy.1 c1).1
    obtain ⟨d, hd⟩ : ∃ d, d = C.extract (m k).o ((m k).o + xs.length) := ⟨_, rfl⟩
    have hds : d.size = xs.length := by rw [hd, Array.size_extract]; omega
    have hat : ∀ t (ht : t < d.size), C[(m k).o + t]? = some d[t] := fun t ht => by
     subst hd
     rw [Array.getElem_extract, Yh (by omega)]
    have hHolds : Holds idV w (m k).b (m k).o d := fun t ht => by
     refine ⟨?_, ?_⟩
     ·unfold World.cell?
      simp only [c1]
      rw [Zlz ht]
      exact hat t ht
     ·unfold World.frozen?
      simp only [c1]
      simp
    have hrep : ∀ t (ht : t < d.size) (x : List ByteArray), xs[t]? = some x → d[t].oneCell' = true ∧ RepA w S ℋ m k.1 (.d (.list (x.map Zam))) d[t] := fun t ht x hx =>
     c4 t _ _ (by show (Zaj Zar xs)[t]? = _; rw [ZeQ, Ys, hx]; rfl) (hat t ht)
    have h1c : ∀ v ∈ d.toList, v.oneCell' = true := fun v hv => by
     obtain ⟨t, ht, rfl⟩ := List.mem_iff_getElem.1 hv
     have ht' : t < d.size := by simpa using ht
     exact (hrep t ht' _ (Yc (by omega))).1
    have hcall := ZpX (m k).b (m k).o (m k).cap i j d w h1c hHolds (by omega) (by omega) (by omega) (by omega)
    rw [hds] at hcall
    refine hcall.mono fun e' w' ⟨h1, n, h2⟩ => ?_
    obtain ⟨D, hD⟩ : ∃ D, D = (d.toList.take i ++ d.toList.drop j ++ List.replicate (j - i) ZtT).toArray := ⟨_, rfl⟩
    have hDs : D.size = xs.length := by rw [hD]; simp; omega
    rw [← hD] at h2
    have hlen : (xs.take i ++ xs.drop j).length = xs.length - (j - i) := by simp; omega
    have hDat : ∀ t x, (xs.take i ++ xs.drop j)[t]? = some x → ∃ (u : Nat) (hu : u < d.size) (ht : t < D.size), D[t] = d[u] ∧ xs[u]? = some x := fun t x hx => by
     have htl := (Yb.1 hx).1
     have htD : t < D.size := by omega
     have e1 : D[t]? = (d.toList.take i ++ d.toList.drop j ++ List.replicate (j - i) ZtT)[t]? := by rw [hD]; exact Ya5
     have ld : (d.toList.take i ++ d.toList.drop j).length = xs.length - (j - i) := by simp; omega
     rw [Yi (by omega)] at e1
     rcases Yv t i with hti | hti
     ·rw [Yi (by simp; omega), YN, if_pos hti] at hx
      rw [Yi (by simp; omega), YN, if_pos hti, Yn, Yh htD, Yh (by omega)] at e1
      exact ⟨t, by omega, htD, Option.some.inj e1, hx⟩
     ·have l1 : (xs.take i).length = i := by simp; omega
      have l2 : (d.toList.take i).length = i := by simp; omega
      rw [Yp (by omega), l1, YI] at hx
      rw [Yp (by omega), l2, YI, Yn, Yh htD, Yh (by omega)] at e1
      exact ⟨j + (t - i), by omega, htD, Option.some.inj e1, hx⟩
    obtain ⟨k1, k2⟩ := hO.write k hk hl hc0 (Zaj Zar (xs.take i ++ xs.drop j)) (putCells idV (m k).o D C) (by rw [Zm1, c2, hH, Yao]) (by rw [ZeQ, Yk, hH, Yao]; omega)
     (putRow idV (Sort.ahead w n) (m k).b (m k).o D) (fun b => by rw [hH]; exact ZqI (Sort.ahead w n) (m k).b _ c1 b) (by rw [size_putRow]; rfl) rfl rfl rfl (fun t x v hx hv => by
      rw [ZeQ, Ys] at hx
      cases hq : (xs.take i ++ xs.drop j)[t]? with
      | none => rw [hq] at hx; cases hx
      | some y =>
       rw [hq] at hx
       cases hx
       obtain ⟨u, hu, ht, e1, e2⟩ := hDat t y hq
       rw [Zsr ht (by omega)] at hv
       cases hv
       rw [e1]
       exact hrep u hu y e2)
    rw [hH] at k1 k2
    subst h2
    refine ⟨_, _, _, m, S, h1, h, k1, ?_, k2⟩
    rw [hlen]
    have := RepA.refL (w := putRow idV (Sort.ahead w n) (m k).b (m k).o D) (S := S) (H := updH ℋ k ⟨(ℋ k).g, true, .t e, 1, Zaj Zar (xs.take i ++ xs.drop j)⟩) (m := m) (l := ℓ) k 0 (xs.length - (j - i)) (some ⟨(m k).b, (m k).o, none⟩) hk (by rw [Zaa]) (by omega) (fun _ => by rw [Yae, Yad])
    rw [Zaa] at this
    exact this⟩
def Zeu (p0 : List (List ByteArray)) (p1 p2 : Int) : Option (List (List ByteArray)) := if 0 ≤ p1 ∧ p1 < p2 ∧ p2 ≤ p0.length ∧ p0.length < 4611686018427387904 then some (p0.take p1.toNat ++ p0.drop p2.toNat) else none
abbrev E60 : List (List ByteArray) → AV := fun y => .ref (0, 0) 0 0 y.length
@[reducible] def G60 : List (List ByteArray) → List Blk := fun y => [⟨0, true, 31, 1, Zaj Zar y⟩]
theorem ZzF (p0 : List (List ByteArray)) (p1 p2 : Int) : KO Try.prog 60 1 [.ref (0, 0) 0 0 p0.length, vI p1, vI p2] [⟨0, true, 31, 1, Zaj Zar p0⟩] (fun _ _ _ _ => True) (Zeu p0 p1 p2) E60 G60 := ⟨fun l H ks gs θ hks hlow hnd hH _ y hy => by
 obtain ⟨⟨h0, h1, h2, h3⟩, hy⟩ := Zaw hy
 cases hy
 obtain ⟨i, rfl⟩ := YbB h0
 obtain ⟨j, rfl⟩ := YbB (show 0 ≤ p2 by omega)
 match ks, hks with
 | [k0], _ => exact Zl9 hlow.1 p0 i j (by omega) (by omega) h3 ((hH.1.2 rfl).trans (ZdC (Zan _ _))) ⟨rfl, (congrArg (updH H k0) (ZdC (Zan _ _))).symm⟩⟩
end Go.Proofs.Ythhipejbnbochaa
namespace Go.Eng
set_option linter.all false
open Go Go.RowKit
def gB : Nat → List (List ByteArray) → List (Key × Blk)
 | _, [] => []
 | i, g :: r => ((1, 3000 + i), ⟨0, true, 9, 1, Zaj Zam g⟩) :: gB (i + 1) r
def gC : Nat → List (List ByteArray) → List AV
 | _, [] => []
 | i, g :: r => .ref (1, 3000 + i) 0 0 g.length :: gC (i + 1) r
def gS : List (List ByteArray) → AV
 | [] => .e0
 | g :: r => .ref (1, 43) 0 0 (g :: r).length
def gR : List (List ByteArray) → List (Key × Blk)
 | [] => []
 | g :: r => [((1, 43), ⟨0, true, 31, 1, gC 0 (g :: r)⟩)]
theorem ZmA : ∀ (i : Nat) (l : List (List ByteArray)), (gC i l).length = l.length
 | _, [] => rfl
 | i, g :: r => by rw [gC, Y6, ZmA (i + 1) r, Y6]
theorem Zu0 : ∀ (i : Nat) (l : List (List ByteArray)) (j : Nat) (x : AV), (gC i l)[j]? = some x → ∃ g, l[j]? = some g ∧ x = .ref (1, 3000 + (i + j)) 0 0 g.length
 | _, [], j, x, h => by simp [gC] at h
 | i, g :: r, 0, x, h => by simp [gC] at h; exact ⟨g, rfl, by rw [← h]; rfl⟩
 | i, g :: r, j + 1, x, h => by
  rw [gC, YU] at h
  obtain ⟨g', h1, h2⟩ := Zu0 (i + 1) r j x h
  exact ⟨g', by rw [YU]; exact h1, by rw [h2, show i + 1 + j = i + (j + 1) by omega]⟩
theorem Zqn : ∀ (i : Nat) (l : List (List ByteArray)) (j : Nat) (g : List ByteArray), l[j]? = some g → ((1, 3000 + (i + j)), (⟨0, true, 9, 1, Zaj Zam g⟩ : Blk)) ∈ gB i l
 | _, [], j, g, h => by simp at h
 | i, g :: r, 0, g', h => by simp at h; subst h; exact Yt ..
 | i, g :: r, j + 1, g', h => by
  rw [YU] at h
  have := Zqn (i + 1) r j g' h
  rw [show i + 1 + j = i + (j + 1) by omega] at this
  exact List.mem_cons_of_mem _ this
theorem Zi2 : ∀ M : List (List ByteArray), (M.map Zar).flatten = M.map fun g => .list (g.map Zam)
 | [] => rfl
 | a :: l => by simp [Zar, Zi2 l]
theorem Zrc {H' : Hp} {r : Ren} {l : Nat} (L : List (List ByteArray)) (h : L ≠ [] → H' (r.κ (1, 43)) = ZaL r (1, 43) ⟨0, true, 31, 1, gC 0 L⟩) (hk : ∀ d, (r.κ (1, d)).1 ≤ l)
  (hg : ∀ j g, L[j]? = some g → H' (r.κ (1, 3000 + j)) = ZaL r (1, 3000 + j) ⟨0, true, 9, 1, Zaj Zam g⟩) : Vw H' l (ren r (gS L)) (.list (L.map Zar)) := by
 cases L with
 | nil => exact .e0
 | cons a t =>
  have h := h (by simp)
  generalize e : a :: t = M at *
  have e2 : gS M = .ref (1, 43) 0 0 M.length := by rw [← e]; rfl
  rw [e2]
  unfold ren
  refine .ref _ _ _ _ (hk _) (by rw [h]; rfl) (Yk _) (by rw [h]; rfl) (fun x hx => ?_) (by rw [h]; simp [ZaL]) ?_ fun i x d hx hd => ?_
  ·obtain ⟨g, _, rfl⟩ := Yq.1 hx
   rw [h]; rfl
  ·rw [h]; show (Zak r (gC 0 M)).length = M.length * 1
   rw [Zaz, ZmA, Yao]
  ·rw [h] at hx
   change (Zak r (gC 0 M))[i]? = some x at hx
   rw [ZcE] at hx
   obtain ⟨c, h1, rfl⟩ := YZ.1 hx
   obtain ⟨g, h2, rfl⟩ := Zu0 0 M i c h1
   have h3 : (M.map Zar).flatten = M.map fun g => .list (g.map Zam) := by
    exact Zi2 M
   rw [h3, Ys, h2] at hd
   cases hd
   rw [Yx]
   exact Zn5 (hg i g h2) (hk _) (fun _ => rfl)
section
variable {os : Nat} {β : Type}
@[reducible] def rnw {α : Type} [Rw α] (d d' e i : Nat) (xs : List α) (k : PT os β) : PT os β := ⟨.rnm d d' e i k.a, fun E => Zdm (Zaj Rw.e xs) ∧ k.q E, k.m, k.n, fun E hn y hm hL => ⟨Zfy _ _, k.ok E hn y hm hL⟩⟩
@[reducible] def apG (L : List (List ByteArray)) (x : AV) (kk : Key) (g : Nat) (h : x.onef = true) (k : PT os β) : PT os β :=
 ⟨.nat 1 (.cs [x] (.cs (gC 0 L ++ [x]) (.nat (L.length + 1) k.a))), fun E => ZhK 1 [x] (.ref kk g 0 1) 1 [x] ∧ Ztt (gC 0 L) 0 L.length 1 1 256 [x] (gC 0 L ++ [x]) (L.length + 1) ∧ k.q E, if L.length < 8 then k.m else none, k.n, fun E hn y hm hL => by
  obtain ⟨h8, hm⟩ := Zaw hm
  exact ⟨⟨by simp [h], rfl, Yg _, rfl⟩, ⟨by rw [ZmA]; omega, by simp, rfl, by omega⟩, k.ok E hn y hm hL⟩⟩
def vfl : List (List ByteArray) → PT os β → PT os β
 | [], k => k
 | g :: r, k => vz (fl g) (vfl r k)
def vfz : Nat → List (List ByteArray) → PT os β → PT os β
 | _, [], k => k
 | i, g :: r, k => vw (.frz (3000 + i) [] [((1, 43), i, g.map Zam)]) (vz (fz g) (vfz (i + 1) r k))
theorem Zq7 (l : List (List ByteArray)) (k : PT os β) : (vfl l k).m = k.m := by
 induction l with
 | nil => rfl
 | cons g r ih => exact ih
theorem Zup : ∀ (i : Nat) (l : List (List ByteArray)) (k : PT os β), (vfz i l k).m = k.m
 | _, [], _ => rfl
 | i, g :: r, k => Zup (i + 1) r k
end
end Go.Eng
