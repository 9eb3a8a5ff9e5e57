import Derived.Test.YthhipejbnbochaaProg
import Derived.Test.YthhipejbnbochaaCv10
import Derived.Test.YthhipejbnbochaaCv13
import Derived.WalkKit
import Derived.Shelf.RegionOpenPlain
import Derived.Deep.LoopGhost
import Derived.Deep.RegionLaw
import Derived.Lib.Walk
import Derived.Sort.WalkB12
import Derived.Lib.SliceRun
import Derived.Lib.SlicesDelete
import Derived.Test.YthhipejbnbochaaCv00
namespace Go.Proofs.Ythhipejbnbochaa
open Go Go.Eng
def ti3 : TI := { agg := false, kin := 3, siz := 1, zer := some [.d (.int .i64 0)], ik := some .i64, byt := some 256 }
theorem tk3 : TIok Try.prog 3 ti3 := .of (by kernel_rfl) (by kernel_rfl) (by kernel_rfl) (.inl rfl) (by kernel_rfl) (.inr (by kernel_rfl)) (.inl rfl) (.inl rfl) (.inr (by kernel_rfl)) (.inr ⟨256, by decide +kernel, by decide +kernel, rfl⟩) (.inr rfl)
def ti4 : TI := { agg := false, kin := 1, siz := 1, zer := some [.d (.bool false)], byt := some 256 }
theorem tk4 : TIok Try.prog 4 ti4 := .of (by kernel_rfl) (by kernel_rfl) (by kernel_rfl) (.inl rfl) (by kernel_rfl) (.inr (by kernel_rfl)) (.inl rfl) (.inl rfl) (.inl rfl) (.inr ⟨256, by decide +kernel, by decide +kernel, rfl⟩) (.inr rfl)
def ti5 : TI := { agg := false, kin := 3, siz := 1, zer := some [.d (.int .u8 0)], ik := some .u8, byt := some 256 }
theorem tk5 : TIok Try.prog 5 ti5 := .of (by kernel_rfl) (by kernel_rfl) (by kernel_rfl) (.inl rfl) (by kernel_rfl) (.inr (by kernel_rfl)) (.inl rfl) (.inl rfl) (.inr (by kernel_rfl)) (.inr ⟨256, by decide +kernel, by decide +kernel, rfl⟩) (.inr rfl)
def ti9 : TI := { agg := false, kin := 2, siz := 1, zer := some [.d (.str ⟨#[]⟩)], byt := some 256 }
theorem tk9 : TIok Try.prog 9 ti9 := .of (by kernel_rfl) (by kernel_rfl) (by kernel_rfl) (.inl rfl) (by kernel_rfl) (.inr (by kernel_rfl)) (.inl rfl) (.inl rfl) (.inl rfl) (.inr ⟨256, by decide +kernel, by decide +kernel, rfl⟩) (.inr rfl)
def ZyT : TI := { agg := false, kin := 4, siz := 1, elm := some (42, 5), zer := some [.e0], byt := some 256 }
theorem Zz3 : TIok Try.prog 22 ZyT := .of (by kernel_rfl) (by kernel_rfl) (by kernel_rfl) (.inr (by kernel_rfl)) (by kernel_rfl) (.inr (by kernel_rfl)) (.inl rfl) (.inl rfl) (.inl rfl) (.inr ⟨256, by decide +kernel, by decide +kernel, rfl⟩) (.inr rfl)
def Zyo : TI := { agg := false, kin := 4, siz := 1, elm := some (89, 5), zer := some [.e0], byt := some 256 }
theorem ZzP : TIok Try.prog 23 Zyo := .of (by kernel_rfl) (by kernel_rfl) (by kernel_rfl) (.inr (by kernel_rfl)) (by kernel_rfl) (.inr (by kernel_rfl)) (.inl rfl) (.inl rfl) (.inl rfl) (.inr ⟨256, by decide +kernel, by decide +kernel, rfl⟩) (.inr rfl)
def ZyO : TI := { agg := false, kin := 4, siz := 1, elm := some (149, 3), zer := some [.e0], byt := some 256 }
theorem Zzy : TIok Try.prog 24 ZyO := .of (by kernel_rfl) (by kernel_rfl) (by kernel_rfl) (.inr (by kernel_rfl)) (by kernel_rfl) (.inr (by kernel_rfl)) (.inl rfl) (.inl rfl) (.inl rfl) (.inr ⟨256, by decide +kernel, by decide +kernel, rfl⟩) (.inr rfl)
def Zyi : TI := { agg := true, kin := 0, siz := 3, fld := [(0, 1, false), (1, 1, false), (2, 1, false)], zer := some [.e0, .e0, .e0], str := true, byt := some 256 }
theorem Zzq : TIok Try.prog 26 Zyi := .of (by kernel_rfl) (by kernel_rfl) (by kernel_rfl) (.inl rfl) (by kernel_rfl) (.inr (by kernel_rfl)) (.inl rfl) (.inr (by kernel_rfl)) (.inl rfl) (.inr ⟨256, by decide +kernel, by decide +kernel, rfl⟩) (.inr rfl)
def ZyA : TI := { agg := false, kin := 4, siz := 1, elm := some (31, 1), zer := some [.e0], byt := some 256 }
theorem Zzw : TIok Try.prog 28 ZyA := .of (by kernel_rfl) (by kernel_rfl) (by kernel_rfl) (.inr (by kernel_rfl)) (by kernel_rfl) (.inr (by kernel_rfl)) (.inl rfl) (.inl rfl) (.inl rfl) (.inr ⟨256, by decide +kernel, by decide +kernel, rfl⟩) (.inr rfl)
def Zy3 : TI := { agg := false, kin := 4, siz := 1, elm := some (9, 1), zer := some [.e0], byt := some 256 }
theorem Zzh : TIok Try.prog 31 Zy3 := .of (by kernel_rfl) (by kernel_rfl) (by kernel_rfl) (.inr (by kernel_rfl)) (by kernel_rfl) (.inr (by kernel_rfl)) (.inl rfl) (.inl rfl) (.inl rfl) (.inr ⟨256, by decide +kernel, by decide +kernel, rfl⟩) (.inr rfl)
def Zy4 : TI := { agg := false, kin := 4, siz := 1, elm := some (3, 1), zer := some [.e0], byt := some 256 }
theorem ZzO : TIok Try.prog 33 Zy4 := .of (by kernel_rfl) (by kernel_rfl) (by kernel_rfl) (.inr (by kernel_rfl)) (by kernel_rfl) (.inr (by kernel_rfl)) (.inl rfl) (.inl rfl) (.inl rfl) (.inr ⟨256, by decide +kernel, by decide +kernel, rfl⟩) (.inr rfl)
def ZyL : TI := { agg := false, kin := 3, siz := 1, zer := some [.d (.int .i64 0)], ik := some .i64, byt := some 256 }
theorem Zze : TIok Try.prog 34 ZyL := .of (by kernel_rfl) (by kernel_rfl) (by kernel_rfl) (.inl rfl) (by kernel_rfl) (.inr (by kernel_rfl)) (.inl rfl) (.inl rfl) (.inr (by kernel_rfl)) (.inr ⟨256, by decide +kernel, by decide +kernel, rfl⟩) (.inr rfl)
def Zyw : TI := { agg := false, kin := 4, siz := 1, elm := some (57, 16), zer := some [.e0], byt := some 256 }
theorem Zzc : TIok Try.prog 38 Zyw := .of (by kernel_rfl) (by kernel_rfl) (by kernel_rfl) (.inr (by kernel_rfl)) (by kernel_rfl) (.inr (by kernel_rfl)) (.inl rfl) (.inl rfl) (.inl rfl) (.inr ⟨256, by decide +kernel, by decide +kernel, rfl⟩) (.inr rfl)
def Zyh : TI := { agg := false, kin := 4, siz := 1, elm := some (151, 2), zer := some [.e0], byt := some 256 }
theorem Zzl : TIok Try.prog 39 Zyh := .of (by kernel_rfl) (by kernel_rfl) (by kernel_rfl) (.inr (by kernel_rfl)) (by kernel_rfl) (.inr (by kernel_rfl)) (.inl rfl) (.inl rfl) (.inl rfl) (.inr ⟨256, by decide +kernel, by decide +kernel, rfl⟩) (.inr rfl)
def ZyM : TI := { agg := false, kin := 4, siz := 1, elm := some (153, 8), zer := some [.e0], byt := some 256 }
theorem Zzu : TIok Try.prog 40 ZyM := .of (by kernel_rfl) (by kernel_rfl) (by kernel_rfl) (.inr (by kernel_rfl)) (by kernel_rfl) (.inr (by kernel_rfl)) (.inl rfl) (.inl rfl) (.inl rfl) (.inr ⟨256, by decide +kernel, by decide +kernel, rfl⟩) (.inr rfl)
def Zyf : TI := { agg := true, kin := 0, siz := 5, fld := [(0, 1, false), (1, 1, false), (2, 1, false), (3, 1, false), (4, 1, false)], zer := some [.d (.str ⟨#[]⟩), .e0, .e0, .e0, .e0], str := true, byt := some 256 }
theorem ZzE : TIok Try.prog 42 Zyf := .of (by kernel_rfl) (by kernel_rfl) (by kernel_rfl) (.inl rfl) (by kernel_rfl) (.inr (by kernel_rfl)) (.inl rfl) (.inr (by kernel_rfl)) (.inl rfl) (.inr ⟨256, by decide +kernel, by decide +kernel, rfl⟩) (.inr rfl)
def ZyW : TI := { agg := true, kin := 0, siz := 2, fld := [(0, 1, false), (1, 1, false)], zer := some [.d (.int .i64 0), .d (.str ⟨#[]⟩)], eqt := some [3, 2], str := true, byt := some 256 }
theorem ZzG : TIok Try.prog 48 ZyW := .of (by kernel_rfl) (by kernel_rfl) (by kernel_rfl) (.inl rfl) (by kernel_rfl) (.inr (by kernel_rfl)) (.inr (by kernel_rfl)) (.inr (by kernel_rfl)) (.inl rfl) (.inr ⟨256, by decide +kernel, by decide +kernel, rfl⟩) (.inr rfl)
def ZyC : TI := { agg := false, kin := 3, siz := 1, zer := some [.d (.int .u64 0)], ik := some .u64, byt := some 256 }
theorem Zzm : TIok Try.prog 49 ZyC := .of (by kernel_rfl) (by kernel_rfl) (by kernel_rfl) (.inl rfl) (by kernel_rfl) (.inr (by kernel_rfl)) (.inl rfl) (.inl rfl) (.inr (by kernel_rfl)) (.inr ⟨256, by decide +kernel, by decide +kernel, rfl⟩) (.inr rfl)
def ZyX : TI := { agg := false, kin := 4, siz := 1, elm := some (55, 7), zer := some [.e0], byt := some 256 }
theorem Zz0 : TIok Try.prog 50 ZyX := .of (by kernel_rfl) (by kernel_rfl) (by kernel_rfl) (.inr (by kernel_rfl)) (by kernel_rfl) (.inr (by kernel_rfl)) (.inl rfl) (.inl rfl) (.inl rfl) (.inr ⟨256, by decide +kernel, by decide +kernel, rfl⟩) (.inr rfl)
def Zyp : TI := { agg := false, kin := 4, siz := 1, elm := some (155, 14), zer := some [.e0], byt := some 256 }
theorem ZzX : TIok Try.prog 51 Zyp := .of (by kernel_rfl) (by kernel_rfl) (by kernel_rfl) (.inr (by kernel_rfl)) (by kernel_rfl) (.inr (by kernel_rfl)) (.inl rfl) (.inl rfl) (.inl rfl) (.inr ⟨256, by decide +kernel, by decide +kernel, rfl⟩) (.inr rfl)
def ZyH : TI := { agg := false, kin := 4, siz := 1, elm := some (157, 8), zer := some [.e0], byt := some 256 }
theorem Zz6 : TIok Try.prog 52 ZyH := .of (by kernel_rfl) (by kernel_rfl) (by kernel_rfl) (.inr (by kernel_rfl)) (by kernel_rfl) (.inr (by kernel_rfl)) (.inl rfl) (.inl rfl) (.inl rfl) (.inr ⟨256, by decide +kernel, by decide +kernel, rfl⟩) (.inr rfl)
def ZyG : TI := { agg := false, kin := 4, siz := 1, elm := some (159, 4), zer := some [.e0], byt := some 256 }
theorem ZzY : TIok Try.prog 53 ZyG := .of (by kernel_rfl) (by kernel_rfl) (by kernel_rfl) (.inr (by kernel_rfl)) (by kernel_rfl) (.inr (by kernel_rfl)) (.inl rfl) (.inl rfl) (.inl rfl) (.inr ⟨256, by decide +kernel, by decide +kernel, rfl⟩) (.inr rfl)
def Zyv : TI := { agg := true, kin := 0, siz := 7, fld := [(0, 1, false), (1, 1, false), (2, 1, false), (3, 1, false), (4, 1, false), (5, 1, false), (6, 1, false)], zer := some [.d (.int .i64 0), .d (.int .u64 0), .d (.str ⟨#[]⟩), .e0, .e0, .e0, .e0], str := true, byt := some 256 }
theorem ZzN : TIok Try.prog 55 Zyv := .of (by kernel_rfl) (by kernel_rfl) (by kernel_rfl) (.inl rfl) (by kernel_rfl) (.inr (by kernel_rfl)) (.inl rfl) (.inr (by kernel_rfl)) (.inl rfl) (.inr ⟨256, by decide +kernel, by decide +kernel, rfl⟩) (.inr rfl)
def ZyF : TI := { agg := true, kin := 0, siz := 16, fld := [(0, 1, false), (1, 1, false), (2, 1, false), (3, 1, false), (4, 2, true), (6, 1, false), (7, 1, false), (8, 7, true), (15, 1, false)], zer := some [.d (.int .i64 0), .d (.str ⟨#[]⟩), .d (.int .i64 0), .d (.int .i64 0), .d (.int .i64 0), .d (.str ⟨#[]⟩), .d (.str ⟨#[]⟩), .d (.bool false), .d (.int .i64 0), .d (.int .u64 0), .d (.str ⟨#[]⟩), .e0, .e0, .e0, .e0, .e0], str := true, byt := some 256 }
theorem ZzJ : TIok Try.prog 57 ZyF := .of (by kernel_rfl) (by kernel_rfl) (by kernel_rfl) (.inl rfl) (by kernel_rfl) (.inr (by kernel_rfl)) (.inl rfl) (.inr (by kernel_rfl)) (.inl rfl) (.inr ⟨256, by decide +kernel, by decide +kernel, rfl⟩) (.inr rfl)
def Zy8 : TI := { agg := false, kin := 0, siz := 1, mp := some (true, [.str ⟨#[]⟩, .list [], .list [], .list [], .list []]), zer := some [.p (.map none)] }
theorem Zz2 : TIok Try.prog 66 Zy8 := .of (by kernel_rfl) (by kernel_rfl) (by kernel_rfl) (.inl rfl) (by kernel_rfl) (.inr (by kernel_rfl)) (.inl rfl) (.inl rfl) (.inl rfl) (.inl rfl) (.inr rfl)
def Zzb : TI := { agg := false, kin := 0, siz := 1, mp := some (false, [.bool false]), zer := some [.p (.map none)] }
theorem Zz4 : TIok Try.prog 67 Zzb := .of (by kernel_rfl) (by kernel_rfl) (by kernel_rfl) (.inl rfl) (by kernel_rfl) (.inr (by kernel_rfl)) (.inl rfl) (.inl rfl) (.inl rfl) (.inl rfl) (.inr rfl)
def Zyj : TI := { agg := true, kin := 0, siz := 2, fld := [(0, 1, false), (1, 1, false)], zer := some [.p (.map none), .p (.map none)], str := true, byt := some 256 }
theorem Zzf : TIok Try.prog 69 Zyj := .of (by kernel_rfl) (by kernel_rfl) (by kernel_rfl) (.inl rfl) (by kernel_rfl) (.inr (by kernel_rfl)) (.inl rfl) (.inr (by kernel_rfl)) (.inl rfl) (.inr ⟨256, by decide +kernel, by decide +kernel, rfl⟩) (.inr rfl)
def Zyx : TI := { agg := false, kin := 0, siz := 1, mp := some (false, [.map false []]), zer := some [.p (.map none)] }
theorem ZzZ : TIok Try.prog 71 Zyx := .of (by kernel_rfl) (by kernel_rfl) (by kernel_rfl) (.inl rfl) (by kernel_rfl) (.inr (by kernel_rfl)) (.inl rfl) (.inl rfl) (.inl rfl) (.inl rfl) (.inr rfl)
def Zza : TI := { agg := false, kin := 0, siz := 1, zer := some [.p .nilFunc] }
theorem ZzM : TIok Try.prog 75 Zza := .of (by kernel_rfl) (by kernel_rfl) (by kernel_rfl) (.inl rfl) (by kernel_rfl) (.inr (by kernel_rfl)) (.inl rfl) (.inl rfl) (.inl rfl) (.inl rfl) (.inr rfl)
def Zy6 : TI := { agg := false, kin := 0, siz := 1, mp := some (false, [.list []]), zer := some [.p (.map none)] }
theorem Zzk : TIok Try.prog 81 Zy6 := .of (by kernel_rfl) (by kernel_rfl) (by kernel_rfl) (.inl rfl) (by kernel_rfl) (.inr (by kernel_rfl)) (.inl rfl) (.inl rfl) (.inl rfl) (.inl rfl) (.inr rfl)
def ZyB : TI := { agg := false, kin := 4, siz := 1, elm := some (161, 3), zer := some [.e0], byt := some 256 }
theorem Zzp : TIok Try.prog 87 ZyB := .of (by kernel_rfl) (by kernel_rfl) (by kernel_rfl) (.inr (by kernel_rfl)) (by kernel_rfl) (.inr (by kernel_rfl)) (.inl rfl) (.inl rfl) (.inl rfl) (.inr ⟨256, by decide +kernel, by decide +kernel, rfl⟩) (.inr rfl)
def Zyn : TI := { agg := true, kin := 0, siz := 5, fld := [(0, 1, false), (1, 1, false), (2, 1, false), (3, 1, false), (4, 1, false)], zer := some [.d (.str ⟨#[]⟩), .d (.bool false), .e0, .e0, .e0], str := true, byt := some 256 }
theorem ZzA : TIok Try.prog 89 Zyn := .of (by kernel_rfl) (by kernel_rfl) (by kernel_rfl) (.inl rfl) (by kernel_rfl) (.inr (by kernel_rfl)) (.inl rfl) (.inr (by kernel_rfl)) (.inl rfl) (.inr ⟨256, by decide +kernel, by decide +kernel, rfl⟩) (.inr rfl)
def Zyg : TI := { agg := false, kin := 0, siz := 1, mp := some (false, [.int .i64 0]), zer := some [.p (.map none)] }
theorem Zzv : TIok Try.prog 92 Zyg := .of (by kernel_rfl) (by kernel_rfl) (by kernel_rfl) (.inl rfl) (by kernel_rfl) (.inr (by kernel_rfl)) (.inl rfl) (.inl rfl) (.inl rfl) (.inl rfl) (.inr rfl)
def Zwn : TI := { agg := false, kin := 3, siz := 1, zer := some [.d (.int .u64 0)], ik := some .u64, byt := some 256 }
theorem Zxy : TIok Try.prog 107 Zwn := .of (by kernel_rfl) (by kernel_rfl) (by kernel_rfl) (.inl rfl) (by kernel_rfl) (.inr (by kernel_rfl)) (.inl rfl) (.inl rfl) (.inr (by kernel_rfl)) (.inr ⟨256, by decide +kernel, by decide +kernel, rfl⟩) (.inr rfl)
def Zvi : TI := { agg := false, kin := 3, siz := 1, zer := some [.d (.int .i64 0)], ik := some .i64, byt := some 256 }
theorem ZxE : TIok Try.prog 110 Zvi := .of (by kernel_rfl) (by kernel_rfl) (by kernel_rfl) (.inl rfl) (by kernel_rfl) (.inr (by kernel_rfl)) (.inl rfl) (.inl rfl) (.inr (by kernel_rfl)) (.inr ⟨256, by decide +kernel, by decide +kernel, rfl⟩) (.inr rfl)
def Zwk : TI := { agg := false, kin := 3, siz := 1, zer := some [.d (.int .u32 0)], ik := some .u32, byt := some 256 }
theorem Zxz : TIok Try.prog 119 Zwk := .of (by kernel_rfl) (by kernel_rfl) (by kernel_rfl) (.inl rfl) (by kernel_rfl) (.inr (by kernel_rfl)) (.inl rfl) (.inl rfl) (.inr (by kernel_rfl)) (.inr ⟨256, by decide +kernel, by decide +kernel, rfl⟩) (.inr rfl)
def ZvH : TI := { agg := false, kin := 3, siz := 1, zer := some [.d (.int .u64 0)], ik := some .u64, byt := some 256 }
theorem Zxx : TIok Try.prog 122 ZvH := .of (by kernel_rfl) (by kernel_rfl) (by kernel_rfl) (.inl rfl) (by kernel_rfl) (.inr (by kernel_rfl)) (.inl rfl) (.inl rfl) (.inr (by kernel_rfl)) (.inr ⟨256, by decide +kernel, by decide +kernel, rfl⟩) (.inr rfl)
def Zvy : TI := { agg := false, kin := 0, siz := 1, zer := some [.p (.pointer none)] }
theorem Zx2 : TIok Try.prog 126 Zvy := .of (by kernel_rfl) (by kernel_rfl) (by kernel_rfl) (.inl rfl) (by kernel_rfl) (.inr (by kernel_rfl)) (.inl rfl) (.inl rfl) (.inl rfl) (.inl rfl) (.inr rfl)
def ZvE : TI := { agg := false, kin := 0, siz := 1, zer := some [.p (.pointer none)] }
theorem ZxQ : TIok Try.prog 129 ZvE := .of (by kernel_rfl) (by kernel_rfl) (by kernel_rfl) (.inl rfl) (by kernel_rfl) (.inr (by kernel_rfl)) (.inl rfl) (.inl rfl) (.inl rfl) (.inl rfl) (.inr rfl)
def ZtQ : TI := { agg := false, kin := 4, siz := 1, elm := some (164, 5), zer := some [.e0], byt := some 256 }
theorem Zx1 : TIok Try.prog 147 ZtQ := .of (by kernel_rfl) (by kernel_rfl) (by kernel_rfl) (.inr (by kernel_rfl)) (by kernel_rfl) (.inr (by kernel_rfl)) (.inl rfl) (.inl rfl) (.inl rfl) (.inr ⟨256, by decide +kernel, by decide +kernel, rfl⟩) (.inr rfl)
def Zwp : TI := { agg := true, kin := 0, siz := 3, fld := [(0, 1, false), (1, 1, false), (2, 1, false)], zer := some [.d (.str ⟨#[]⟩), .e0, .e0], str := true, byt := some 256 }
theorem ZxU : TIok Try.prog 149 Zwp := .of (by kernel_rfl) (by kernel_rfl) (by kernel_rfl) (.inl rfl) (by kernel_rfl) (.inr (by kernel_rfl)) (.inl rfl) (.inr (by kernel_rfl)) (.inl rfl) (.inr ⟨256, by decide +kernel, by decide +kernel, rfl⟩) (.inr rfl)
def ZvC : TI := { agg := true, kin := 0, siz := 2, fld := [(0, 1, false), (1, 1, false)], zer := some [.d (.int .i64 0), .d (.int .i64 0)], eqt := some [3, 3], str := true, byt := some 256 }
theorem ZxO : TIok Try.prog 151 ZvC := .of (by kernel_rfl) (by kernel_rfl) (by kernel_rfl) (.inl rfl) (by kernel_rfl) (.inr (by kernel_rfl)) (.inr (by kernel_rfl)) (.inr (by kernel_rfl)) (.inl rfl) (.inr ⟨256, by decide +kernel, by decide +kernel, rfl⟩) (.inr rfl)
def Zv4 : TI := { agg := true, kin := 0, siz := 8, fld := [(0, 1, false), (1, 7, true)], zer := some [.d (.str ⟨#[]⟩), .d (.int .i64 0), .d (.int .u64 0), .d (.str ⟨#[]⟩), .e0, .e0, .e0, .e0], str := true, byt := some 256 }
theorem ZxK : TIok Try.prog 153 Zv4 := .of (by kernel_rfl) (by kernel_rfl) (by kernel_rfl) (.inl rfl) (by kernel_rfl) (.inr (by kernel_rfl)) (.inl rfl) (.inr (by kernel_rfl)) (.inl rfl) (.inr ⟨256, by decide +kernel, by decide +kernel, rfl⟩) (.inr rfl)
def ZtK : TI := { agg := true, kin := 0, siz := 14, fld := [(0, 7, true), (7, 7, true)], zer := some [.d (.int .i64 0), .d (.int .u64 0), .d (.str ⟨#[]⟩), .e0, .e0, .e0, .e0, .d (.int .i64 0), .d (.int .u64 0), .d (.str ⟨#[]⟩), .e0, .e0, .e0, .e0], str := true, byt := some 256 }
theorem Zxs : TIok Try.prog 155 ZtK := .of (by kernel_rfl) (by kernel_rfl) (by kernel_rfl) (.inl rfl) (by kernel_rfl) (.inr (by kernel_rfl)) (.inl rfl) (.inr (by kernel_rfl)) (.inl rfl) (.inr ⟨256, by decide +kernel, by decide +kernel, rfl⟩) (.inr rfl)
def Zvm : TI := { agg := true, kin := 0, siz := 8, fld := [(0, 1, false), (1, 7, true)], zer := some [.d (.int .i64 0), .d (.int .i64 0), .d (.int .u64 0), .d (.str ⟨#[]⟩), .e0, .e0, .e0, .e0], str := true, byt := some 256 }
theorem Zx7 : TIok Try.prog 157 Zvm := .of (by kernel_rfl) (by kernel_rfl) (by kernel_rfl) (.inl rfl) (by kernel_rfl) (.inr (by kernel_rfl)) (.inl rfl) (.inr (by kernel_rfl)) (.inl rfl) (.inr ⟨256, by decide +kernel, by decide +kernel, rfl⟩) (.inr rfl)
def Zul : TI := { agg := true, kin := 0, siz := 4, fld := [(0, 1, false), (1, 1, false), (2, 1, false), (3, 1, false)], zer := some [.d (.int .i64 0), .d (.int .i64 0), .d (.int .u64 0), .d (.str ⟨#[]⟩)], eqt := some [3, 3, 3, 2], str := true, byt := some 256 }
theorem ZxL : TIok Try.prog 159 Zul := .of (by kernel_rfl) (by kernel_rfl) (by kernel_rfl) (.inl rfl) (by kernel_rfl) (.inr (by kernel_rfl)) (.inr (by kernel_rfl)) (.inr (by kernel_rfl)) (.inl rfl) (.inr ⟨256, by decide +kernel, by decide +kernel, rfl⟩) (.inr rfl)
def ZtR : TI := { agg := true, kin := 0, siz := 3, fld := [(0, 1, false), (1, 1, false), (2, 1, false)], zer := some [.d (.str ⟨#[]⟩), .d (.int .i64 0), .e0], str := true, byt := some 256 }
theorem ZxC : TIok Try.prog 161 ZtR := .of (by kernel_rfl) (by kernel_rfl) (by kernel_rfl) (.inl rfl) (by kernel_rfl) (.inr (by kernel_rfl)) (.inl rfl) (.inr (by kernel_rfl)) (.inl rfl) (.inr ⟨256, by decide +kernel, by decide +kernel, rfl⟩) (.inr rfl)
def ZuT : TI := { agg := true, kin := 0, siz := 5, fld := [(0, 1, false), (1, 1, false), (2, 1, false), (3, 1, false), (4, 1, false)], zer := some [.d (.str ⟨#[]⟩), .d (.str ⟨#[]⟩), .d (.str ⟨#[]⟩), .d (.int .i64 0), .e0], str := true, byt := some 256 }
theorem ZxH : TIok Try.prog 164 ZuT := .of (by kernel_rfl) (by kernel_rfl) (by kernel_rfl) (.inl rfl) (by kernel_rfl) (.inr (by kernel_rfl)) (.inl rfl) (.inr (by kernel_rfl)) (.inl rfl) (.inr ⟨256, by decide +kernel, by decide +kernel, rfl⟩) (.inr rfl)
def tl : List (Nat × TI) := [(3, ti3), (4, ti4), (5, ti5), (9, ti9), (22, ZyT), (23, Zyo), (24, ZyO), (26, Zyi), (28, ZyA), (31, Zy3), (33, Zy4), (34, ZyL), (38, Zyw), (39, Zyh), (40, ZyM), (42, Zyf), (48, ZyW), (49, ZyC), (50, ZyX), (51, Zyp), (52, ZyH), (53, ZyG), (55, Zyv), (57, ZyF), (66, Zy8), (67, Zzb), (69, Zyj), (71, Zyx), (75, Zza), (81, Zy6), (87, ZyB), (89, Zyn), (92, Zyg), (107, Zwn), (110, Zvi), (119, Zwk), (122, ZvH), (126, Zvy), (129, ZvE), (147, ZtQ), (149, Zwp), (151, ZvC), (153, Zv4), (155, ZtK), (157, Zvm), (159, Zul), (161, ZtR), (164, ZuT)]
theorem tok : TOk Try.prog (lkT tl) := Zqp tl (by
 intro p hp
 simp only [tl, Yn, List.not_mem_nil, or_false] at hp
 rcases hp with rfl | rfl | rfl | rfl | rfl | rfl | rfl | rfl | rfl | rfl | rfl | rfl | rfl | rfl | rfl | rfl | rfl | rfl | rfl | rfl | rfl | rfl | rfl | rfl | rfl | rfl | rfl | rfl | rfl | rfl | rfl | rfl | rfl | rfl | rfl | rfl | rfl | rfl | rfl | rfl | rfl | rfl | rfl | rfl | rfl | rfl | rfl | rfl
 ·exact tk3
 ·exact tk4
 ·exact tk5
 ·exact tk9
 ·exact Zz3
 ·exact ZzP
 ·exact Zzy
 ·exact Zzq
 ·exact Zzw
 ·exact Zzh
 ·exact ZzO
 ·exact Zze
 ·exact Zzc
 ·exact Zzl
 ·exact Zzu
 ·exact ZzE
 ·exact ZzG
 ·exact Zzm
 ·exact Zz0
 ·exact ZzX
 ·exact Zz6
 ·exact ZzY
 ·exact ZzN
 ·exact ZzJ
 ·exact Zz2
 ·exact Zz4
 ·exact Zzf
 ·exact ZzZ
 ·exact ZzM
 ·exact Zzk
 ·exact Zzp
 ·exact ZzA
 ·exact Zzv
 ·exact Zxy
 ·exact ZxE
 ·exact Zxz
 ·exact Zxx
 ·exact Zx2
 ·exact ZxQ
 ·exact Zx1
 ·exact ZxU
 ·exact ZxO
 ·exact ZxK
 ·exact Zxs
 ·exact Zx7
 ·exact ZxL
 ·exact ZxC
 ·exact ZxH)
theorem tmo : Try.prog.follows .mixedOrders = true := by kernel_rfl
end Go.Proofs.Ythhipejbnbochaa
namespace Go.Proofs.Ythhipejbnbochaa
set_option linter.all false
open Go Go.RowKit Go.Lib Go.Sort Go.Eng
def ZsF : Value := .slice none 0 0
def idV (v : Value) : Value := v
theorem ZvZ : (Try.prog.info? 31).map (fun i => (i.zero, i.size, i.bytes)) = some (some ZsF, 1, 24) := by kernel_rfl
set_option maxHeartbeats 4000000 in
set_option maxRecDepth 1000000 in
theorem ZnF (blk off cap i j : Nat) (d : Array Value) (w : World) (h1c : ∀ v ∈ d.toList, v.oneCell' = true) (hH : Holds idV w blk off d) (hcap : d.size ≤ cap) (hm : d.size ≤ 9223372036854775807) (hij : i ≤ j) (hj : j ≤ d.size) :
  Calls Try.prog 60 #[.slice (some ⟨blk, off, none⟩) d.size cap, .int .i64 i, .int .i64 j] w fun e w' => e = .returned (.slice (some ⟨blk, off, none⟩) (d.size - (j - i)) cap) ∧ ∃ q, w' = putRow idV (Sort.ahead w q) blk off (d.toList.take i ++ d.toList.drop j ++ List.replicate (j - i) ZsF).toArray := by
 obtain ⟨i0, hi0, hz0, hz1, hz2⟩ := info_parts ZvZ
 by_cases heq : i = j
 ·subst heq
  have h0 : Calls Try.prog 60 #[.slice (some ⟨blk, off, none⟩) d.size cap, .int .i64 i, .int .i64 i] w fun e w' => e = .returned (.slice (some ⟨blk, off, none⟩) d.size cap) ∧ w' = w := by
   clear hH
   go_enter Try.func60, Try.ntmps60
   go_wp2
   all_goals (go_ret; exact ⟨rfl, rfl⟩)
  refine h0.mono ?_
  rintro e w' ⟨rfl, rfl⟩
  have e : (d.toList.take i ++ d.toList.drop i ++ List.replicate (i - i) ZsF).toArray = d := by simp
  refine ⟨by rw [YbC, Ybp], 0, ?_⟩
  rw [e]
  exact (putRow_self idV (Sort.ahead w' 0) blk off d hH).symm
 ·have hlt : i < j := by omega
  obtain ⟨news, hnews⟩ : ∃ news, news = (d.toList.drop j).map idV := ⟨_, rfl⟩
  have hlen : news.length = d.size - j := by rw [hnews]; simp
  have hget : ∀ t, t < d.size - j → news[t]? = some (idV d[j + t]!) := by
   intro t ht
   rw [hnews, Yt, YG, Ym, getElem!_pos d (j + t) (by omega), Yh (by omega)]
   rfl
  obtain ⟨A, hA, hsrc⟩ : ∃ A : Addr, (if cap = j then some (⟨blk, off, none⟩ : Addr) else some ⟨blk, off + j, none⟩) = some A ∧ Hid (∀ t u, news[t]? = some u → w.drew.cell? (A.add t) = some u) := by
   by_cases h : cap = j
   ·refine ⟨⟨blk, off, none⟩, by simp [h], fun t u hu => ?_⟩
    have h0 : news.length = 0 := by rw [hlen]; omega
    rw [YaM.1 h0] at hu
    simp at hu
   ·refine ⟨⟨blk, off + j, none⟩, by simp [h], fun t u hu => ?_⟩
    have ht : t < d.size - j := by
     have := (Yd.1 hu).1
     rwa [hlen] at this
    rw [hget t ht] at hu
    rw [Addr.add_lit, show off + j + t = off + (j + t) by omega]
    exact (hH (j + t) (by omega)).1.trans hu
  have s1 : Hid (news.length = (d.size - j) * 1) := by rw [Yaw]; exact hlen
  have s2 : Hid (∀ u ∈ news, u.oneCell' = true) := by
   intro u hu
   rw [hnews] at hu
   obtain ⟨x, hx, rfl⟩ := Yq.1 hu
   exact h1c x (YaZ hx)
  have s3 : Hid (∀ t, t < news.length → (w.drew.cell? ⟨blk, off + i * 1 + t, none⟩).isSome = true ∧ w.drew.frozen? ⟨blk, off + i * 1 + t, none⟩ = false) := by
   intro t ht
   rw [hlen] at ht
   rw [Yaw, Yw]
   exact ⟨by show (w.cell? _).isSome = true; rw [(hH (i + t) (by omega)).1]; rfl, (hH (i + t) (by omega)).2⟩
  obtain ⟨W1, hW1⟩ : ∃ W1, W1 = w.drew.setCells blk (off + i * 1) news := ⟨_, rfl⟩
  have hW1' : W1 = putRow idV (Sort.ahead w 1) blk off (lay d i (d.toList.drop j)) := by
   rw [hW1, hnews, Yaw, ← putRow_setCells idV (Sort.ahead w 1) blk off _ d i (by simp; omega), putRow_self idV (Sort.ahead w 1) blk off d (holds_ahead idV w 1 blk off d hH)]
   rfl
  have hH1 : Holds idV W1 blk off (lay d i (d.toList.drop j)) := by rw [hW1']; exact holds_putRow idV _ blk off d _ (holds_ahead idV w 1 blk off d hH) (lay_size _ _ _)
  have hcl : ∀ ty, (Builtin.clear_ #[28] ty #[.slice (some ⟨blk, off + (i + (d.size - j)), none⟩) (d.size - (i + (d.size - j))) (cap - (i + (d.size - j)))]).run Try.prog W1 = .ok (.tuple #[]) (W1.setCells blk (off + (i + (d.size - j))) (List.replicate (d.size - (i + (d.size - j))) (idV ZsF))) :=
   fun ty => Lib.run_clear_slice W1 _ _ ty _ Try.underlying28 Try.zeroValue31 rfl rfl blk (off + (i + (d.size - j))) _ _ (by omega) (fun t ht => by rw [show off + (i + (d.size - j)) + t = off + (i + (d.size - j) + t) by omega, (hH1 _ (by rw [lay_size]; omega)).1]; rfl) (fun t ht => by rw [show off + (i + (d.size - j)) + t = off + (i + (d.size - j) + t) by omega]; exact (hH1 _ (by rw [lay_size]; omega)).2)
  have X : Aside (W1 = putRow idV (Sort.ahead w 1) blk off (lay d i (d.toList.drop j))) := hW1'
  have hW : Hid (W1 = w.drew.setCells blk (off + i * 1) news) := hW1
  have hic : i ≤ cap := by omega
  have hjc : j ≤ cap := by omega
  clear hW1 hW1' hH1 hH hget hnews hlen h1c
  go_enter Try.func60, Try.ntmps60
  go_wp2_with fail
  go_region_law (refine step_append_room rfl (.tmp 22) (.tmp 25) 28 rfl 31 i0 1 Try.underlying28 hi0 hz1 blk off i cap (by simp [Act.eval, Act.put]) A (d.size - j) (cap - j) news (by simp [Act.eval, Act.put]) s1.out hsrc.out s2.out (by omega) s3.out ?_; rw [← hW.out])
  go_wp2
  go_ret
  refine ⟨by rw [show d.size - (j - i) = i + (d.size - j) by omega]; rfl, 1, ?_⟩
  rw [← delete_arr d i j ZsF hij hj, ← putRow_setCells idV _ blk off _ _ (i + (d.size - j)) (by rw [lay_size]; simp; omega), ← X.out, List.map_replicate, show d.size - (i + (d.size - j)) = j - i by omega]
theorem Ze3 (xs : List (List ByteArray)) : Zah Zaw xs = xs.map fun x => .d (.list (x.map Zad)) := by
 induction xs with
 | nil => rfl
 | cons x l ih => rw [ZbG, ih]; rfl
theorem Zl5 {d : Array Value} {i : Nat} (h : i < d.size) : d[i]! = d[i] := getElem!_pos d i h
theorem Zr7 {off : Nat} {d C : Array Value} {i : Nat} (hi : i < d.size) (hC : off + i < C.size) : (putCells idV off d C)[off + i]? = some d[i] := by
 unfold putCells
 rw [Ybz, Yh hC, YE, if_pos (by omega)]
 rw [show off + i - off = i from by omega, Zl5 hi]
 rfl
theorem ZkX {off : Nat} {d C : Array Value} : (putCells idV off d C).size = C.size := by
 unfold putCells
 rw [Array.size_mapIdx]
theorem Zmx {ℓ : Nat} {ℋ : Hp} {k : Key} (hk : k.1 ≤ ℓ) {g : Nat} {e : TypeId} (xs : List (List ByteArray)) (i j : Nat) (hij : i < j) (hj : j ≤ xs.length) (hb : xs.length < 4611686018427387904) (hH : ℋ k = ⟨g, true, e, 1, Zah Zaw xs⟩)
  {Post : AV → Hp → Prop} (h : Post (.ref k g 0 (xs.take i ++ xs.drop j).length) (updH ℋ k ⟨g, true, e, 1, Zah Zaw (xs.take i ++ xs.drop j)⟩)) : ZaP Try.prog 60 ℓ [.ref k g 0 xs.length, .d (.int .i64 i), .d (.int .i64 j)] ℋ Post :=
 ⟨⟨_, Zal Try.f60, Try.func60, by kernel_rfl, by kernel_rfl⟩, fun m S w vs hO hA => by
  obtain ⟨hs, hr⟩ := hA
  obtain ⟨vl⟩ := vs
  match vl, hs, hr with
  | [v0, v1, v2], _, hr =>
   have h0 := hr 0 _ v0 rfl rfl
   have h1 := hr 1 _ v1 rfl rfl
   have h2 := hr 2 _ v2 rfl rfl
   cases h1 with
   | d _ _ h1 =>
   cases h1 with
   | int _ _ =>
   cases h2 with
   | d _ _ h2 =>
   cases h2 with
   | int _ _ =>
   have hl : (ℋ k).live = true := by rw [hH]
   have hg : (ℋ k).g = g := by rw [hH]
   cases h0 with
   | refD _ _ _ _ _ _ _ hd _ => rw [hd hg.symm] at hl; cases hl
   | refL _ _ _ a _ _ hcap ha =>
    rw [Ybp, Yy] at *
    have hc0 : (m k).cap ≠ 0 := by omega
    obtain ⟨C, c1, c2, c3, c4⟩ := hO.blk k hk hl hc0
    have ha' := ha (by omega)
    rw [Yae, Yad] at ha'
    subst ha'
    rw [hH] at c1 c2 c3 c4
    rw [Yaw] at c2 c3
    have hlt : (m k).b < w.heap.size := (Yv.1 c1).1
    obtain ⟨d, hd⟩ : ∃ d, d = C.extract (m k).o ((m k).o + xs.length) := ⟨_, rfl⟩
    have hds : d.size = xs.length := by rw [hd, Array.size_extract]; omega
    have hat : ∀ t (ht : t < d.size), C[(m k).o + t]? = some d[t] := fun t ht => by
     subst hd
     rw [Array.getElem_extract, Yh (by omega)]
    have hHolds : Holds idV w (m k).b (m k).o d := fun t ht => by
     refine ⟨?_, ?_⟩
     ·unfold World.cell?
      simp only [c1]
      rw [Zl5 ht]
      exact hat t ht
     ·unfold World.frozen?
      simp only [c1]
      simp
    have hrep : ∀ t (ht : t < d.size) (x : List ByteArray), xs[t]? = some x → d[t].oneCell' = true ∧ RepA w S ℋ m k.1 (.d (.list (x.map Zad))) d[t] := fun t ht x hx =>
     c4 t _ _ (by show (Zah Zaw xs)[t]? = _; rw [Ze3, Yt, hx]; rfl) (hat t ht)
    have h1c : ∀ v ∈ d.toList, v.oneCell' = true := fun v hv => by
     obtain ⟨t, ht, rfl⟩ := Ya6.1 hv
     have ht' : t < d.size := by simpa using ht
     exact (hrep t ht' _ (Yb (by omega))).1
    have hcall := ZnF (m k).b (m k).o (m k).cap i j d w h1c hHolds (by omega) (by omega) (by omega) (by omega)
    rw [hds] at hcall
    refine hcall.mono fun e' w' ⟨h1, n, h2⟩ => ?_
    obtain ⟨D, hD⟩ : ∃ D, D = (d.toList.take i ++ d.toList.drop j ++ List.replicate (j - i) ZsF).toArray := ⟨_, rfl⟩
    have hDs : D.size = xs.length := by rw [hD]; simp; omega
    rw [← hD] at h2
    have hlen : (xs.take i ++ xs.drop j).length = xs.length - (j - i) := by simp; omega
    have hDat : ∀ t x, (xs.take i ++ xs.drop j)[t]? = some x → ∃ (u : Nat) (hu : u < d.size) (ht : t < D.size), D[t] = d[u] ∧ xs[u]? = some x := fun t x hx => by
     have htl := (Yd.1 hx).1
     have htD : t < D.size := by omega
     have e1 : D[t]? = (d.toList.take i ++ d.toList.drop j ++ List.replicate (j - i) ZsF)[t]? := by rw [hD]; exact YaW
     have ld : (d.toList.take i ++ d.toList.drop j).length = xs.length - (j - i) := by simp; omega
     rw [Yi (by omega)] at e1
     rcases Yr t i with hti | hti
     ·rw [Yi (by simp; omega), YL, if_pos hti] at hx
      rw [Yi (by simp; omega), YL, if_pos hti, Ym, Yh htD, Yh (by omega)] at e1
      exact ⟨t, by omega, htD, Option.some.inj e1, hx⟩
     ·have l1 : (xs.take i).length = i := by simp; omega
      have l2 : (d.toList.take i).length = i := by simp; omega
      rw [Yo (by omega), l1, YG] at hx
      rw [Yo (by omega), l2, YG, Ym, Yh htD, Yh (by omega)] at e1
      exact ⟨j + (t - i), by omega, htD, Option.some.inj e1, hx⟩
    obtain ⟨k1, k2⟩ := hO.write k hk hl hc0 (Zah Zaw (xs.take i ++ xs.drop j)) (putCells idV (m k).o D C) (by rw [ZkX, c2, hH, Yaw]) (by rw [Ze3, Yj, hH, Yaw]; omega)
     (putRow idV (Sort.ahead w n) (m k).b (m k).o D) (fun b => by rw [hH]; exact Zpz (Sort.ahead w n) (m k).b _ c1 b) (by rw [size_putRow]; rfl) rfl rfl rfl (fun t x v hx hv => by
      rw [Ze3, Yt] at hx
      cases hq : (xs.take i ++ xs.drop j)[t]? with
      | none => rw [hq] at hx; cases hx
      | some y =>
       rw [hq] at hx
       cases hx
       obtain ⟨u, hu, ht, e1, e2⟩ := hDat t y hq
       rw [Zr7 ht (by omega)] at hv
       cases hv
       rw [e1]
       exact hrep u hu y e2)
    rw [hH] at k1 k2
    subst h2
    refine ⟨_, _, _, m, S, h1, h, k1, ?_, k2⟩
    rw [hlen]
    have := RepA.refL (w := putRow idV (Sort.ahead w n) (m k).b (m k).o D) (S := S) (H := updH ℋ k ⟨(ℋ k).g, true, .t e, 1, Zah Zaw (xs.take i ++ xs.drop j)⟩) (m := m) (l := ℓ) k 0 (xs.length - (j - i)) (some ⟨(m k).b, (m k).o, none⟩) hk (by rw [Zaa]) (by omega) (fun _ => by rw [Yae, Yad])
    rw [Zaa] at this
    exact this⟩
def Zjl (p0 : List (List ByteArray)) (p1 p2 : Int) : Option (List (List ByteArray)) := if 0 ≤ p1 ∧ p1 < p2 ∧ p2 ≤ p0.length ∧ p0.length < 4611686018427387904 then some (p0.take p1.toNat ++ p0.drop p2.toNat) else none
abbrev E60 : List (List ByteArray) → AV := fun y => .ref (0, 0) 0 0 y.length
@[reducible] def G60 : List (List ByteArray) → List Blk := fun y => [⟨0, true, 31, 1, Zah Zaw y⟩]
theorem ZzK (p0 : List (List ByteArray)) (p1 p2 : Int) : KO Try.prog 60 1 [.ref (0, 0) 0 0 p0.length, vI p1, vI p2] [⟨0, true, 31, 1, Zah Zaw p0⟩] (fun _ _ _ _ => True) (Zjl p0 p1 p2) E60 G60 := ⟨fun l H ks gs θ hks hlow hnd hH _ y hy => by
 obtain ⟨⟨h0, h1, h2, h3⟩, hy⟩ := Zay hy
 cases hy
 obtain ⟨i, rfl⟩ := Ybv h0
 obtain ⟨j, rfl⟩ := Ybv (show 0 ≤ p2 by omega)
 match ks, hks with
 | [k0], _ => exact Zmx hlow.1 p0 i j (by omega) (by omega) h3 ((hH.1.2 rfl).trans (Zcl (Zag _ _))) ⟨rfl, (congrArg (updH H k0) (Zcl (Zag _ _))).symm⟩⟩
end Go.Proofs.Ythhipejbnbochaa
