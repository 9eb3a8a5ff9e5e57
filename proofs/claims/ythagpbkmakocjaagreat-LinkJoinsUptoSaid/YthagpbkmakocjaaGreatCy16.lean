import Derived.Test.YthagpbkmakocjaaGreatProg
import Derived.Test.YthagpbkmakocjaaGreatCy10
namespace Go.Proofs.YthagpbkmakocjaaGreat
open Go Go.Eng
def ti3 : TI := { agg := false, kin := 3, siz := 1, zer := some [.d (.int .i64 0)], ik := some .i64, byt := some 256 }
theorem tk3 : TIok Tryz.prog 3 ti3 := .of (by kernel_rfl) (by kernel_rfl) (by kernel_rfl) (.inl rfl) (by kernel_rfl) (.inr (by kernel_rfl)) (.inl rfl) (.inl rfl) (.inr (by kernel_rfl)) (.inr ⟨256, by decide +kernel, by decide +kernel, rfl⟩) (.inr rfl)
def ti4 : TI := { agg := false, kin := 1, siz := 1, zer := some [.d (.bool false)], byt := some 256 }
theorem tk4 : TIok Tryz.prog 4 ti4 := .of (by kernel_rfl) (by kernel_rfl) (by kernel_rfl) (.inl rfl) (by kernel_rfl) (.inr (by kernel_rfl)) (.inl rfl) (.inl rfl) (.inl rfl) (.inr ⟨256, by decide +kernel, by decide +kernel, rfl⟩) (.inr rfl)
def ti5 : TI := { agg := false, kin := 3, siz := 1, zer := some [.d (.int .u8 0)], ik := some .u8, byt := some 256 }
theorem tk5 : TIok Tryz.prog 5 ti5 := .of (by kernel_rfl) (by kernel_rfl) (by kernel_rfl) (.inl rfl) (by kernel_rfl) (.inr (by kernel_rfl)) (.inl rfl) (.inl rfl) (.inr (by kernel_rfl)) (.inr ⟨256, by decide +kernel, by decide +kernel, rfl⟩) (.inr rfl)
def ti9 : TI := { agg := false, kin := 2, siz := 1, zer := some [.d (.str ⟨#[]⟩)], byt := some 256 }
theorem tk9 : TIok Tryz.prog 9 ti9 := .of (by kernel_rfl) (by kernel_rfl) (by kernel_rfl) (.inl rfl) (by kernel_rfl) (.inr (by kernel_rfl)) (.inl rfl) (.inl rfl) (.inl rfl) (.inr ⟨256, by decide +kernel, by decide +kernel, rfl⟩) (.inr rfl)
def ZLI : TI := { agg := false, kin := 4, siz := 1, elm := some (48, 5), zer := some [.e0], byt := some 256 }
theorem ZNo : TIok Tryz.prog 22 ZLI := .of (by kernel_rfl) (by kernel_rfl) (by kernel_rfl) (.inr (by kernel_rfl)) (by kernel_rfl) (.inr (by kernel_rfl)) (.inl rfl) (.inl rfl) (.inl rfl) (.inr ⟨256, by decide +kernel, by decide +kernel, rfl⟩) (.inr rfl)
def ZLB : TI := { agg := false, kin := 4, siz := 1, elm := some (55, 5), zer := some [.e0], byt := some 256 }
theorem ZNM : TIok Tryz.prog 23 ZLB := .of (by kernel_rfl) (by kernel_rfl) (by kernel_rfl) (.inr (by kernel_rfl)) (by kernel_rfl) (.inr (by kernel_rfl)) (.inl rfl) (.inl rfl) (.inl rfl) (.inr ⟨256, by decide +kernel, by decide +kernel, rfl⟩) (.inr rfl)
def ZLb : TI := { agg := false, kin := 4, siz := 1, elm := some (62, 3), zer := some [.e0], byt := some 256 }
theorem ZMI : TIok Tryz.prog 24 ZLb := .of (by kernel_rfl) (by kernel_rfl) (by kernel_rfl) (.inr (by kernel_rfl)) (by kernel_rfl) (.inr (by kernel_rfl)) (.inl rfl) (.inl rfl) (.inl rfl) (.inr ⟨256, by decide +kernel, by decide +kernel, rfl⟩) (.inr rfl)
def ZLV : TI := { agg := true, kin := 0, siz := 3, fld := [(0, 1, false), (1, 1, false), (2, 1, false)], zer := some [.e0, .e0, .e0], str := true, byt := some 256 }
theorem ZN8 : TIok Tryz.prog 26 ZLV := .of (by kernel_rfl) (by kernel_rfl) (by kernel_rfl) (.inl rfl) (by kernel_rfl) (.inr (by kernel_rfl)) (.inl rfl) (.inr (by kernel_rfl)) (.inl rfl) (.inr ⟨256, by decide +kernel, by decide +kernel, rfl⟩) (.inr rfl)
def ZK9 : TI := { agg := false, kin := 3, siz := 1, zer := some [.d (.int .i64 0)], ik := some .i64, byt := some 256 }
theorem ZM1 : TIok Tryz.prog 27 ZK9 := .of (by kernel_rfl) (by kernel_rfl) (by kernel_rfl) (.inl rfl) (by kernel_rfl) (.inr (by kernel_rfl)) (.inl rfl) (.inl rfl) (.inr (by kernel_rfl)) (.inr ⟨256, by decide +kernel, by decide +kernel, rfl⟩) (.inr rfl)
def ZMj : TI := { agg := false, kin := 4, siz := 1, elm := some (86, 6), zer := some [.e0], byt := some 256 }
theorem ZOb : TIok Tryz.prog 32 ZMj := .of (by kernel_rfl) (by kernel_rfl) (by kernel_rfl) (.inr (by kernel_rfl)) (by kernel_rfl) (.inr (by kernel_rfl)) (.inl rfl) (.inl rfl) (.inl rfl) (.inr ⟨256, by decide +kernel, by decide +kernel, rfl⟩) (.inr rfl)
def ZLP : TI := { agg := false, kin := 4, siz := 1, elm := some (5, 1), zer := some [.e0], byt := some 256 }
theorem ZMJ : TIok Tryz.prog 33 ZLP := .of (by kernel_rfl) (by kernel_rfl) (by kernel_rfl) (.inr (by kernel_rfl)) (by kernel_rfl) (.inr (by kernel_rfl)) (.inl rfl) (.inl rfl) (.inl rfl) (.inr ⟨256, by decide +kernel, by decide +kernel, rfl⟩) (.inr rfl)
def ZMs : TI := { agg := false, kin := 4, siz := 1, elm := some (9, 1), zer := some [.e0], byt := some 256 }
theorem ZNE : TIok Tryz.prog 36 ZMs := .of (by kernel_rfl) (by kernel_rfl) (by kernel_rfl) (.inr (by kernel_rfl)) (by kernel_rfl) (.inr (by kernel_rfl)) (.inl rfl) (.inl rfl) (.inl rfl) (.inr ⟨256, by decide +kernel, by decide +kernel, rfl⟩) (.inr rfl)
def ZLL : TI := { agg := false, kin := 0, siz := 1, mp := some (false, [.bool false]), zer := some [.p (.map none)] }
theorem ZNz : TIok Tryz.prog 40 ZLL := .of (by kernel_rfl) (by kernel_rfl) (by kernel_rfl) (.inl rfl) (by kernel_rfl) (.inr (by kernel_rfl)) (.inl rfl) (.inl rfl) (.inl rfl) (.inl rfl) (.inr rfl)
def ZLo : TI := { agg := false, kin := 4, siz := 1, elm := some (84, 16), zer := some [.e0], byt := some 256 }
theorem ZMZ : TIok Tryz.prog 44 ZLo := .of (by kernel_rfl) (by kernel_rfl) (by kernel_rfl) (.inr (by kernel_rfl)) (by kernel_rfl) (.inr (by kernel_rfl)) (.inl rfl) (.inl rfl) (.inl rfl) (.inr ⟨256, by decide +kernel, by decide +kernel, rfl⟩) (.inr rfl)
def ZLk : TI := { agg := false, kin := 4, siz := 1, elm := some (116, 2), zer := some [.e0], byt := some 256 }
theorem ZNh : TIok Tryz.prog 45 ZLk := .of (by kernel_rfl) (by kernel_rfl) (by kernel_rfl) (.inr (by kernel_rfl)) (by kernel_rfl) (.inr (by kernel_rfl)) (.inl rfl) (.inl rfl) (.inl rfl) (.inr ⟨256, by decide +kernel, by decide +kernel, rfl⟩) (.inr rfl)
def ZL8 : TI := { agg := false, kin := 4, siz := 1, elm := some (159, 8), zer := some [.e0], byt := some 256 }
theorem ZNl : TIok Tryz.prog 46 ZL8 := .of (by kernel_rfl) (by kernel_rfl) (by kernel_rfl) (.inr (by kernel_rfl)) (by kernel_rfl) (.inr (by kernel_rfl)) (.inl rfl) (.inl rfl) (.inl rfl) (.inr ⟨256, by decide +kernel, by decide +kernel, rfl⟩) (.inr rfl)
def ZLM : TI := { agg := true, kin := 0, siz := 5, fld := [(0, 1, false), (1, 1, false), (2, 1, false), (3, 1, false), (4, 1, false)], zer := some [.d (.str ⟨#[]⟩), .e0, .e0, .e0, .e0], str := true, byt := some 256 }
theorem ZNW : TIok Tryz.prog 48 ZLM := .of (by kernel_rfl) (by kernel_rfl) (by kernel_rfl) (.inl rfl) (by kernel_rfl) (.inr (by kernel_rfl)) (.inl rfl) (.inr (by kernel_rfl)) (.inl rfl) (.inr ⟨256, by decide +kernel, by decide +kernel, rfl⟩) (.inr rfl)
def ZLd : TI := { agg := false, kin := 0, siz := 1, zer := some [.p .nilFunc] }
theorem ZNu : TIok Tryz.prog 49 ZLd := .of (by kernel_rfl) (by kernel_rfl) (by kernel_rfl) (.inl rfl) (by kernel_rfl) (.inr (by kernel_rfl)) (.inl rfl) (.inl rfl) (.inl rfl) (.inl rfl) (.inr rfl)
def ZLT : TI := { agg := false, kin := 0, siz := 1, zer := some [.p .nilFunc] }
theorem ZML : TIok Tryz.prog 50 ZLT := .of (by kernel_rfl) (by kernel_rfl) (by kernel_rfl) (.inl rfl) (by kernel_rfl) (.inr (by kernel_rfl)) (.inl rfl) (.inl rfl) (.inl rfl) (.inl rfl) (.inr rfl)
def ZMD : TI := { agg := false, kin := 4, siz := 1, elm := some (123, 3), zer := some [.e0], byt := some 256 }
theorem ZNv : TIok Tryz.prog 53 ZMD := .of (by kernel_rfl) (by kernel_rfl) (by kernel_rfl) (.inr (by kernel_rfl)) (by kernel_rfl) (.inr (by kernel_rfl)) (.inl rfl) (.inl rfl) (.inl rfl) (.inr ⟨256, by decide +kernel, by decide +kernel, rfl⟩) (.inr rfl)
def ZL4 : TI := { agg := true, kin := 0, siz := 5, fld := [(0, 1, false), (1, 1, false), (2, 1, false), (3, 1, false), (4, 1, false)], zer := some [.d (.str ⟨#[]⟩), .d (.bool false), .e0, .e0, .e0], str := true, byt := some 256 }
theorem ZOe : TIok Tryz.prog 55 ZL4 := .of (by kernel_rfl) (by kernel_rfl) (by kernel_rfl) (.inl rfl) (by kernel_rfl) (.inr (by kernel_rfl)) (.inl rfl) (.inr (by kernel_rfl)) (.inl rfl) (.inr ⟨256, by decide +kernel, by decide +kernel, rfl⟩) (.inr rfl)
def ZLn : TI := { agg := false, kin := 0, siz := 1, zer := some [.p .nilFunc] }
theorem ZNY : TIok Tryz.prog 56 ZLn := .of (by kernel_rfl) (by kernel_rfl) (by kernel_rfl) (.inl rfl) (by kernel_rfl) (.inr (by kernel_rfl)) (.inl rfl) (.inl rfl) (.inl rfl) (.inl rfl) (.inr rfl)
def ZMC : TI := { agg := false, kin := 0, siz := 1, zer := some [.p .nilFunc] }
theorem ZM7 : TIok Tryz.prog 57 ZMC := .of (by kernel_rfl) (by kernel_rfl) (by kernel_rfl) (.inl rfl) (by kernel_rfl) (.inr (by kernel_rfl)) (.inl rfl) (.inl rfl) (.inl rfl) (.inl rfl) (.inr rfl)
def ZLG : TI := { agg := false, kin := 4, siz := 1, elm := some (130, 5), zer := some [.e0], byt := some 256 }
theorem ZNa : TIok Tryz.prog 60 ZLG := .of (by kernel_rfl) (by kernel_rfl) (by kernel_rfl) (.inr (by kernel_rfl)) (by kernel_rfl) (.inr (by kernel_rfl)) (.inl rfl) (.inl rfl) (.inl rfl) (.inr ⟨256, by decide +kernel, by decide +kernel, rfl⟩) (.inr rfl)
def ZMl : TI := { agg := true, kin := 0, siz := 3, fld := [(0, 1, false), (1, 1, false), (2, 1, false)], zer := some [.d (.str ⟨#[]⟩), .e0, .e0], str := true, byt := some 256 }
theorem ZNb : TIok Tryz.prog 62 ZMl := .of (by kernel_rfl) (by kernel_rfl) (by kernel_rfl) (.inl rfl) (by kernel_rfl) (.inr (by kernel_rfl)) (.inl rfl) (.inr (by kernel_rfl)) (.inl rfl) (.inr ⟨256, by decide +kernel, by decide +kernel, rfl⟩) (.inr rfl)
def ZK8 : TI := { agg := false, kin := 0, siz := 1, zer := some [.p .nilFunc] }
theorem ZOg : TIok Tryz.prog 63 ZK8 := .of (by kernel_rfl) (by kernel_rfl) (by kernel_rfl) (.inl rfl) (by kernel_rfl) (.inr (by kernel_rfl)) (.inl rfl) (.inl rfl) (.inl rfl) (.inl rfl) (.inr rfl)
def ZL6 : TI := { agg := false, kin := 0, siz := 1, zer := some [.p .nilFunc] }
theorem ZNK : TIok Tryz.prog 64 ZL6 := .of (by kernel_rfl) (by kernel_rfl) (by kernel_rfl) (.inl rfl) (by kernel_rfl) (.inr (by kernel_rfl)) (.inl rfl) (.inl rfl) (.inl rfl) (.inl rfl) (.inr rfl)
def ZLt : TI := { agg := true, kin := 0, siz := 2, fld := [(0, 1, false), (1, 1, false)], zer := some [.d (.int .i64 0), .d (.str ⟨#[]⟩)], eqt := some [3, 2], str := true, byt := some 256 }
theorem ZM5 : TIok Tryz.prog 75 ZLt := .of (by kernel_rfl) (by kernel_rfl) (by kernel_rfl) (.inl rfl) (by kernel_rfl) (.inr (by kernel_rfl)) (.inr (by kernel_rfl)) (.inr (by kernel_rfl)) (.inl rfl) (.inr ⟨256, by decide +kernel, by decide +kernel, rfl⟩) (.inr rfl)
def ZMf : TI := { agg := false, kin := 3, siz := 1, zer := some [.d (.int .u64 0)], ik := some .u64, byt := some 256 }
theorem ZM2 : TIok Tryz.prog 76 ZMf := .of (by kernel_rfl) (by kernel_rfl) (by kernel_rfl) (.inl rfl) (by kernel_rfl) (.inr (by kernel_rfl)) (.inl rfl) (.inl rfl) (.inr (by kernel_rfl)) (.inr ⟨256, by decide +kernel, by decide +kernel, rfl⟩) (.inr rfl)
def ZMA : TI := { agg := false, kin := 4, siz := 1, elm := some (82, 7), zer := some [.e0], byt := some 256 }
theorem ZNO : TIok Tryz.prog 77 ZMA := .of (by kernel_rfl) (by kernel_rfl) (by kernel_rfl) (.inr (by kernel_rfl)) (by kernel_rfl) (.inr (by kernel_rfl)) (.inl rfl) (.inl rfl) (.inl rfl) (.inr ⟨256, by decide +kernel, by decide +kernel, rfl⟩) (.inr rfl)
def ZMb : TI := { agg := false, kin := 4, siz := 1, elm := some (226, 14), zer := some [.e0], byt := some 256 }
theorem ZNw : TIok Tryz.prog 78 ZMb := .of (by kernel_rfl) (by kernel_rfl) (by kernel_rfl) (.inr (by kernel_rfl)) (by kernel_rfl) (.inr (by kernel_rfl)) (.inl rfl) (.inl rfl) (.inl rfl) (.inr ⟨256, by decide +kernel, by decide +kernel, rfl⟩) (.inr rfl)
def ZLw : TI := { agg := false, kin := 4, siz := 1, elm := some (228, 8), zer := some [.e0], byt := some 256 }
theorem ZNQ : TIok Tryz.prog 79 ZLw := .of (by kernel_rfl) (by kernel_rfl) (by kernel_rfl) (.inr (by kernel_rfl)) (by kernel_rfl) (.inr (by kernel_rfl)) (.inl rfl) (.inl rfl) (.inl rfl) (.inr ⟨256, by decide +kernel, by decide +kernel, rfl⟩) (.inr rfl)
def ZLZ : TI := { agg := false, kin := 4, siz := 1, elm := some (230, 4), zer := some [.e0], byt := some 256 }
theorem ZNT : TIok Tryz.prog 80 ZLZ := .of (by kernel_rfl) (by kernel_rfl) (by kernel_rfl) (.inr (by kernel_rfl)) (by kernel_rfl) (.inr (by kernel_rfl)) (.inl rfl) (.inl rfl) (.inl rfl) (.inr ⟨256, by decide +kernel, by decide +kernel, rfl⟩) (.inr rfl)
def ZLy : TI := { agg := true, kin := 0, siz := 7, fld := [(0, 1, false), (1, 1, false), (2, 1, false), (3, 1, false), (4, 1, false), (5, 1, false), (6, 1, false)], zer := some [.d (.int .i64 0), .d (.int .u64 0), .d (.str ⟨#[]⟩), .e0, .e0, .e0, .e0], str := true, byt := some 256 }
theorem ZNC : TIok Tryz.prog 82 ZLy := .of (by kernel_rfl) (by kernel_rfl) (by kernel_rfl) (.inl rfl) (by kernel_rfl) (.inr (by kernel_rfl)) (.inl rfl) (.inr (by kernel_rfl)) (.inl rfl) (.inr ⟨256, by decide +kernel, by decide +kernel, rfl⟩) (.inr rfl)
def ZMg : TI := { agg := true, kin := 0, siz := 16, fld := [(0, 1, false), (1, 1, false), (2, 1, false), (3, 1, false), (4, 2, true), (6, 1, false), (7, 1, false), (8, 7, true), (15, 1, false)], zer := some [.d (.int .i64 0), .d (.str ⟨#[]⟩), .d (.int .i64 0), .d (.int .i64 0), .d (.int .i64 0), .d (.str ⟨#[]⟩), .d (.str ⟨#[]⟩), .d (.bool false), .d (.int .i64 0), .d (.int .u64 0), .d (.str ⟨#[]⟩), .e0, .e0, .e0, .e0, .e0], str := true, byt := some 256 }
theorem ZN0 : TIok Tryz.prog 84 ZMg := .of (by kernel_rfl) (by kernel_rfl) (by kernel_rfl) (.inl rfl) (by kernel_rfl) (.inr (by kernel_rfl)) (.inl rfl) (.inr (by kernel_rfl)) (.inl rfl) (.inr ⟨256, by decide +kernel, by decide +kernel, rfl⟩) (.inr rfl)
def ZMr : TI := { agg := true, kin := 0, siz := 6, fld := [(0, 1, false), (1, 1, false), (2, 1, false), (3, 1, false), (4, 1, false), (5, 1, false)], zer := some [.d (.str ⟨#[]⟩), .d (.str ⟨#[]⟩), .e0, .e0, .e0, .e0], str := true, byt := some 256 }
theorem ZMW : TIok Tryz.prog 86 ZMr := .of (by kernel_rfl) (by kernel_rfl) (by kernel_rfl) (.inl rfl) (by kernel_rfl) (.inr (by kernel_rfl)) (.inl rfl) (.inr (by kernel_rfl)) (.inl rfl) (.inr ⟨256, by decide +kernel, by decide +kernel, rfl⟩) (.inr rfl)
def ZL9 : TI := { agg := false, kin := 4, siz := 1, elm := some (3, 1), zer := some [.e0], byt := some 256 }
theorem ZOf : TIok Tryz.prog 87 ZL9 := .of (by kernel_rfl) (by kernel_rfl) (by kernel_rfl) (.inr (by kernel_rfl)) (by kernel_rfl) (.inr (by kernel_rfl)) (.inl rfl) (.inl rfl) (.inl rfl) (.inr ⟨256, by decide +kernel, by decide +kernel, rfl⟩) (.inr rfl)
def ZLz : TI := { agg := false, kin := 0, siz := 1, zer := some [.p (.pointer none)] }
theorem ZNG : TIok Tryz.prog 92 ZLz := .of (by kernel_rfl) (by kernel_rfl) (by kernel_rfl) (.inl rfl) (by kernel_rfl) (.inr (by kernel_rfl)) (.inl rfl) (.inl rfl) (.inl rfl) (.inl rfl) (.inr rfl)
def ZLr : TI := { agg := true, kin := 0, siz := 10, fld := [(0, 1, false), (1, 6, true), (7, 1, false), (8, 1, false), (9, 1, false)], zer := some [.e0, .d (.str ⟨#[]⟩), .d (.str ⟨#[]⟩), .e0, .e0, .e0, .e0, .e0, .e0, .e0], str := true, byt := some 256 }
theorem ZNB : TIok Tryz.prog 94 ZLr := .of (by kernel_rfl) (by kernel_rfl) (by kernel_rfl) (.inl rfl) (by kernel_rfl) (.inr (by kernel_rfl)) (.inl rfl) (.inr (by kernel_rfl)) (.inl rfl) (.inr ⟨256, by decide +kernel, by decide +kernel, rfl⟩) (.inr rfl)
def ZFP : TI := { agg := false, kin := 0, siz := 1, zer := some [.p .nilFunc] }
theorem ZKT : TIok Tryz.prog 111 ZFP := .of (by kernel_rfl) (by kernel_rfl) (by kernel_rfl) (.inl rfl) (by kernel_rfl) (.inr (by kernel_rfl)) (.inl rfl) (.inl rfl) (.inl rfl) (.inl rfl) (.inr rfl)
def ZIh : TI := { agg := false, kin := 0, siz := 1, zer := some [.p .nilFunc] }
theorem ZJz : TIok Tryz.prog 113 ZIh := .of (by kernel_rfl) (by kernel_rfl) (by kernel_rfl) (.inl rfl) (by kernel_rfl) (.inr (by kernel_rfl)) (.inl rfl) (.inl rfl) (.inl rfl) (.inl rfl) (.inr rfl)
def ZE3 : TI := { agg := true, kin := 0, siz := 2, fld := [(0, 1, false), (1, 1, false)], zer := some [.d (.int .i64 0), .d (.int .i64 0)], eqt := some [3, 3], str := true, byt := some 256 }
theorem ZKj : TIok Tryz.prog 116 ZE3 := .of (by kernel_rfl) (by kernel_rfl) (by kernel_rfl) (.inl rfl) (by kernel_rfl) (.inr (by kernel_rfl)) (.inr (by kernel_rfl)) (.inr (by kernel_rfl)) (.inl rfl) (.inr ⟨256, by decide +kernel, by decide +kernel, rfl⟩) (.inr rfl)
def ZGR : TI := { agg := false, kin := 0, siz := 1, zer := some [.p .nilFunc] }
theorem ZJE : TIok Tryz.prog 120 ZGR := .of (by kernel_rfl) (by kernel_rfl) (by kernel_rfl) (.inl rfl) (by kernel_rfl) (.inr (by kernel_rfl)) (.inl rfl) (.inl rfl) (.inl rfl) (.inl rfl) (.inr rfl)
def ZIu : TI := { agg := true, kin := 0, siz := 3, fld := [(0, 1, false), (1, 1, false), (2, 1, false)], zer := some [.d (.str ⟨#[]⟩), .d (.int .i64 0), .e0], str := true, byt := some 256 }
theorem ZJM : TIok Tryz.prog 123 ZIu := .of (by kernel_rfl) (by kernel_rfl) (by kernel_rfl) (.inl rfl) (by kernel_rfl) (.inr (by kernel_rfl)) (.inl rfl) (.inr (by kernel_rfl)) (.inl rfl) (.inr ⟨256, by decide +kernel, by decide +kernel, rfl⟩) (.inr rfl)
def ZHY : TI := { agg := false, kin := 0, siz := 1, zer := some [.p .nilFunc] }
theorem ZJ6 : TIok Tryz.prog 124 ZHY := .of (by kernel_rfl) (by kernel_rfl) (by kernel_rfl) (.inl rfl) (by kernel_rfl) (.inr (by kernel_rfl)) (.inl rfl) (.inl rfl) (.inl rfl) (.inl rfl) (.inr rfl)
def ZCS : TI := { agg := false, kin := 0, siz := 1, zer := some [.p .nilFunc] }
theorem ZKL : TIok Tryz.prog 127 ZCS := .of (by kernel_rfl) (by kernel_rfl) (by kernel_rfl) (.inl rfl) (by kernel_rfl) (.inr (by kernel_rfl)) (.inl rfl) (.inl rfl) (.inl rfl) (.inl rfl) (.inr rfl)
def ZE6 : TI := { agg := true, kin := 0, siz := 5, fld := [(0, 1, false), (1, 1, false), (2, 1, false), (3, 1, false), (4, 1, false)], zer := some [.d (.str ⟨#[]⟩), .d (.str ⟨#[]⟩), .d (.str ⟨#[]⟩), .d (.int .i64 0), .e0], str := true, byt := some 256 }
theorem ZKu : TIok Tryz.prog 130 ZE6 := .of (by kernel_rfl) (by kernel_rfl) (by kernel_rfl) (.inl rfl) (by kernel_rfl) (.inr (by kernel_rfl)) (.inl rfl) (.inr (by kernel_rfl)) (.inl rfl) (.inr ⟨256, by decide +kernel, by decide +kernel, rfl⟩) (.inr rfl)
def ZHu : TI := { agg := false, kin := 0, siz := 1, zer := some [.p .nilFunc] }
theorem ZJj : TIok Tryz.prog 131 ZHu := .of (by kernel_rfl) (by kernel_rfl) (by kernel_rfl) (.inl rfl) (by kernel_rfl) (.inr (by kernel_rfl)) (.inl rfl) (.inl rfl) (.inl rfl) (.inl rfl) (.inr rfl)
def ZIt : TI := { agg := false, kin := 0, siz := 1, zer := some [.p .nilFunc] }
theorem ZKk : TIok Tryz.prog 134 ZIt := .of (by kernel_rfl) (by kernel_rfl) (by kernel_rfl) (.inl rfl) (by kernel_rfl) (.inr (by kernel_rfl)) (.inl rfl) (.inl rfl) (.inl rfl) (.inl rfl) (.inr rfl)
def ZGD : TI := { agg := false, kin := 0, siz := 1, zer := some [.p .nilFunc] }
theorem ZJn : TIok Tryz.prog 136 ZGD := .of (by kernel_rfl) (by kernel_rfl) (by kernel_rfl) (.inl rfl) (by kernel_rfl) (.inr (by kernel_rfl)) (.inl rfl) (.inl rfl) (.inl rfl) (.inl rfl) (.inr rfl)
def ZFc : TI := { agg := false, kin := 0, siz := 1, zer := some [.p .nilFunc] }
theorem ZKJ : TIok Tryz.prog 138 ZFc := .of (by kernel_rfl) (by kernel_rfl) (by kernel_rfl) (.inl rfl) (by kernel_rfl) (.inr (by kernel_rfl)) (.inl rfl) (.inl rfl) (.inl rfl) (.inl rfl) (.inr rfl)
def ZHr : TI := { agg := false, kin := 4, siz := 1, elm := some (36, 1), zer := some [.e0], byt := some 256 }
theorem ZKR : TIok Tryz.prog 148 ZHr := .of (by kernel_rfl) (by kernel_rfl) (by kernel_rfl) (.inr (by kernel_rfl)) (by kernel_rfl) (.inr (by kernel_rfl)) (.inl rfl) (.inl rfl) (.inl rfl) (.inr ⟨256, by decide +kernel, by decide +kernel, rfl⟩) (.inr rfl)
def ZEr : TI := { agg := false, kin := 3, siz := 1, zer := some [.d (.int .u64 0)], ik := some .u64, byt := some 256 }
theorem ZJO : TIok Tryz.prog 152 ZEr := .of (by kernel_rfl) (by kernel_rfl) (by kernel_rfl) (.inl rfl) (by kernel_rfl) (.inr (by kernel_rfl)) (.inl rfl) (.inl rfl) (.inr (by kernel_rfl)) (.inr ⟨256, by decide +kernel, by decide +kernel, rfl⟩) (.inr rfl)
def ZGc : TI := { agg := true, kin := 0, siz := 8, fld := [(0, 1, false), (1, 7, true)], zer := some [.d (.str ⟨#[]⟩), .d (.int .i64 0), .d (.int .u64 0), .d (.str ⟨#[]⟩), .e0, .e0, .e0, .e0], str := true, byt := some 256 }
theorem ZJX : TIok Tryz.prog 159 ZGc := .of (by kernel_rfl) (by kernel_rfl) (by kernel_rfl) (.inl rfl) (by kernel_rfl) (.inr (by kernel_rfl)) (.inl rfl) (.inr (by kernel_rfl)) (.inl rfl) (.inr ⟨256, by decide +kernel, by decide +kernel, rfl⟩) (.inr rfl)
def ZDD : TI := { agg := false, kin := 0, siz := 1, zer := some [.p .nilFunc] }
theorem ZJU : TIok Tryz.prog 160 ZDD := .of (by kernel_rfl) (by kernel_rfl) (by kernel_rfl) (.inl rfl) (by kernel_rfl) (.inr (by kernel_rfl)) (.inl rfl) (.inl rfl) (.inl rfl) (.inl rfl) (.inr rfl)
def ZGz : TI := { agg := false, kin := 0, siz := 1, zer := some [.p .nilFunc] }
theorem ZJW : TIok Tryz.prog 162 ZGz := .of (by kernel_rfl) (by kernel_rfl) (by kernel_rfl) (.inl rfl) (by kernel_rfl) (.inr (by kernel_rfl)) (.inl rfl) (.inl rfl) (.inl rfl) (.inl rfl) (.inr rfl)
def ZGF : TI := { agg := false, kin := 0, siz := 1, zer := some [.p .nilFunc] }
theorem ZK5 : TIok Tryz.prog 166 ZGF := .of (by kernel_rfl) (by kernel_rfl) (by kernel_rfl) (.inl rfl) (by kernel_rfl) (.inr (by kernel_rfl)) (.inl rfl) (.inl rfl) (.inl rfl) (.inl rfl) (.inr rfl)
def ZFi : TI := { agg := false, kin := 4, siz := 1, elm := some (4, 1), zer := some [.e0], byt := some 256 }
theorem ZKZ : TIok Tryz.prog 169 ZFi := .of (by kernel_rfl) (by kernel_rfl) (by kernel_rfl) (.inr (by kernel_rfl)) (by kernel_rfl) (.inr (by kernel_rfl)) (.inl rfl) (.inl rfl) (.inl rfl) (.inr ⟨256, by decide +kernel, by decide +kernel, rfl⟩) (.inr rfl)
def ZCW : TI := { agg := false, kin := 3, siz := 1, zer := some [.d (.int .i64 0)], ik := some .i64, byt := some 256 }
theorem ZJ9 : TIok Tryz.prog 176 ZCW := .of (by kernel_rfl) (by kernel_rfl) (by kernel_rfl) (.inl rfl) (by kernel_rfl) (.inr (by kernel_rfl)) (.inl rfl) (.inl rfl) (.inr (by kernel_rfl)) (.inr ⟨256, by decide +kernel, by decide +kernel, rfl⟩) (.inr rfl)
def ZDA : TI := { agg := false, kin := 3, siz := 1, zer := some [.d (.int .u32 0)], ik := some .u32, byt := some 256 }
theorem ZK2 : TIok Tryz.prog 185 ZDA := .of (by kernel_rfl) (by kernel_rfl) (by kernel_rfl) (.inl rfl) (by kernel_rfl) (.inr (by kernel_rfl)) (.inl rfl) (.inl rfl) (.inr (by kernel_rfl)) (.inr ⟨256, by decide +kernel, by decide +kernel, rfl⟩) (.inr rfl)
def ZIG : TI := { agg := false, kin := 3, siz := 1, zer := some [.d (.int .u64 0)], ik := some .u64, byt := some 256 }
theorem ZJC : TIok Tryz.prog 198 ZIG := .of (by kernel_rfl) (by kernel_rfl) (by kernel_rfl) (.inl rfl) (by kernel_rfl) (.inr (by kernel_rfl)) (.inl rfl) (.inl rfl) (.inr (by kernel_rfl)) (.inr ⟨256, by decide +kernel, by decide +kernel, rfl⟩) (.inr rfl)
def ZDz : TI := { agg := false, kin := 0, siz := 1, zer := some [.p (.pointer none)] }
theorem ZKQ : TIok Tryz.prog 202 ZDz := .of (by kernel_rfl) (by kernel_rfl) (by kernel_rfl) (.inl rfl) (by kernel_rfl) (.inr (by kernel_rfl)) (.inl rfl) (.inl rfl) (.inl rfl) (.inl rfl) (.inr rfl)
def ZIF : TI := { agg := false, kin := 0, siz := 1, zer := some [.p (.pointer none)] }
theorem ZJ1 : TIok Tryz.prog 206 ZIF := .of (by kernel_rfl) (by kernel_rfl) (by kernel_rfl) (.inl rfl) (by kernel_rfl) (.inr (by kernel_rfl)) (.inl rfl) (.inl rfl) (.inl rfl) (.inl rfl) (.inr rfl)
def ZDn : TI := { agg := true, kin := 0, siz := 14, fld := [(0, 7, true), (7, 7, true)], zer := some [.d (.int .i64 0), .d (.int .u64 0), .d (.str ⟨#[]⟩), .e0, .e0, .e0, .e0, .d (.int .i64 0), .d (.int .u64 0), .d (.str ⟨#[]⟩), .e0, .e0, .e0, .e0], str := true, byt := some 256 }
theorem ZKC : TIok Tryz.prog 226 ZDn := .of (by kernel_rfl) (by kernel_rfl) (by kernel_rfl) (.inl rfl) (by kernel_rfl) (.inr (by kernel_rfl)) (.inl rfl) (.inr (by kernel_rfl)) (.inl rfl) (.inr ⟨256, by decide +kernel, by decide +kernel, rfl⟩) (.inr rfl)
def ZFR : TI := { agg := true, kin := 0, siz := 8, fld := [(0, 1, false), (1, 7, true)], zer := some [.d (.int .i64 0), .d (.int .i64 0), .d (.int .u64 0), .d (.str ⟨#[]⟩), .e0, .e0, .e0, .e0], str := true, byt := some 256 }
theorem ZJT : TIok Tryz.prog 228 ZFR := .of (by kernel_rfl) (by kernel_rfl) (by kernel_rfl) (.inl rfl) (by kernel_rfl) (.inr (by kernel_rfl)) (.inl rfl) (.inr (by kernel_rfl)) (.inl rfl) (.inr ⟨256, by decide +kernel, by decide +kernel, rfl⟩) (.inr rfl)
def ZEf : TI := { agg := true, kin := 0, siz := 4, fld := [(0, 1, false), (1, 1, false), (2, 1, false), (3, 1, false)], zer := some [.d (.int .i64 0), .d (.int .i64 0), .d (.int .u64 0), .d (.str ⟨#[]⟩)], eqt := some [3, 3, 3, 2], str := true, byt := some 256 }
theorem ZJq : TIok Tryz.prog 230 ZEf := .of (by kernel_rfl) (by kernel_rfl) (by kernel_rfl) (.inl rfl) (by kernel_rfl) (.inr (by kernel_rfl)) (.inr (by kernel_rfl)) (.inr (by kernel_rfl)) (.inl rfl) (.inr ⟨256, by decide +kernel, by decide +kernel, rfl⟩) (.inr rfl)
def tl : List (Nat × TI) := [(3, ti3), (4, ti4), (5, ti5), (9, ti9), (22, ZLI), (23, ZLB), (24, ZLb), (26, ZLV), (27, ZK9), (32, ZMj), (33, ZLP), (36, ZMs), (40, ZLL), (44, ZLo), (45, ZLk), (46, ZL8), (48, ZLM), (49, ZLd), (50, ZLT), (53, ZMD), (55, ZL4), (56, ZLn), (57, ZMC), (60, ZLG), (62, ZMl), (63, ZK8), (64, ZL6), (75, ZLt), (76, ZMf), (77, ZMA), (78, ZMb), (79, ZLw), (80, ZLZ), (82, ZLy), (84, ZMg), (86, ZMr), (87, ZL9), (92, ZLz), (94, ZLr), (111, ZFP), (113, ZIh), (116, ZE3), (120, ZGR), (123, ZIu), (124, ZHY), (127, ZCS), (130, ZE6), (131, ZHu), (134, ZIt), (136, ZGD), (138, ZFc), (148, ZHr), (152, ZEr), (159, ZGc), (160, ZDD), (162, ZGz), (166, ZGF), (169, ZFi), (176, ZCW), (185, ZDA), (198, ZIG), (202, ZDz), (206, ZIF), (226, ZDn), (228, ZFR), (230, ZEf)]
theorem tok : TOk Tryz.prog (lkT tl) := Zwa tl (by
 intro p hp
 simp only [tl, List.mem_cons, List.not_mem_nil, or_false] at hp
 rcases hp with rfl | rfl | rfl | rfl | rfl | rfl | rfl | rfl | rfl | rfl | rfl | rfl | rfl | rfl | rfl | rfl | rfl | rfl | rfl | rfl | rfl | rfl | rfl | rfl | rfl | rfl | rfl | rfl | rfl | rfl | rfl | rfl | rfl | rfl | rfl | rfl | rfl | rfl | rfl | rfl | rfl | rfl | rfl | rfl | rfl | rfl | rfl | rfl | rfl | rfl | rfl | rfl | rfl | rfl | rfl | rfl | rfl | rfl | rfl | rfl | rfl | rfl | rfl | rfl | rfl | rfl
 ·exact tk3
 ·exact tk4
 ·exact tk5
 ·exact tk9
 ·exact ZNo
 ·exact ZNM
 ·exact ZMI
 ·exact ZN8
 ·exact ZM1
 ·exact ZOb
 ·exact ZMJ
 ·exact ZNE
 ·exact ZNz
 ·exact ZMZ
 ·exact ZNh
 ·exact ZNl
 ·exact ZNW
 ·exact ZNu
 ·exact ZML
 ·exact ZNv
 ·exact ZOe
 ·exact ZNY
 ·exact ZM7
 ·exact ZNa
 ·exact ZNb
 ·exact ZOg
 ·exact ZNK
 ·exact ZM5
 ·exact ZM2
 ·exact ZNO
 ·exact ZNw
 ·exact ZNQ
 ·exact ZNT
 ·exact ZNC
 ·exact ZN0
 ·exact ZMW
 ·exact ZOf
 ·exact ZNG
 ·exact ZNB
 ·exact ZKT
 ·exact ZJz
 ·exact ZKj
 ·exact ZJE
 ·exact ZJM
 ·exact ZJ6
 ·exact ZKL
 ·exact ZKu
 ·exact ZJj
 ·exact ZKk
 ·exact ZJn
 ·exact ZKJ
 ·exact ZKR
 ·exact ZJO
 ·exact ZJX
 ·exact ZJU
 ·exact ZJW
 ·exact ZK5
 ·exact ZKZ
 ·exact ZJ9
 ·exact ZK2
 ·exact ZJC
 ·exact ZKQ
 ·exact ZJ1
 ·exact ZKC
 ·exact ZJT
 ·exact ZJq)
theorem tmo : Tryz.prog.follows .mixedOrders = true := by kernel_rfl
end Go.Proofs.YthagpbkmakocjaaGreat
