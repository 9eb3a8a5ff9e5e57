/-
  The table of the types that the functions of this seat name, and that it is right; by program (tab.py).
-/
import Derived.Test.YtdiibhcdfmeagaaDoorProg
import Derived.Test.YtdiibhcdfmeagaaDoorEngZ
namespace Go.Proofs.YtdiibhcdfmeagaaDoor
set_option linter.all false
open Go Go.Eng
def ti3 : TI := { agg := false, kin := 3, siz := 1, zer := some [.d (.int .i64 0)], ik := some .i64, byt := some 4096 }
theorem tk3 : TIok Tryd.prog 3 ti3 := .of (by kernel_rfl) (by kernel_rfl) (by kernel_rfl) (.inl rfl) (by kernel_rfl) (.inr (by kernel_rfl)) (.inl rfl) (.inl rfl) (.inr (by kernel_rfl)) (.inr ⟨by decide +kernel, by decide +kernel, rfl⟩) (.inr rfl)
def ti4 : TI := { agg := false, kin := 1, siz := 1, zer := some [.d (.bool false)], byt := some 4096 }
theorem tk4 : TIok Tryd.prog 4 ti4 := .of (by kernel_rfl) (by kernel_rfl) (by kernel_rfl) (.inl rfl) (by kernel_rfl) (.inr (by kernel_rfl)) (.inl rfl) (.inl rfl) (.inl rfl) (.inr ⟨by decide +kernel, by decide +kernel, rfl⟩) (.inr rfl)
def ti5 : TI := { agg := false, kin := 3, siz := 1, zer := some [.d (.int .u8 0)], ik := some .u8, byt := some 4096 }
theorem tk5 : TIok Tryd.prog 5 ti5 := .of (by kernel_rfl) (by kernel_rfl) (by kernel_rfl) (.inl rfl) (by kernel_rfl) (.inr (by kernel_rfl)) (.inl rfl) (.inl rfl) (.inr (by kernel_rfl)) (.inr ⟨by decide +kernel, by decide +kernel, rfl⟩) (.inr rfl)
def ti9 : TI := { agg := false, kin := 2, siz := 1, zer := some [.d (.str ⟨#[]⟩)], byt := some 4096 }
theorem tk9 : TIok Tryd.prog 9 ti9 := .of (by kernel_rfl) (by kernel_rfl) (by kernel_rfl) (.inl rfl) (by kernel_rfl) (.inr (by kernel_rfl)) (.inl rfl) (.inl rfl) (.inl rfl) (.inr ⟨by decide +kernel, by decide +kernel, rfl⟩) (.inr rfl)
def ti21 : TI := { agg := false, kin := 3, siz := 1, zer := some [.d (.int .i32 0)], ik := some .i32, byt := some 4096 }
theorem tk21 : TIok Tryd.prog 21 ti21 := .of (by kernel_rfl) (by kernel_rfl) (by kernel_rfl) (.inl rfl) (by kernel_rfl) (.inr (by kernel_rfl)) (.inl rfl) (.inl rfl) (.inr (by kernel_rfl)) (.inr ⟨by decide +kernel, by decide +kernel, rfl⟩) (.inr rfl)
def ti22 : TI := { agg := false, kin := 4, siz := 1, elm := some (60, 5), zer := some [.e0], byt := some 4096 }
theorem tk22 : TIok Tryd.prog 22 ti22 := .of (by kernel_rfl) (by kernel_rfl) (by kernel_rfl) (.inr (by kernel_rfl)) (by kernel_rfl) (.inr (by kernel_rfl)) (.inl rfl) (.inl rfl) (.inl rfl) (.inr ⟨by decide +kernel, by decide +kernel, rfl⟩) (.inr rfl)
def ti23 : TI := { agg := false, kin := 4, siz := 1, elm := some (50, 5), zer := some [.e0], byt := some 4096 }
theorem tk23 : TIok Tryd.prog 23 ti23 := .of (by kernel_rfl) (by kernel_rfl) (by kernel_rfl) (.inr (by kernel_rfl)) (by kernel_rfl) (.inr (by kernel_rfl)) (.inl rfl) (.inl rfl) (.inl rfl) (.inr ⟨by decide +kernel, by decide +kernel, rfl⟩) (.inr rfl)
def ti24 : TI := { agg := false, kin := 4, siz := 1, elm := some (81, 3), zer := some [.e0], byt := some 4096 }
theorem tk24 : TIok Tryd.prog 24 ti24 := .of (by kernel_rfl) (by kernel_rfl) (by kernel_rfl) (.inr (by kernel_rfl)) (by kernel_rfl) (.inr (by kernel_rfl)) (.inl rfl) (.inl rfl) (.inl rfl) (.inr ⟨by decide +kernel, by decide +kernel, rfl⟩) (.inr rfl)
def ti26 : TI := { agg := true, kin := 0, siz := 3, fld := [(0, 1, false), (1, 1, false), (2, 1, false)], zer := some [.e0, .e0, .e0], str := true, byt := some 4096 }
theorem tk26 : TIok Tryd.prog 26 ti26 := .of (by kernel_rfl) (by kernel_rfl) (by kernel_rfl) (.inl rfl) (by kernel_rfl) (.inr (by kernel_rfl)) (.inl rfl) (.inr (by kernel_rfl)) (.inl rfl) (.inr ⟨by decide +kernel, by decide +kernel, rfl⟩) (.inr rfl)
def ti27 : TI := { agg := false, kin := 4, siz := 1, elm := some (45, 16), zer := some [.e0], byt := some 4096 }
theorem tk27 : TIok Tryd.prog 27 ti27 := .of (by kernel_rfl) (by kernel_rfl) (by kernel_rfl) (.inr (by kernel_rfl)) (by kernel_rfl) (.inr (by kernel_rfl)) (.inl rfl) (.inl rfl) (.inl rfl) (.inr ⟨by decide +kernel, by decide +kernel, rfl⟩) (.inr rfl)
def ti28 : TI := { agg := false, kin := 3, siz := 1, zer := some [.d (.int .i64 0)], ik := some .i64, byt := some 4096 }
theorem tk28 : TIok Tryd.prog 28 ti28 := .of (by kernel_rfl) (by kernel_rfl) (by kernel_rfl) (.inl rfl) (by kernel_rfl) (.inr (by kernel_rfl)) (.inl rfl) (.inl rfl) (.inr (by kernel_rfl)) (.inr ⟨by decide +kernel, by decide +kernel, rfl⟩) (.inr rfl)
def ti35 : TI := { agg := true, kin := 0, siz := 2, fld := [(0, 1, false), (1, 1, false)], zer := some [.d (.int .i64 0), .d (.str ⟨#[]⟩)], eqt := some [3, 2], str := true, byt := some 4096 }
theorem tk35 : TIok Tryd.prog 35 ti35 := .of (by kernel_rfl) (by kernel_rfl) (by kernel_rfl) (.inl rfl) (by kernel_rfl) (.inr (by kernel_rfl)) (.inr (by kernel_rfl)) (.inr (by kernel_rfl)) (.inl rfl) (.inr ⟨by decide +kernel, by decide +kernel, rfl⟩) (.inr rfl)
def ti36 : TI := { agg := false, kin := 3, siz := 1, zer := some [.d (.int .u64 0)], ik := some .u64, byt := some 4096 }
theorem tk36 : TIok Tryd.prog 36 ti36 := .of (by kernel_rfl) (by kernel_rfl) (by kernel_rfl) (.inl rfl) (by kernel_rfl) (.inr (by kernel_rfl)) (.inl rfl) (.inl rfl) (.inr (by kernel_rfl)) (.inr ⟨by decide +kernel, by decide +kernel, rfl⟩) (.inr rfl)
def ti37 : TI := { agg := false, kin := 4, siz := 1, elm := some (42, 7), zer := some [.e0], byt := some 4096 }
theorem tk37 : TIok Tryd.prog 37 ti37 := .of (by kernel_rfl) (by kernel_rfl) (by kernel_rfl) (.inr (by kernel_rfl)) (by kernel_rfl) (.inr (by kernel_rfl)) (.inl rfl) (.inl rfl) (.inl rfl) (.inr ⟨by decide +kernel, by decide +kernel, rfl⟩) (.inr rfl)
def ti38 : TI := { agg := false, kin := 4, siz := 1, elm := some (178, 14), zer := some [.e0], byt := some 4096 }
theorem tk38 : TIok Tryd.prog 38 ti38 := .of (by kernel_rfl) (by kernel_rfl) (by kernel_rfl) (.inr (by kernel_rfl)) (by kernel_rfl) (.inr (by kernel_rfl)) (.inl rfl) (.inl rfl) (.inl rfl) (.inr ⟨by decide +kernel, by decide +kernel, rfl⟩) (.inr rfl)
def ti39 : TI := { agg := false, kin := 4, siz := 1, elm := some (180, 8), zer := some [.e0], byt := some 4096 }
theorem tk39 : TIok Tryd.prog 39 ti39 := .of (by kernel_rfl) (by kernel_rfl) (by kernel_rfl) (.inr (by kernel_rfl)) (by kernel_rfl) (.inr (by kernel_rfl)) (.inl rfl) (.inl rfl) (.inl rfl) (.inr ⟨by decide +kernel, by decide +kernel, rfl⟩) (.inr rfl)
def ti40 : TI := { agg := false, kin := 4, siz := 1, elm := some (182, 4), zer := some [.e0], byt := some 4096 }
theorem tk40 : TIok Tryd.prog 40 ti40 := .of (by kernel_rfl) (by kernel_rfl) (by kernel_rfl) (.inr (by kernel_rfl)) (by kernel_rfl) (.inr (by kernel_rfl)) (.inl rfl) (.inl rfl) (.inl rfl) (.inr ⟨by decide +kernel, by decide +kernel, rfl⟩) (.inr rfl)
def ti42 : TI := { agg := true, kin := 0, siz := 7, fld := [(0, 1, false), (1, 1, false), (2, 1, false), (3, 1, false), (4, 1, false), (5, 1, false), (6, 1, false)], zer := some [.d (.int .i64 0), .d (.int .u64 0), .d (.str ⟨#[]⟩), .e0, .e0, .e0, .e0], str := true, byt := some 4096 }
theorem tk42 : TIok Tryd.prog 42 ti42 := .of (by kernel_rfl) (by kernel_rfl) (by kernel_rfl) (.inl rfl) (by kernel_rfl) (.inr (by kernel_rfl)) (.inl rfl) (.inr (by kernel_rfl)) (.inl rfl) (.inr ⟨by decide +kernel, by decide +kernel, rfl⟩) (.inr rfl)
def ti43 : TI := { agg := false, kin := 4, siz := 1, elm := some (91, 8), zer := some [.e0], byt := some 4096 }
theorem tk43 : TIok Tryd.prog 43 ti43 := .of (by kernel_rfl) (by kernel_rfl) (by kernel_rfl) (.inr (by kernel_rfl)) (by kernel_rfl) (.inr (by kernel_rfl)) (.inl rfl) (.inl rfl) (.inl rfl) (.inr ⟨by decide +kernel, by decide +kernel, rfl⟩) (.inr rfl)
def ti45 : TI := { agg := true, kin := 0, siz := 16, fld := [(0, 1, false), (1, 1, false), (2, 1, false), (3, 1, false), (4, 2, true), (6, 1, false), (7, 1, false), (8, 7, true), (15, 1, false)], zer := some [.d (.int .i64 0), .d (.str ⟨#[]⟩), .d (.int .i64 0), .d (.int .i64 0), .d (.int .i64 0), .d (.str ⟨#[]⟩), .d (.str ⟨#[]⟩), .d (.bool false), .d (.int .i64 0), .d (.int .u64 0), .d (.str ⟨#[]⟩), .e0, .e0, .e0, .e0, .e0], str := true, byt := some 4096 }
theorem tk45 : TIok Tryd.prog 45 ti45 := .of (by kernel_rfl) (by kernel_rfl) (by kernel_rfl) (.inl rfl) (by kernel_rfl) (.inr (by kernel_rfl)) (.inl rfl) (.inr (by kernel_rfl)) (.inl rfl) (.inr ⟨by decide +kernel, by decide +kernel, rfl⟩) (.inr rfl)
def ti47 : TI := { agg := false, kin := 4, siz := 1, elm := some (52, 3), zer := some [.e0], byt := some 4096 }
theorem tk47 : TIok Tryd.prog 47 ti47 := .of (by kernel_rfl) (by kernel_rfl) (by kernel_rfl) (.inr (by kernel_rfl)) (by kernel_rfl) (.inr (by kernel_rfl)) (.inl rfl) (.inl rfl) (.inl rfl) (.inr ⟨by decide +kernel, by decide +kernel, rfl⟩) (.inr rfl)
def ti48 : TI := { agg := false, kin := 4, siz := 1, elm := some (119, 2), zer := some [.e0], byt := some 4096 }
theorem tk48 : TIok Tryd.prog 48 ti48 := .of (by kernel_rfl) (by kernel_rfl) (by kernel_rfl) (.inr (by kernel_rfl)) (by kernel_rfl) (.inr (by kernel_rfl)) (.inl rfl) (.inl rfl) (.inl rfl) (.inr ⟨by decide +kernel, by decide +kernel, rfl⟩) (.inr rfl)
def ti50 : TI := { agg := true, kin := 0, siz := 5, fld := [(0, 1, false), (1, 1, false), (2, 1, false), (3, 1, false), (4, 1, false)], zer := some [.d (.str ⟨#[]⟩), .d (.bool false), .e0, .e0, .e0], str := true, byt := some 4096 }
theorem tk50 : TIok Tryd.prog 50 ti50 := .of (by kernel_rfl) (by kernel_rfl) (by kernel_rfl) (.inl rfl) (by kernel_rfl) (.inr (by kernel_rfl)) (.inl rfl) (.inr (by kernel_rfl)) (.inl rfl) (.inr ⟨by decide +kernel, by decide +kernel, rfl⟩) (.inr rfl)
def ti52 : TI := { agg := true, kin := 0, siz := 3, fld := [(0, 1, false), (1, 1, false), (2, 1, false)], zer := some [.d (.str ⟨#[]⟩), .d (.int .i64 0), .e0], str := true, byt := some 4096 }
theorem tk52 : TIok Tryd.prog 52 ti52 := .of (by kernel_rfl) (by kernel_rfl) (by kernel_rfl) (.inl rfl) (by kernel_rfl) (.inr (by kernel_rfl)) (.inl rfl) (.inr (by kernel_rfl)) (.inl rfl) (.inr ⟨by decide +kernel, by decide +kernel, rfl⟩) (.inr rfl)
def ti58 : TI := { agg := false, kin := 4, siz := 1, elm := some (9, 1), zer := some [.e0], byt := some 4096 }
theorem tk58 : TIok Tryd.prog 58 ti58 := .of (by kernel_rfl) (by kernel_rfl) (by kernel_rfl) (.inr (by kernel_rfl)) (by kernel_rfl) (.inr (by kernel_rfl)) (.inl rfl) (.inl rfl) (.inl rfl) (.inr ⟨by decide +kernel, by decide +kernel, rfl⟩) (.inr rfl)
def ti60 : TI := { agg := true, kin := 0, siz := 5, fld := [(0, 1, false), (1, 1, false), (2, 1, false), (3, 1, false), (4, 1, false)], zer := some [.d (.str ⟨#[]⟩), .e0, .e0, .e0, .e0], str := true, byt := some 4096 }
theorem tk60 : TIok Tryd.prog 60 ti60 := .of (by kernel_rfl) (by kernel_rfl) (by kernel_rfl) (.inl rfl) (by kernel_rfl) (.inr (by kernel_rfl)) (.inl rfl) (.inr (by kernel_rfl)) (.inl rfl) (.inr ⟨by decide +kernel, by decide +kernel, rfl⟩) (.inr rfl)
def ti75 : TI := { agg := true, kin := 0, siz := 5, fld := [(0, 1, false), (1, 1, false), (2, 1, false), (3, 1, false), (4, 1, false)], zer := some [.d (.str ⟨#[]⟩), .d (.str ⟨#[]⟩), .d (.str ⟨#[]⟩), .d (.int .i64 0), .e0], str := true, byt := some 4096 }
theorem tk75 : TIok Tryd.prog 75 ti75 := .of (by kernel_rfl) (by kernel_rfl) (by kernel_rfl) (.inl rfl) (by kernel_rfl) (.inr (by kernel_rfl)) (.inl rfl) (.inr (by kernel_rfl)) (.inl rfl) (.inr ⟨by decide +kernel, by decide +kernel, rfl⟩) (.inr rfl)
def ti79 : TI := { agg := false, kin := 4, siz := 1, elm := some (75, 5), zer := some [.e0], byt := some 4096 }
theorem tk79 : TIok Tryd.prog 79 ti79 := .of (by kernel_rfl) (by kernel_rfl) (by kernel_rfl) (.inr (by kernel_rfl)) (by kernel_rfl) (.inr (by kernel_rfl)) (.inl rfl) (.inl rfl) (.inl rfl) (.inr ⟨by decide +kernel, by decide +kernel, rfl⟩) (.inr rfl)
def ti81 : TI := { agg := true, kin := 0, siz := 3, fld := [(0, 1, false), (1, 1, false), (2, 1, false)], zer := some [.d (.str ⟨#[]⟩), .e0, .e0], str := true, byt := some 4096 }
theorem tk81 : TIok Tryd.prog 81 ti81 := .of (by kernel_rfl) (by kernel_rfl) (by kernel_rfl) (.inl rfl) (by kernel_rfl) (.inr (by kernel_rfl)) (.inl rfl) (.inr (by kernel_rfl)) (.inl rfl) (.inr ⟨by decide +kernel, by decide +kernel, rfl⟩) (.inr rfl)
def ti91 : TI := { agg := true, kin := 0, siz := 8, fld := [(0, 1, false), (1, 7, true)], zer := some [.d (.str ⟨#[]⟩), .d (.int .i64 0), .d (.int .u64 0), .d (.str ⟨#[]⟩), .e0, .e0, .e0, .e0], str := true, byt := some 4096 }
theorem tk91 : TIok Tryd.prog 91 ti91 := .of (by kernel_rfl) (by kernel_rfl) (by kernel_rfl) (.inl rfl) (by kernel_rfl) (.inr (by kernel_rfl)) (.inl rfl) (.inr (by kernel_rfl)) (.inl rfl) (.inr ⟨by decide +kernel, by decide +kernel, rfl⟩) (.inr rfl)
def ti93 : TI := { agg := false, kin := 0, siz := 1, zer := some [.p .nilFunc] }
theorem tk93 : TIok Tryd.prog 93 ti93 := .of (by kernel_rfl) (by kernel_rfl) (by kernel_rfl) (.inl rfl) (by kernel_rfl) (.inr (by kernel_rfl)) (.inl rfl) (.inl rfl) (.inl rfl) (.inl rfl) (.inr rfl)
def ti96 : TI := { agg := false, kin := 0, siz := 1, zer := some [.p .nilFunc] }
theorem tk96 : TIok Tryd.prog 96 ti96 := .of (by kernel_rfl) (by kernel_rfl) (by kernel_rfl) (.inl rfl) (by kernel_rfl) (.inr (by kernel_rfl)) (.inl rfl) (.inl rfl) (.inl rfl) (.inl rfl) (.inr rfl)
def ti100 : TI := { agg := false, kin := 0, siz := 1, zer := some [.p .nilFunc] }
theorem tk100 : TIok Tryd.prog 100 ti100 := .of (by kernel_rfl) (by kernel_rfl) (by kernel_rfl) (.inl rfl) (by kernel_rfl) (.inr (by kernel_rfl)) (.inl rfl) (.inl rfl) (.inl rfl) (.inl rfl) (.inr rfl)
def ti102 : TI := { agg := false, kin := 0, siz := 1, zer := some [.p .nilFunc] }
theorem tk102 : TIok Tryd.prog 102 ti102 := .of (by kernel_rfl) (by kernel_rfl) (by kernel_rfl) (.inl rfl) (by kernel_rfl) (.inr (by kernel_rfl)) (.inl rfl) (.inl rfl) (.inl rfl) (.inl rfl) (.inr rfl)
def ti107 : TI := { agg := false, kin := 0, siz := 1, zer := some [.p .nilFunc] }
theorem tk107 : TIok Tryd.prog 107 ti107 := .of (by kernel_rfl) (by kernel_rfl) (by kernel_rfl) (.inl rfl) (by kernel_rfl) (.inr (by kernel_rfl)) (.inl rfl) (.inl rfl) (.inl rfl) (.inl rfl) (.inr rfl)
def ti109 : TI := { agg := false, kin := 0, siz := 1, zer := some [.p .nilFunc] }
theorem tk109 : TIok Tryd.prog 109 ti109 := .of (by kernel_rfl) (by kernel_rfl) (by kernel_rfl) (.inl rfl) (by kernel_rfl) (.inr (by kernel_rfl)) (.inl rfl) (.inl rfl) (.inl rfl) (.inl rfl) (.inr rfl)
def ti111 : TI := { agg := false, kin := 0, siz := 1, zer := some [.p .nilFunc] }
theorem tk111 : TIok Tryd.prog 111 ti111 := .of (by kernel_rfl) (by kernel_rfl) (by kernel_rfl) (.inl rfl) (by kernel_rfl) (.inr (by kernel_rfl)) (.inl rfl) (.inl rfl) (.inl rfl) (.inl rfl) (.inr rfl)
def ti119 : TI := { agg := true, kin := 0, siz := 2, fld := [(0, 1, false), (1, 1, false)], zer := some [.d (.int .i64 0), .d (.int .i64 0)], eqt := some [3, 3], str := true, byt := some 4096 }
theorem tk119 : TIok Tryd.prog 119 ti119 := .of (by kernel_rfl) (by kernel_rfl) (by kernel_rfl) (.inl rfl) (by kernel_rfl) (.inr (by kernel_rfl)) (.inr (by kernel_rfl)) (.inr (by kernel_rfl)) (.inl rfl) (.inr ⟨by decide +kernel, by decide +kernel, rfl⟩) (.inr rfl)
def ti121 : TI := { agg := false, kin := 0, siz := 1, zer := some [.p .nilFunc] }
theorem tk121 : TIok Tryd.prog 121 ti121 := .of (by kernel_rfl) (by kernel_rfl) (by kernel_rfl) (.inl rfl) (by kernel_rfl) (.inr (by kernel_rfl)) (.inl rfl) (.inl rfl) (.inl rfl) (.inl rfl) (.inr rfl)
def ti124 : TI := { agg := false, kin := 3, siz := 1, zer := some [.d (.int .u64 0)], ik := some .u64, byt := some 4096 }
theorem tk124 : TIok Tryd.prog 124 ti124 := .of (by kernel_rfl) (by kernel_rfl) (by kernel_rfl) (.inl rfl) (by kernel_rfl) (.inr (by kernel_rfl)) (.inl rfl) (.inl rfl) (.inr (by kernel_rfl)) (.inr ⟨by decide +kernel, by decide +kernel, rfl⟩) (.inr rfl)
def ti129 : TI := { agg := false, kin := 3, siz := 1, zer := some [.d (.int .i64 0)], ik := some .i64, byt := some 4096 }
theorem tk129 : TIok Tryd.prog 129 ti129 := .of (by kernel_rfl) (by kernel_rfl) (by kernel_rfl) (.inl rfl) (by kernel_rfl) (.inr (by kernel_rfl)) (.inl rfl) (.inl rfl) (.inr (by kernel_rfl)) (.inr ⟨by decide +kernel, by decide +kernel, rfl⟩) (.inr rfl)
def ti138 : TI := { agg := false, kin := 3, siz := 1, zer := some [.d (.int .u32 0)], ik := some .u32, byt := some 4096 }
theorem tk138 : TIok Tryd.prog 138 ti138 := .of (by kernel_rfl) (by kernel_rfl) (by kernel_rfl) (.inl rfl) (by kernel_rfl) (.inr (by kernel_rfl)) (.inl rfl) (.inl rfl) (.inr (by kernel_rfl)) (.inr ⟨by decide +kernel, by decide +kernel, rfl⟩) (.inr rfl)
def ti145 : TI := { agg := false, kin := 0, siz := 1, zer := some [.p .nilFunc] }
theorem tk145 : TIok Tryd.prog 145 ti145 := .of (by kernel_rfl) (by kernel_rfl) (by kernel_rfl) (.inl rfl) (by kernel_rfl) (.inr (by kernel_rfl)) (.inl rfl) (.inl rfl) (.inl rfl) (.inl rfl) (.inr rfl)
def ti147 : TI := { agg := false, kin := 3, siz := 1, zer := some [.d (.int .u64 0)], ik := some .u64, byt := some 4096 }
theorem tk147 : TIok Tryd.prog 147 ti147 := .of (by kernel_rfl) (by kernel_rfl) (by kernel_rfl) (.inl rfl) (by kernel_rfl) (.inr (by kernel_rfl)) (.inl rfl) (.inl rfl) (.inr (by kernel_rfl)) (.inr ⟨by decide +kernel, by decide +kernel, rfl⟩) (.inr rfl)
def ti151 : TI := { agg := false, kin := 0, siz := 1, zer := some [.p (.pointer none)] }
theorem tk151 : TIok Tryd.prog 151 ti151 := .of (by kernel_rfl) (by kernel_rfl) (by kernel_rfl) (.inl rfl) (by kernel_rfl) (.inr (by kernel_rfl)) (.inl rfl) (.inl rfl) (.inl rfl) (.inl rfl) (.inr rfl)
def ti155 : TI := { agg := false, kin := 0, siz := 1, zer := some [.p (.pointer none)] }
theorem tk155 : TIok Tryd.prog 155 ti155 := .of (by kernel_rfl) (by kernel_rfl) (by kernel_rfl) (.inl rfl) (by kernel_rfl) (.inr (by kernel_rfl)) (.inl rfl) (.inl rfl) (.inl rfl) (.inl rfl) (.inr rfl)
def ti158 : TI := { agg := true, kin := 0, siz := 256, byt := some 4096 }
theorem tk158 : TIok Tryd.prog 158 ti158 := .of (by kernel_rfl) (by kernel_rfl) (by kernel_rfl) (.inl rfl) (by kernel_rfl) (.inl rfl) (.inl rfl) (.inl rfl) (.inl rfl) (.inr ⟨by decide +kernel, by decide +kernel, rfl⟩) (.inl rfl)
def ti160 : TI := { agg := true, kin := 0, siz := 2, fld := [(0, 1, false), (1, 1, false)], zer := some [.d (.int .u8 0), .d (.int .u8 0)], eqt := some [3, 3], str := true, byt := some 4096 }
theorem tk160 : TIok Tryd.prog 160 ti160 := .of (by kernel_rfl) (by kernel_rfl) (by kernel_rfl) (.inl rfl) (by kernel_rfl) (.inr (by kernel_rfl)) (.inr (by kernel_rfl)) (.inr (by kernel_rfl)) (.inl rfl) (.inr ⟨by decide +kernel, by decide +kernel, rfl⟩) (.inr rfl)
def ti161 : TI := { agg := true, kin := 0, siz := 32, zer := some [.d (.int .u8 0), .d (.int .u8 0), .d (.int .u8 0), .d (.int .u8 0), .d (.int .u8 0), .d (.int .u8 0), .d (.int .u8 0), .d (.int .u8 0), .d (.int .u8 0), .d (.int .u8 0), .d (.int .u8 0), .d (.int .u8 0), .d (.int .u8 0), .d (.int .u8 0), .d (.int .u8 0), .d (.int .u8 0), .d (.int .u8 0), .d (.int .u8 0), .d (.int .u8 0), .d (.int .u8 0), .d (.int .u8 0), .d (.int .u8 0), .d (.int .u8 0), .d (.int .u8 0), .d (.int .u8 0), .d (.int .u8 0), .d (.int .u8 0), .d (.int .u8 0), .d (.int .u8 0), .d (.int .u8 0), .d (.int .u8 0), .d (.int .u8 0)], byt := some 4096 }
theorem tk161 : TIok Tryd.prog 161 ti161 := .of (by kernel_rfl) (by kernel_rfl) (by kernel_rfl) (.inl rfl) (by kernel_rfl) (.inr (by kernel_rfl)) (.inl rfl) (.inl rfl) (.inl rfl) (.inr ⟨by decide +kernel, by decide +kernel, rfl⟩) (.inr rfl)
def ti178 : TI := { agg := true, kin := 0, siz := 14, fld := [(0, 7, true), (7, 7, true)], zer := some [.d (.int .i64 0), .d (.int .u64 0), .d (.str ⟨#[]⟩), .e0, .e0, .e0, .e0, .d (.int .i64 0), .d (.int .u64 0), .d (.str ⟨#[]⟩), .e0, .e0, .e0, .e0], str := true, byt := some 4096 }
theorem tk178 : TIok Tryd.prog 178 ti178 := .of (by kernel_rfl) (by kernel_rfl) (by kernel_rfl) (.inl rfl) (by kernel_rfl) (.inr (by kernel_rfl)) (.inl rfl) (.inr (by kernel_rfl)) (.inl rfl) (.inr ⟨by decide +kernel, by decide +kernel, rfl⟩) (.inr rfl)
def ti180 : TI := { agg := true, kin := 0, siz := 8, fld := [(0, 1, false), (1, 7, true)], zer := some [.d (.int .i64 0), .d (.int .i64 0), .d (.int .u64 0), .d (.str ⟨#[]⟩), .e0, .e0, .e0, .e0], str := true, byt := some 4096 }
theorem tk180 : TIok Tryd.prog 180 ti180 := .of (by kernel_rfl) (by kernel_rfl) (by kernel_rfl) (.inl rfl) (by kernel_rfl) (.inr (by kernel_rfl)) (.inl rfl) (.inr (by kernel_rfl)) (.inl rfl) (.inr ⟨by decide +kernel, by decide +kernel, rfl⟩) (.inr rfl)
def ti182 : TI := { agg := true, kin := 0, siz := 4, fld := [(0, 1, false), (1, 1, false), (2, 1, false), (3, 1, false)], zer := some [.d (.int .i64 0), .d (.int .i64 0), .d (.int .u64 0), .d (.str ⟨#[]⟩)], eqt := some [3, 3, 3, 2], str := true, byt := some 4096 }
theorem tk182 : TIok Tryd.prog 182 ti182 := .of (by kernel_rfl) (by kernel_rfl) (by kernel_rfl) (.inl rfl) (by kernel_rfl) (.inr (by kernel_rfl)) (.inr (by kernel_rfl)) (.inr (by kernel_rfl)) (.inl rfl) (.inr ⟨by decide +kernel, by decide +kernel, rfl⟩) (.inr rfl)
def tl : List (Nat × TI) := [(3, ti3), (4, ti4), (5, ti5), (9, ti9), (21, ti21), (22, ti22), (23, ti23), (24, ti24), (26, ti26), (27, ti27), (28, ti28), (35, ti35), (36, ti36), (37, ti37), (38, ti38), (39, ti39), (40, ti40), (42, ti42), (43, ti43), (45, ti45), (47, ti47), (48, ti48), (50, ti50), (52, ti52), (58, ti58), (60, ti60), (75, ti75), (79, ti79), (81, ti81), (91, ti91), (93, ti93), (96, ti96), (100, ti100), (102, ti102), (107, ti107), (109, ti109), (111, ti111), (119, ti119), (121, ti121), (124, ti124), (129, ti129), (138, ti138), (145, ti145), (147, ti147), (151, ti151), (155, ti155), (158, ti158), (160, ti160), (161, ti161), (178, ti178), (180, ti180), (182, ti182)]
theorem tok : TOk Tryd.prog (lkT tl) := TOk_of tl (by
  intro p hp
  simp only [tl, List.mem_cons, List.not_mem_nil, or_false] at hp
  rcases hp with rfl | rfl | rfl | rfl | rfl | rfl | rfl | rfl | rfl | rfl | rfl | rfl | rfl | rfl | rfl | rfl | rfl | rfl | rfl | rfl | rfl | rfl | rfl | rfl | rfl | rfl | rfl | rfl | rfl | rfl | rfl | rfl | rfl | rfl | rfl | rfl | rfl | rfl | rfl | rfl | rfl | rfl | rfl | rfl | rfl | rfl | rfl | rfl | rfl | rfl | rfl | rfl
  · exact tk3
  · exact tk4
  · exact tk5
  · exact tk9
  · exact tk21
  · exact tk22
  · exact tk23
  · exact tk24
  · exact tk26
  · exact tk27
  · exact tk28
  · exact tk35
  · exact tk36
  · exact tk37
  · exact tk38
  · exact tk39
  · exact tk40
  · exact tk42
  · exact tk43
  · exact tk45
  · exact tk47
  · exact tk48
  · exact tk50
  · exact tk52
  · exact tk58
  · exact tk60
  · exact tk75
  · exact tk79
  · exact tk81
  · exact tk91
  · exact tk93
  · exact tk96
  · exact tk100
  · exact tk102
  · exact tk107
  · exact tk109
  · exact tk111
  · exact tk119
  · exact tk121
  · exact tk124
  · exact tk129
  · exact tk138
  · exact tk145
  · exact tk147
  · exact tk151
  · exact tk155
  · exact tk158
  · exact tk160
  · exact tk161
  · exact tk178
  · exact tk180
  · exact tk182)
theorem tmo : Tryd.prog.follows .mixedOrders = true := by kernel_rfl
end Go.Proofs.YtdiibhcdfmeagaaDoor
