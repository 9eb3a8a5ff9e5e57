/-
  The table of the types that the functions of this seat name, and that it is right; by program (tab.py).
-/
import Derived.Test.YtlklmhcadhojoaaProg
import Derived.Test.YtlklmhcadhojoaaEngZ
namespace Go.Proofs.Ytlklmhcadhojoaa
open Go Go.Eng
def ti3 : TI := { agg := false, kin := 3, siz := 1, zer := some [.d (.int .i64 0)], ik := some .i64, byt := some 4096 }
theorem tk3 : TIok Try.prog 3 ti3 := .of (by kernel_rfl) (by kernel_rfl) (by kernel_rfl) (.inl rfl) (by kernel_rfl) (.inr (by kernel_rfl)) (.inl rfl) (.inl rfl) (.inr (by kernel_rfl)) (.inr ⟨by decide +kernel, by decide +kernel, rfl⟩) (.inr rfl)
def ti4 : TI := { agg := false, kin := 1, siz := 1, zer := some [.d (.bool false)], byt := some 4096 }
theorem tk4 : TIok Try.prog 4 ti4 := .of (by kernel_rfl) (by kernel_rfl) (by kernel_rfl) (.inl rfl) (by kernel_rfl) (.inr (by kernel_rfl)) (.inl rfl) (.inl rfl) (.inl rfl) (.inr ⟨by decide +kernel, by decide +kernel, rfl⟩) (.inr rfl)
def ti9 : TI := { agg := false, kin := 2, siz := 1, zer := some [.d (.str ⟨#[]⟩)], byt := some 4096 }
theorem tk9 : TIok Try.prog 9 ti9 := .of (by kernel_rfl) (by kernel_rfl) (by kernel_rfl) (.inl rfl) (by kernel_rfl) (.inr (by kernel_rfl)) (.inl rfl) (.inl rfl) (.inl rfl) (.inr ⟨by decide +kernel, by decide +kernel, rfl⟩) (.inr rfl)
def ti20 : TI := { agg := false, kin := 0, siz := 1, zer := some [.p .nilIface] }
theorem tk20 : TIok Try.prog 20 ti20 := .of (by kernel_rfl) (by kernel_rfl) (by kernel_rfl) (.inl rfl) (by kernel_rfl) (.inr (by kernel_rfl)) (.inl rfl) (.inl rfl) (.inl rfl) (.inl rfl) (.inr rfl)
def ti22 : TI := { agg := false, kin := 4, siz := 1, elm := some (27, 4), zer := some [.e0], byt := some 4096 }
theorem tk22 : TIok Try.prog 22 ti22 := .of (by kernel_rfl) (by kernel_rfl) (by kernel_rfl) (.inr (by kernel_rfl)) (by kernel_rfl) (.inr (by kernel_rfl)) (.inl rfl) (.inl rfl) (.inl rfl) (.inr ⟨by decide +kernel, by decide +kernel, rfl⟩) (.inr rfl)
def ti25 : TI := { agg := false, kin := 3, siz := 1, zer := some [.d (.int .u64 0)], ik := some .u64, byt := some 4096 }
theorem tk25 : TIok Try.prog 25 ti25 := .of (by kernel_rfl) (by kernel_rfl) (by kernel_rfl) (.inl rfl) (by kernel_rfl) (.inr (by kernel_rfl)) (.inl rfl) (.inl rfl) (.inr (by kernel_rfl)) (.inr ⟨by decide +kernel, by decide +kernel, rfl⟩) (.inr rfl)
def ti27 : TI := { agg := true, kin := 0, siz := 4, fld := [(0, 1, false), (1, 1, false), (2, 1, false), (3, 1, false)], zer := some [.d (.int .i64 0), .d (.int .i64 0), .d (.int .u64 0), .d (.str ⟨#[]⟩)], eqt := some [3, 3, 3, 2], str := true, byt := some 4096 }
theorem tk27 : TIok Try.prog 27 ti27 := .of (by kernel_rfl) (by kernel_rfl) (by kernel_rfl) (.inl rfl) (by kernel_rfl) (.inr (by kernel_rfl)) (.inr (by kernel_rfl)) (.inr (by kernel_rfl)) (.inl rfl) (.inr ⟨by decide +kernel, by decide +kernel, rfl⟩) (.inr rfl)
def ti30 : TI := { agg := true, kin := 0, siz := 2, fld := [(0, 1, false), (1, 1, false)], zer := some [.d (.int .i64 0), .d (.str ⟨#[]⟩)], eqt := some [3, 2], str := true, byt := some 4096 }
theorem tk30 : TIok Try.prog 30 ti30 := .of (by kernel_rfl) (by kernel_rfl) (by kernel_rfl) (.inl rfl) (by kernel_rfl) (.inr (by kernel_rfl)) (.inr (by kernel_rfl)) (.inr (by kernel_rfl)) (.inl rfl) (.inr ⟨by decide +kernel, by decide +kernel, rfl⟩) (.inr rfl)
def ti31 : TI := { agg := false, kin := 4, siz := 1, elm := some (35, 7), zer := some [.e0], byt := some 4096 }
theorem tk31 : TIok Try.prog 31 ti31 := .of (by kernel_rfl) (by kernel_rfl) (by kernel_rfl) (.inr (by kernel_rfl)) (by kernel_rfl) (.inr (by kernel_rfl)) (.inl rfl) (.inl rfl) (.inl rfl) (.inr ⟨by decide +kernel, by decide +kernel, rfl⟩) (.inr rfl)
def ti32 : TI := { agg := false, kin := 4, siz := 1, elm := some (83, 14), zer := some [.e0], byt := some 4096 }
theorem tk32 : TIok Try.prog 32 ti32 := .of (by kernel_rfl) (by kernel_rfl) (by kernel_rfl) (.inr (by kernel_rfl)) (by kernel_rfl) (.inr (by kernel_rfl)) (.inl rfl) (.inl rfl) (.inl rfl) (.inr ⟨by decide +kernel, by decide +kernel, rfl⟩) (.inr rfl)
def ti33 : TI := { agg := false, kin := 4, siz := 1, elm := some (50, 8), zer := some [.e0], byt := some 4096 }
theorem tk33 : TIok Try.prog 33 ti33 := .of (by kernel_rfl) (by kernel_rfl) (by kernel_rfl) (.inr (by kernel_rfl)) (by kernel_rfl) (.inr (by kernel_rfl)) (.inl rfl) (.inl rfl) (.inl rfl) (.inr ⟨by decide +kernel, by decide +kernel, rfl⟩) (.inr rfl)
def ti35 : TI := { agg := true, kin := 0, siz := 7, fld := [(0, 1, false), (1, 1, false), (2, 1, false), (3, 1, false), (4, 1, false), (5, 1, false), (6, 1, false)], zer := some [.d (.int .i64 0), .d (.int .u64 0), .d (.str ⟨#[]⟩), .e0, .e0, .e0, .e0], str := true, byt := some 4096 }
theorem tk35 : TIok Try.prog 35 ti35 := .of (by kernel_rfl) (by kernel_rfl) (by kernel_rfl) (.inl rfl) (by kernel_rfl) (.inr (by kernel_rfl)) (.inl rfl) (.inr (by kernel_rfl)) (.inl rfl) (.inr ⟨by decide +kernel, by decide +kernel, rfl⟩) (.inr rfl)
def ti36 : TI := { agg := false, kin := 4, siz := 1, elm := some (139, 8), zer := some [.e0], byt := some 4096 }
theorem tk36 : TIok Try.prog 36 ti36 := .of (by kernel_rfl) (by kernel_rfl) (by kernel_rfl) (.inr (by kernel_rfl)) (by kernel_rfl) (.inr (by kernel_rfl)) (.inl rfl) (.inl rfl) (.inl rfl) (.inr ⟨by decide +kernel, by decide +kernel, rfl⟩) (.inr rfl)
def ti38 : TI := { agg := true, kin := 0, siz := 16, fld := [(0, 1, false), (1, 1, false), (2, 1, false), (3, 1, false), (4, 2, true), (6, 1, false), (7, 1, false), (8, 7, true), (15, 1, false)], zer := some [.d (.int .i64 0), .d (.str ⟨#[]⟩), .d (.int .i64 0), .d (.int .i64 0), .d (.int .i64 0), .d (.str ⟨#[]⟩), .d (.str ⟨#[]⟩), .d (.bool false), .d (.int .i64 0), .d (.int .u64 0), .d (.str ⟨#[]⟩), .e0, .e0, .e0, .e0, .e0], str := true, byt := some 4096 }
theorem tk38 : TIok Try.prog 38 ti38 := .of (by kernel_rfl) (by kernel_rfl) (by kernel_rfl) (.inl rfl) (by kernel_rfl) (.inr (by kernel_rfl)) (.inl rfl) (.inr (by kernel_rfl)) (.inl rfl) (.inr ⟨by decide +kernel, by decide +kernel, rfl⟩) (.inr rfl)
def ti39 : TI := { agg := false, kin := 4, siz := 1, elm := some (38, 16), zer := some [.e0], byt := some 4096 }
theorem tk39 : TIok Try.prog 39 ti39 := .of (by kernel_rfl) (by kernel_rfl) (by kernel_rfl) (.inr (by kernel_rfl)) (by kernel_rfl) (.inr (by kernel_rfl)) (.inl rfl) (.inl rfl) (.inl rfl) (.inr ⟨by decide +kernel, by decide +kernel, rfl⟩) (.inr rfl)
def ti40 : TI := { agg := false, kin := 4, siz := 1, elm := some (141, 2), zer := some [.e0], byt := some 4096 }
theorem tk40 : TIok Try.prog 40 ti40 := .of (by kernel_rfl) (by kernel_rfl) (by kernel_rfl) (.inr (by kernel_rfl)) (by kernel_rfl) (.inr (by kernel_rfl)) (.inl rfl) (.inl rfl) (.inl rfl) (.inr ⟨by decide +kernel, by decide +kernel, rfl⟩) (.inr rfl)
def ti41 : TI := { agg := false, kin := 4, siz := 1, elm := some (9, 1), zer := some [.e0], byt := some 4096 }
theorem tk41 : TIok Try.prog 41 ti41 := .of (by kernel_rfl) (by kernel_rfl) (by kernel_rfl) (.inr (by kernel_rfl)) (by kernel_rfl) (.inr (by kernel_rfl)) (.inl rfl) (.inl rfl) (.inl rfl) (.inr ⟨by decide +kernel, by decide +kernel, rfl⟩) (.inr rfl)
def ti43 : TI := { agg := true, kin := 0, siz := 5, fld := [(0, 1, false), (1, 1, false), (2, 1, false), (3, 1, false), (4, 1, false)], zer := some [.d (.str ⟨#[]⟩), .e0, .e0, .e0, .e0], str := true, byt := some 4096 }
theorem tk43 : TIok Try.prog 43 ti43 := .of (by kernel_rfl) (by kernel_rfl) (by kernel_rfl) (.inl rfl) (by kernel_rfl) (.inr (by kernel_rfl)) (.inl rfl) (.inr (by kernel_rfl)) (.inl rfl) (.inr ⟨by decide +kernel, by decide +kernel, rfl⟩) (.inr rfl)
def ti44 : TI := { agg := false, kin := 4, siz := 1, elm := some (43, 5), zer := some [.e0], byt := some 4096 }
theorem tk44 : TIok Try.prog 44 ti44 := .of (by kernel_rfl) (by kernel_rfl) (by kernel_rfl) (.inr (by kernel_rfl)) (by kernel_rfl) (.inr (by kernel_rfl)) (.inl rfl) (.inl rfl) (.inl rfl) (.inr ⟨by decide +kernel, by decide +kernel, rfl⟩) (.inr rfl)
def ti45 : TI := { agg := false, kin := 4, siz := 1, elm := some (144, 5), zer := some [.e0], byt := some 4096 }
theorem tk45 : TIok Try.prog 45 ti45 := .of (by kernel_rfl) (by kernel_rfl) (by kernel_rfl) (.inr (by kernel_rfl)) (by kernel_rfl) (.inr (by kernel_rfl)) (.inl rfl) (.inl rfl) (.inl rfl) (.inr ⟨by decide +kernel, by decide +kernel, rfl⟩) (.inr rfl)
def ti46 : TI := { agg := false, kin := 4, siz := 1, elm := some (147, 3), zer := some [.e0], byt := some 4096 }
theorem tk46 : TIok Try.prog 46 ti46 := .of (by kernel_rfl) (by kernel_rfl) (by kernel_rfl) (.inr (by kernel_rfl)) (by kernel_rfl) (.inr (by kernel_rfl)) (.inl rfl) (.inl rfl) (.inl rfl) (.inr ⟨by decide +kernel, by decide +kernel, rfl⟩) (.inr rfl)
def ti48 : TI := { agg := true, kin := 0, siz := 3, fld := [(0, 1, false), (1, 1, false), (2, 1, false)], zer := some [.e0, .e0, .e0], str := true, byt := some 4096 }
theorem tk48 : TIok Try.prog 48 ti48 := .of (by kernel_rfl) (by kernel_rfl) (by kernel_rfl) (.inl rfl) (by kernel_rfl) (.inr (by kernel_rfl)) (.inl rfl) (.inr (by kernel_rfl)) (.inl rfl) (.inr ⟨by decide +kernel, by decide +kernel, rfl⟩) (.inr rfl)
def ti50 : TI := { agg := true, kin := 0, siz := 8, fld := [(0, 1, false), (1, 7, true)], zer := some [.d (.int .i64 0), .d (.int .i64 0), .d (.int .u64 0), .d (.str ⟨#[]⟩), .e0, .e0, .e0, .e0], str := true, byt := some 4096 }
theorem tk50 : TIok Try.prog 50 ti50 := .of (by kernel_rfl) (by kernel_rfl) (by kernel_rfl) (.inl rfl) (by kernel_rfl) (.inr (by kernel_rfl)) (.inl rfl) (.inr (by kernel_rfl)) (.inl rfl) (.inr ⟨by decide +kernel, by decide +kernel, rfl⟩) (.inr rfl)
def ti55 : TI := { agg := false, kin := 0, siz := 1, zer := some [.p .nilFunc] }
theorem tk55 : TIok Try.prog 55 ti55 := .of (by kernel_rfl) (by kernel_rfl) (by kernel_rfl) (.inl rfl) (by kernel_rfl) (.inr (by kernel_rfl)) (.inl rfl) (.inl rfl) (.inl rfl) (.inl rfl) (.inr rfl)
def ti62 : TI := { agg := false, kin := 0, siz := 1, zer := some [.p .nilFunc] }
theorem tk62 : TIok Try.prog 62 ti62 := .of (by kernel_rfl) (by kernel_rfl) (by kernel_rfl) (.inl rfl) (by kernel_rfl) (.inr (by kernel_rfl)) (.inl rfl) (.inl rfl) (.inl rfl) (.inl rfl) (.inr rfl)
def ti66 : TI := { agg := false, kin := 0, siz := 1, zer := some [.p .nilFunc] }
theorem tk66 : TIok Try.prog 66 ti66 := .of (by kernel_rfl) (by kernel_rfl) (by kernel_rfl) (.inl rfl) (by kernel_rfl) (.inr (by kernel_rfl)) (.inl rfl) (.inl rfl) (.inl rfl) (.inl rfl) (.inr rfl)
def ti67 : TI := { agg := false, kin := 4, siz := 1, elm := some (22, 1), zer := some [.e0], byt := some 4096 }
theorem tk67 : TIok Try.prog 67 ti67 := .of (by kernel_rfl) (by kernel_rfl) (by kernel_rfl) (.inr (by kernel_rfl)) (by kernel_rfl) (.inr (by kernel_rfl)) (.inl rfl) (.inl rfl) (.inl rfl) (.inr ⟨by decide +kernel, by decide +kernel, rfl⟩) (.inr rfl)
def ti72 : TI := { agg := false, kin := 0, siz := 1, zer := some [.p .nilFunc] }
theorem tk72 : TIok Try.prog 72 ti72 := .of (by kernel_rfl) (by kernel_rfl) (by kernel_rfl) (.inl rfl) (by kernel_rfl) (.inr (by kernel_rfl)) (.inl rfl) (.inl rfl) (.inl rfl) (.inl rfl) (.inr rfl)
def ti75 : TI := { agg := false, kin := 0, siz := 1, zer := some [.p .nilFunc] }
theorem tk75 : TIok Try.prog 75 ti75 := .of (by kernel_rfl) (by kernel_rfl) (by kernel_rfl) (.inl rfl) (by kernel_rfl) (.inr (by kernel_rfl)) (.inl rfl) (.inl rfl) (.inl rfl) (.inl rfl) (.inr rfl)
def ti83 : TI := { agg := true, kin := 0, siz := 14, fld := [(0, 7, true), (7, 7, true)], zer := some [.d (.int .i64 0), .d (.int .u64 0), .d (.str ⟨#[]⟩), .e0, .e0, .e0, .e0, .d (.int .i64 0), .d (.int .u64 0), .d (.str ⟨#[]⟩), .e0, .e0, .e0, .e0], str := true, byt := some 4096 }
theorem tk83 : TIok Try.prog 83 ti83 := .of (by kernel_rfl) (by kernel_rfl) (by kernel_rfl) (.inl rfl) (by kernel_rfl) (.inr (by kernel_rfl)) (.inl rfl) (.inr (by kernel_rfl)) (.inl rfl) (.inr ⟨by decide +kernel, by decide +kernel, rfl⟩) (.inr rfl)
def ti90 : TI := { agg := false, kin := 4, siz := 1, elm := some (31, 1), zer := some [.e0], byt := some 4096 }
theorem tk90 : TIok Try.prog 90 ti90 := .of (by kernel_rfl) (by kernel_rfl) (by kernel_rfl) (.inr (by kernel_rfl)) (by kernel_rfl) (.inr (by kernel_rfl)) (.inl rfl) (.inl rfl) (.inl rfl) (.inr ⟨by decide +kernel, by decide +kernel, rfl⟩) (.inr rfl)
def ti93 : TI := { agg := false, kin := 0, siz := 1, zer := some [.p .nilFunc] }
theorem tk93 : TIok Try.prog 93 ti93 := .of (by kernel_rfl) (by kernel_rfl) (by kernel_rfl) (.inl rfl) (by kernel_rfl) (.inr (by kernel_rfl)) (.inl rfl) (.inl rfl) (.inl rfl) (.inl rfl) (.inr rfl)
def ti94 : TI := { agg := false, kin := 0, siz := 1, zer := some [.p .nilFunc] }
theorem tk94 : TIok Try.prog 94 ti94 := .of (by kernel_rfl) (by kernel_rfl) (by kernel_rfl) (.inl rfl) (by kernel_rfl) (.inr (by kernel_rfl)) (.inl rfl) (.inl rfl) (.inl rfl) (.inl rfl) (.inr rfl)
def ti96 : TI := { agg := false, kin := 4, siz := 1, elm := some (32, 1), zer := some [.e0], byt := some 4096 }
theorem tk96 : TIok Try.prog 96 ti96 := .of (by kernel_rfl) (by kernel_rfl) (by kernel_rfl) (.inr (by kernel_rfl)) (by kernel_rfl) (.inr (by kernel_rfl)) (.inl rfl) (.inl rfl) (.inl rfl) (.inr ⟨by decide +kernel, by decide +kernel, rfl⟩) (.inr rfl)
def ti100 : TI := { agg := false, kin := 3, siz := 1, zer := some [.d (.int .u64 0)], ik := some .u64, byt := some 4096 }
theorem tk100 : TIok Try.prog 100 ti100 := .of (by kernel_rfl) (by kernel_rfl) (by kernel_rfl) (.inl rfl) (by kernel_rfl) (.inr (by kernel_rfl)) (.inl rfl) (.inl rfl) (.inr (by kernel_rfl)) (.inr ⟨by decide +kernel, by decide +kernel, rfl⟩) (.inr rfl)
def ti103 : TI := { agg := true, kin := 0, siz := 7, fld := [(0, 1, false), (1, 1, false), (2, 1, false), (3, 1, false), (4, 1, false), (5, 1, false), (6, 1, false)], zer := some [.d (.int .i64 0), .d (.int .u64 0), .d (.str ⟨#[]⟩), .e0, .e0, .e0, .e0], str := true, byt := some 4096 }
theorem tk103 : TIok Try.prog 103 ti103 := .of (by kernel_rfl) (by kernel_rfl) (by kernel_rfl) (.inl rfl) (by kernel_rfl) (.inr (by kernel_rfl)) (.inl rfl) (.inr (by kernel_rfl)) (.inl rfl) (.inr ⟨by decide +kernel, by decide +kernel, rfl⟩) (.inr rfl)
def ti104 : TI := { agg := false, kin := 4, siz := 1, elm := some (35, 7), zer := some [.e0], byt := some 4096 }
theorem tk104 : TIok Try.prog 104 ti104 := .of (by kernel_rfl) (by kernel_rfl) (by kernel_rfl) (.inr (by kernel_rfl)) (by kernel_rfl) (.inr (by kernel_rfl)) (.inl rfl) (.inl rfl) (.inl rfl) (.inr ⟨by decide +kernel, by decide +kernel, rfl⟩) (.inr rfl)
def ti106 : TI := { agg := false, kin := 4, siz := 1, elm := some (83, 14), zer := some [.e0], byt := some 4096 }
theorem tk106 : TIok Try.prog 106 ti106 := .of (by kernel_rfl) (by kernel_rfl) (by kernel_rfl) (.inr (by kernel_rfl)) (by kernel_rfl) (.inr (by kernel_rfl)) (.inl rfl) (.inl rfl) (.inl rfl) (.inr ⟨by decide +kernel, by decide +kernel, rfl⟩) (.inr rfl)
def ti109 : TI := { agg := true, kin := 0, siz := 2, fld := [(0, 1, false), (1, 1, false)], zer := some [.e0, .e0], str := true, byt := some 4096 }
theorem tk109 : TIok Try.prog 109 ti109 := .of (by kernel_rfl) (by kernel_rfl) (by kernel_rfl) (.inl rfl) (by kernel_rfl) (.inr (by kernel_rfl)) (.inl rfl) (.inr (by kernel_rfl)) (.inl rfl) (.inr ⟨by decide +kernel, by decide +kernel, rfl⟩) (.inr rfl)
def ti118 : TI := { agg := false, kin := 4, siz := 1, elm := some (3, 1), zer := some [.e0], byt := some 4096 }
theorem tk118 : TIok Try.prog 118 ti118 := .of (by kernel_rfl) (by kernel_rfl) (by kernel_rfl) (.inr (by kernel_rfl)) (by kernel_rfl) (.inr (by kernel_rfl)) (.inl rfl) (.inl rfl) (.inl rfl) (.inr ⟨by decide +kernel, by decide +kernel, rfl⟩) (.inr rfl)
def ti139 : TI := { agg := true, kin := 0, siz := 8, fld := [(0, 1, false), (1, 7, true)], zer := some [.d (.str ⟨#[]⟩), .d (.int .i64 0), .d (.int .u64 0), .d (.str ⟨#[]⟩), .e0, .e0, .e0, .e0], str := true, byt := some 4096 }
theorem tk139 : TIok Try.prog 139 ti139 := .of (by kernel_rfl) (by kernel_rfl) (by kernel_rfl) (.inl rfl) (by kernel_rfl) (.inr (by kernel_rfl)) (.inl rfl) (.inr (by kernel_rfl)) (.inl rfl) (.inr ⟨by decide +kernel, by decide +kernel, rfl⟩) (.inr rfl)
def ti141 : TI := { agg := true, kin := 0, siz := 2, fld := [(0, 1, false), (1, 1, false)], zer := some [.d (.int .i64 0), .d (.int .i64 0)], eqt := some [3, 3], str := true, byt := some 4096 }
theorem tk141 : TIok Try.prog 141 ti141 := .of (by kernel_rfl) (by kernel_rfl) (by kernel_rfl) (.inl rfl) (by kernel_rfl) (.inr (by kernel_rfl)) (.inr (by kernel_rfl)) (.inr (by kernel_rfl)) (.inl rfl) (.inr ⟨by decide +kernel, by decide +kernel, rfl⟩) (.inr rfl)
def ti142 : TI := { agg := false, kin := 4, siz := 1, elm := some (150, 3), zer := some [.e0], byt := some 4096 }
theorem tk142 : TIok Try.prog 142 ti142 := .of (by kernel_rfl) (by kernel_rfl) (by kernel_rfl) (.inr (by kernel_rfl)) (by kernel_rfl) (.inr (by kernel_rfl)) (.inl rfl) (.inl rfl) (.inl rfl) (.inr ⟨by decide +kernel, by decide +kernel, rfl⟩) (.inr rfl)
def ti144 : TI := { agg := true, kin := 0, siz := 5, fld := [(0, 1, false), (1, 1, false), (2, 1, false), (3, 1, false), (4, 1, false)], zer := some [.d (.str ⟨#[]⟩), .d (.bool false), .e0, .e0, .e0], str := true, byt := some 4096 }
theorem tk144 : TIok Try.prog 144 ti144 := .of (by kernel_rfl) (by kernel_rfl) (by kernel_rfl) (.inl rfl) (by kernel_rfl) (.inr (by kernel_rfl)) (.inl rfl) (.inr (by kernel_rfl)) (.inl rfl) (.inr ⟨by decide +kernel, by decide +kernel, rfl⟩) (.inr rfl)
def ti145 : TI := { agg := false, kin := 4, siz := 1, elm := some (152, 5), zer := some [.e0], byt := some 4096 }
theorem tk145 : TIok Try.prog 145 ti145 := .of (by kernel_rfl) (by kernel_rfl) (by kernel_rfl) (.inr (by kernel_rfl)) (by kernel_rfl) (.inr (by kernel_rfl)) (.inl rfl) (.inl rfl) (.inl rfl) (.inr ⟨by decide +kernel, by decide +kernel, rfl⟩) (.inr rfl)
def ti147 : TI := { agg := true, kin := 0, siz := 3, fld := [(0, 1, false), (1, 1, false), (2, 1, false)], zer := some [.d (.str ⟨#[]⟩), .e0, .e0], str := true, byt := some 4096 }
theorem tk147 : TIok Try.prog 147 ti147 := .of (by kernel_rfl) (by kernel_rfl) (by kernel_rfl) (.inl rfl) (by kernel_rfl) (.inr (by kernel_rfl)) (.inl rfl) (.inr (by kernel_rfl)) (.inl rfl) (.inr ⟨by decide +kernel, by decide +kernel, rfl⟩) (.inr rfl)
def ti150 : TI := { agg := true, kin := 0, siz := 3, fld := [(0, 1, false), (1, 1, false), (2, 1, false)], zer := some [.d (.str ⟨#[]⟩), .d (.int .i64 0), .e0], str := true, byt := some 4096 }
theorem tk150 : TIok Try.prog 150 ti150 := .of (by kernel_rfl) (by kernel_rfl) (by kernel_rfl) (.inl rfl) (by kernel_rfl) (.inr (by kernel_rfl)) (.inl rfl) (.inr (by kernel_rfl)) (.inl rfl) (.inr ⟨by decide +kernel, by decide +kernel, rfl⟩) (.inr rfl)
def ti152 : TI := { agg := true, kin := 0, siz := 5, fld := [(0, 1, false), (1, 1, false), (2, 1, false), (3, 1, false), (4, 1, false)], zer := some [.d (.str ⟨#[]⟩), .d (.str ⟨#[]⟩), .d (.str ⟨#[]⟩), .d (.int .i64 0), .e0], str := true, byt := some 4096 }
theorem tk152 : TIok Try.prog 152 ti152 := .of (by kernel_rfl) (by kernel_rfl) (by kernel_rfl) (.inl rfl) (by kernel_rfl) (.inr (by kernel_rfl)) (.inl rfl) (.inr (by kernel_rfl)) (.inl rfl) (.inr ⟨by decide +kernel, by decide +kernel, rfl⟩) (.inr rfl)
def tl : List (Nat × TI) := [(3, ti3), (4, ti4), (9, ti9), (20, ti20), (22, ti22), (25, ti25), (27, ti27), (30, ti30), (31, ti31), (32, ti32), (33, ti33), (35, ti35), (36, ti36), (38, ti38), (39, ti39), (40, ti40), (41, ti41), (43, ti43), (44, ti44), (45, ti45), (46, ti46), (48, ti48), (50, ti50), (55, ti55), (62, ti62), (66, ti66), (67, ti67), (72, ti72), (75, ti75), (83, ti83), (90, ti90), (93, ti93), (94, ti94), (96, ti96), (100, ti100), (103, ti103), (104, ti104), (106, ti106), (109, ti109), (118, ti118), (139, ti139), (141, ti141), (142, ti142), (144, ti144), (145, ti145), (147, ti147), (150, ti150), (152, ti152)]
theorem tok : TOk Try.prog (lkT tl) := TOk_of tl (by
  intro p hp
  simp only [tl, List.mem_cons, List.not_mem_nil, or_false] at hp
  rcases hp with rfl | rfl | rfl | rfl | rfl | rfl | rfl | rfl | rfl | rfl | rfl | rfl | rfl | rfl | rfl | rfl | rfl | rfl | rfl | rfl | rfl | rfl | rfl | rfl | rfl | rfl | rfl | rfl | rfl | rfl | rfl | rfl | rfl | rfl | rfl | rfl | rfl | rfl | rfl | rfl | rfl | rfl | rfl | rfl | rfl | rfl | rfl | rfl
  · exact tk3
  · exact tk4
  · exact tk9
  · exact tk20
  · exact tk22
  · exact tk25
  · exact tk27
  · exact tk30
  · exact tk31
  · exact tk32
  · exact tk33
  · exact tk35
  · exact tk36
  · exact tk38
  · exact tk39
  · exact tk40
  · exact tk41
  · exact tk43
  · exact tk44
  · exact tk45
  · exact tk46
  · exact tk48
  · exact tk50
  · exact tk55
  · exact tk62
  · exact tk66
  · exact tk67
  · exact tk72
  · exact tk75
  · exact tk83
  · exact tk90
  · exact tk93
  · exact tk94
  · exact tk96
  · exact tk100
  · exact tk103
  · exact tk104
  · exact tk106
  · exact tk109
  · exact tk118
  · exact tk139
  · exact tk141
  · exact tk142
  · exact tk144
  · exact tk145
  · exact tk147
  · exact tk150
  · exact tk152)
theorem tmo : Try.prog.follows .mixedOrders = true := by kernel_rfl
end Go.Proofs.Ytlklmhcadhojoaa
