import Derived.Test.YtpjofefihlbppaaGreatCg16
import Derived.Test.YtpjofefihlbppaaGreatCg15
import Derived.Test.YtpjofefihlbppaaGreatProg
import Derived.Test.YtpjofefihlbppaaGreatCg11
import Derived.Test.YtpjofefihlbppaaGreatCg00
namespace Go.Eng
set_option linter.all false
open Go Go.RowKit
section
variable {P : Program} {l l' : Nat} {H : Hp} {m : Mu} {S : Nat → Prop} {w : World}
inductive Vw (H : Hp) (l : Nat) : AV → D → Prop
 | d (x : D) : Vw H l (.d x) x
 | e0 : Vw H l .e0 (.list [])
 | ref (k : Key) (g n : Nat) (es : List (List D)) (hk : k.1 ≤ l) (hg : (H k).g = g) (hn : es.length = n) (hl : (H k).live = true) (hz : ∀ e ∈ es, e.length = (H k).sz) (hp : (H k).sz ≠ 0) (hc : (H k).cells.length = n * (H k).sz)
   (hr : ∀ (i : Nat) (x : AV) (d : D), (H k).cells[i]? = some x → es.flatten[i]? = some d → Vw H l x d) : Vw H l (.ref k g 0 n) (.list es)
 | mp (k : Key) (g : Nat) (a : Bool) (es : List (List D)) (hk : k.1 ≤ l) (hg : (H k).g = g) (hl : (H k).live = true) (he : (H k).e = .m a es) : Vw H l (.mp k g) (.map a es)
inductive Vx (H : Hp) (l : Nat) : AV → AV → Prop
 | d (x : AV) (d : D) (h : Vw H l x d) : Vx H l x (.d d)
 | ptr (k : Key) (g : Nat) (ds : List D) (hk : k.1 ≤ l) (hg : (H k).g = g) (hl : (H k).live = true) (hne : ds ≠ []) (hc : (H k).cells.length = ds.length) (hr : ∀ (i : Nat) (x : AV) (d : D), (H k).cells[i]? = some x → ds[i]? = some d → Vw H l x d) : Vx H l (.ptr k g 0) (.iptr ds 0)
 | fn (f : Fn) (xs ys : List AV) (hn : xs.length = ys.length) (h : ∀ (i : Nat) (x y : AV), xs[i]? = some x → ys[i]? = some y → Vx H l x y) : Vx H l (.fn f [] xs) (.fn f [] ys)
def Vxs (H : Hp) (l : Nat) : List AV → List AV → Prop
 | [], [] => True
 | x :: xs, y :: ys => Vx H l x y ∧ Vxs H l xs ys
 | _, _ => False
theorem Vxs.at {H : Hp} {l : Nat} : ∀ {xs ys : List AV}, Vxs H l xs ys → xs.length = ys.length ∧ ∀ (i : Nat) (x y : AV), xs[i]? = some x → ys[i]? = some y → Vx H l x y
 | [], [], _ => ⟨rfl, fun i x y h => by simp at h⟩
 | x :: xs, y :: ys, ⟨h1, h2⟩ => ⟨by simp [(Vxs.at h2).1], fun i a b ha hb => by
  cases i with
  | zero => simp at ha hb; subst ha; subst hb; exact h1
  | succ i => simp at ha hb; exact (Vxs.at h2).2 i a b ha hb⟩
 | [], _ :: _, h => h.elim
 | _ :: _, [], h => h.elim
end
def ZHs {γ : Type} [DecidableEq γ] (M : Option (List γ)) : Option γ := M.bind fun ys => match ys with
 | [] => none
 | y :: r => if ∀ z ∈ r, z = y then some y else none
theorem KCN.uniq {P : Program} {f : FuncId} {xs : List AV} {γ : Type} [DecidableEq γ] {M : Option (List γ)} {e : γ → AV} (K : KCN P f xs M e) : KC P f xs (ZHs M) e := K.one _ fun y h => by
 unfold ZHs at h
 cases M with
 | none => cases h
 | some ys =>
  refine ⟨ys, rfl, ?_⟩
  rw [Yr] at h
  split at h
  ·cases h
  ·obtain ⟨h1, h2⟩ := ZaB h
   cases h2
   intro z hz
   rcases Yv.1 hz with rfl | hz
   ·rfl
   ·exact h1 z hz
end Go.Eng
namespace Go.Proofs.YtpjofefihlbppaaGreat
open Go Go.Eng
def ti3 : TI := { agg := false, kin := 3, siz := 1, zer := some [.d (.int .i64 0)], ik := some .i64, byt := some 256 }
theorem tk3 : TIok Tryz.prog 3 ti3 := .of (by kernel_rfl) (by kernel_rfl) (by kernel_rfl) (.inl rfl) (by kernel_rfl) (.inr (by kernel_rfl)) (.inl rfl) (.inl rfl) (.inr (by kernel_rfl)) (.inr ⟨256, by decide +kernel, by decide +kernel, rfl⟩) (.inr rfl)
def ti4 : TI := { agg := false, kin := 1, siz := 1, zer := some [.d (.bool false)], byt := some 256 }
theorem tk4 : TIok Tryz.prog 4 ti4 := .of (by kernel_rfl) (by kernel_rfl) (by kernel_rfl) (.inl rfl) (by kernel_rfl) (.inr (by kernel_rfl)) (.inl rfl) (.inl rfl) (.inl rfl) (.inr ⟨256, by decide +kernel, by decide +kernel, rfl⟩) (.inr rfl)
def ti5 : TI := { agg := false, kin := 3, siz := 1, zer := some [.d (.int .u8 0)], ik := some .u8, byt := some 256 }
theorem tk5 : TIok Tryz.prog 5 ti5 := .of (by kernel_rfl) (by kernel_rfl) (by kernel_rfl) (.inl rfl) (by kernel_rfl) (.inr (by kernel_rfl)) (.inl rfl) (.inl rfl) (.inr (by kernel_rfl)) (.inr ⟨256, by decide +kernel, by decide +kernel, rfl⟩) (.inr rfl)
def ti9 : TI := { agg := false, kin := 2, siz := 1, zer := some [.d (.str ⟨#[]⟩)], byt := some 256 }
theorem tk9 : TIok Tryz.prog 9 ti9 := .of (by kernel_rfl) (by kernel_rfl) (by kernel_rfl) (.inl rfl) (by kernel_rfl) (.inr (by kernel_rfl)) (.inl rfl) (.inl rfl) (.inl rfl) (.inr ⟨256, by decide +kernel, by decide +kernel, rfl⟩) (.inr rfl)
def ZHW : TI := { agg := false, kin := 0, siz := 1, zer := some [.p .nilIface] }
theorem ZJ2 : TIok Tryz.prog 20 ZHW := .of (by kernel_rfl) (by kernel_rfl) (by kernel_rfl) (.inl rfl) (by kernel_rfl) (.inr (by kernel_rfl)) (.inl rfl) (.inl rfl) (.inl rfl) (.inl rfl) (.inr rfl)
def ZIS : TI := { agg := false, kin := 3, siz := 1, zer := some [.d (.int .i32 0)], ik := some .i32, byt := some 256 }
theorem ZKF : TIok Tryz.prog 21 ZIS := .of (by kernel_rfl) (by kernel_rfl) (by kernel_rfl) (.inl rfl) (by kernel_rfl) (.inr (by kernel_rfl)) (.inl rfl) (.inl rfl) (.inr (by kernel_rfl)) (.inr ⟨256, by decide +kernel, by decide +kernel, rfl⟩) (.inr rfl)
def ZIa : TI := { agg := false, kin := 4, siz := 1, elm := some (56, 5), zer := some [.e0], byt := some 256 }
theorem ZLg : TIok Tryz.prog 22 ZIa := .of (by kernel_rfl) (by kernel_rfl) (by kernel_rfl) (.inr (by kernel_rfl)) (by kernel_rfl) (.inr (by kernel_rfl)) (.inl rfl) (.inl rfl) (.inl rfl) (.inr ⟨256, by decide +kernel, by decide +kernel, rfl⟩) (.inr rfl)
def ZIT : TI := { agg := false, kin := 4, siz := 1, elm := some (89, 5), zer := some [.e0], byt := some 256 }
theorem ZKO : TIok Tryz.prog 23 ZIT := .of (by kernel_rfl) (by kernel_rfl) (by kernel_rfl) (.inr (by kernel_rfl)) (by kernel_rfl) (.inr (by kernel_rfl)) (.inl rfl) (.inl rfl) (.inl rfl) (.inr ⟨256, by decide +kernel, by decide +kernel, rfl⟩) (.inr rfl)
def ZIL : TI := { agg := false, kin := 4, siz := 1, elm := some (94, 3), zer := some [.e0], byt := some 256 }
theorem ZJK : TIok Tryz.prog 24 ZIL := .of (by kernel_rfl) (by kernel_rfl) (by kernel_rfl) (.inr (by kernel_rfl)) (by kernel_rfl) (.inr (by kernel_rfl)) (.inl rfl) (.inl rfl) (.inl rfl) (.inr ⟨256, by decide +kernel, by decide +kernel, rfl⟩) (.inr rfl)
def ZIO : TI := { agg := true, kin := 0, siz := 3, fld := [(0, 1, false), (1, 1, false), (2, 1, false)], zer := some [.e0, .e0, .e0], str := true, byt := some 256 }
theorem ZKy : TIok Tryz.prog 26 ZIO := .of (by kernel_rfl) (by kernel_rfl) (by kernel_rfl) (.inl rfl) (by kernel_rfl) (.inr (by kernel_rfl)) (.inl rfl) (.inr (by kernel_rfl)) (.inl rfl) (.inr ⟨256, by decide +kernel, by decide +kernel, rfl⟩) (.inr rfl)
def ZIh : TI := { agg := false, kin := 3, siz := 1, zer := some [.d (.int .u64 0)], ik := some .u64, byt := some 256 }
theorem ZKb : TIok Tryz.prog 27 ZIh := .of (by kernel_rfl) (by kernel_rfl) (by kernel_rfl) (.inl rfl) (by kernel_rfl) (.inr (by kernel_rfl)) (.inl rfl) (.inl rfl) (.inr (by kernel_rfl)) (.inr ⟨256, by decide +kernel, by decide +kernel, rfl⟩) (.inr rfl)
def ZHT : TI := { agg := false, kin := 4, siz := 1, elm := some (33, 7), zer := some [.e0], byt := some 256 }
theorem ZKD : TIok Tryz.prog 28 ZHT := .of (by kernel_rfl) (by kernel_rfl) (by kernel_rfl) (.inr (by kernel_rfl)) (by kernel_rfl) (.inr (by kernel_rfl)) (.inl rfl) (.inl rfl) (.inl rfl) (.inr ⟨256, by decide +kernel, by decide +kernel, rfl⟩) (.inr rfl)
def ZJs : TI := { agg := false, kin := 4, siz := 1, elm := some (73, 14), zer := some [.e0], byt := some 256 }
theorem ZLa : TIok Tryz.prog 29 ZJs := .of (by kernel_rfl) (by kernel_rfl) (by kernel_rfl) (.inr (by kernel_rfl)) (by kernel_rfl) (.inr (by kernel_rfl)) (.inl rfl) (.inl rfl) (.inl rfl) (.inr ⟨256, by decide +kernel, by decide +kernel, rfl⟩) (.inr rfl)
def ZIf : TI := { agg := false, kin := 4, siz := 1, elm := some (62, 8), zer := some [.e0], byt := some 256 }
theorem ZK0 : TIok Tryz.prog 30 ZIf := .of (by kernel_rfl) (by kernel_rfl) (by kernel_rfl) (.inr (by kernel_rfl)) (by kernel_rfl) (.inr (by kernel_rfl)) (.inl rfl) (.inl rfl) (.inl rfl) (.inr ⟨256, by decide +kernel, by decide +kernel, rfl⟩) (.inr rfl)
def ZJf : TI := { agg := false, kin := 4, siz := 1, elm := some (75, 4), zer := some [.e0], byt := some 256 }
theorem ZKY : TIok Tryz.prog 31 ZJf := .of (by kernel_rfl) (by kernel_rfl) (by kernel_rfl) (.inr (by kernel_rfl)) (by kernel_rfl) (.inr (by kernel_rfl)) (.inl rfl) (.inl rfl) (.inl rfl) (.inr ⟨256, by decide +kernel, by decide +kernel, rfl⟩) (.inr rfl)
def ZI8 : TI := { agg := true, kin := 0, siz := 7, fld := [(0, 1, false), (1, 1, false), (2, 1, false), (3, 1, false), (4, 1, false), (5, 1, false), (6, 1, false)], zer := some [.d (.int .i64 0), .d (.int .u64 0), .d (.str ⟨#[]⟩), .e0, .e0, .e0, .e0], str := true, byt := some 256 }
theorem ZKq : TIok Tryz.prog 33 ZI8 := .of (by kernel_rfl) (by kernel_rfl) (by kernel_rfl) (.inl rfl) (by kernel_rfl) (.inr (by kernel_rfl)) (.inl rfl) (.inr (by kernel_rfl)) (.inl rfl) (.inr ⟨256, by decide +kernel, by decide +kernel, rfl⟩) (.inr rfl)
def ZJv : TI := { agg := false, kin := 3, siz := 1, zer := some [.d (.int .i64 0)], ik := some .i64, byt := some 256 }
theorem ZKW : TIok Tryz.prog 37 ZJv := .of (by kernel_rfl) (by kernel_rfl) (by kernel_rfl) (.inl rfl) (by kernel_rfl) (.inr (by kernel_rfl)) (.inl rfl) (.inl rfl) (.inr (by kernel_rfl)) (.inr ⟨256, by decide +kernel, by decide +kernel, rfl⟩) (.inr rfl)
def ZH8 : TI := { agg := true, kin := 0, siz := 2, fld := [(0, 1, false), (1, 1, false)], zer := some [.d (.int .i64 0), .d (.str ⟨#[]⟩)], eqt := some [3, 2], str := true, byt := some 256 }
theorem ZKZ : TIok Tryz.prog 48 ZH8 := .of (by kernel_rfl) (by kernel_rfl) (by kernel_rfl) (.inl rfl) (by kernel_rfl) (.inr (by kernel_rfl)) (.inr (by kernel_rfl)) (.inr (by kernel_rfl)) (.inl rfl) (.inr ⟨256, by decide +kernel, by decide +kernel, rfl⟩) (.inr rfl)
def ZI5 : TI := { agg := false, kin := 4, siz := 1, elm := some (116, 8), zer := some [.e0], byt := some 256 }
theorem ZKm : TIok Tryz.prog 49 ZI5 := .of (by kernel_rfl) (by kernel_rfl) (by kernel_rfl) (.inr (by kernel_rfl)) (by kernel_rfl) (.inr (by kernel_rfl)) (.inl rfl) (.inl rfl) (.inl rfl) (.inr ⟨256, by decide +kernel, by decide +kernel, rfl⟩) (.inr rfl)
def ZH9 : TI := { agg := true, kin := 0, siz := 16, fld := [(0, 1, false), (1, 1, false), (2, 1, false), (3, 1, false), (4, 2, true), (6, 1, false), (7, 1, false), (8, 7, true), (15, 1, false)], zer := some [.d (.int .i64 0), .d (.str ⟨#[]⟩), .d (.int .i64 0), .d (.int .i64 0), .d (.int .i64 0), .d (.str ⟨#[]⟩), .d (.str ⟨#[]⟩), .d (.bool false), .d (.int .i64 0), .d (.int .u64 0), .d (.str ⟨#[]⟩), .e0, .e0, .e0, .e0, .e0], str := true, byt := some 256 }
theorem ZKe : TIok Tryz.prog 51 ZH9 := .of (by kernel_rfl) (by kernel_rfl) (by kernel_rfl) (.inl rfl) (by kernel_rfl) (.inr (by kernel_rfl)) (.inl rfl) (.inr (by kernel_rfl)) (.inl rfl) (.inr ⟨256, by decide +kernel, by decide +kernel, rfl⟩) (.inr rfl)
def ZIB : TI := { agg := false, kin := 4, siz := 1, elm := some (51, 16), zer := some [.e0], byt := some 256 }
theorem ZKJ : TIok Tryz.prog 52 ZIB := .of (by kernel_rfl) (by kernel_rfl) (by kernel_rfl) (.inr (by kernel_rfl)) (by kernel_rfl) (.inr (by kernel_rfl)) (.inl rfl) (.inl rfl) (.inl rfl) (.inr ⟨256, by decide +kernel, by decide +kernel, rfl⟩) (.inr rfl)
def ZHX : TI := { agg := false, kin := 4, siz := 1, elm := some (186, 2), zer := some [.e0], byt := some 256 }
theorem ZKR : TIok Tryz.prog 53 ZHX := .of (by kernel_rfl) (by kernel_rfl) (by kernel_rfl) (.inr (by kernel_rfl)) (by kernel_rfl) (.inr (by kernel_rfl)) (.inl rfl) (.inl rfl) (.inl rfl) (.inr ⟨256, by decide +kernel, by decide +kernel, rfl⟩) (.inr rfl)
def ZIg : TI := { agg := false, kin := 4, siz := 1, elm := some (9, 1), zer := some [.e0], byt := some 256 }
theorem ZK8 : TIok Tryz.prog 54 ZIg := .of (by kernel_rfl) (by kernel_rfl) (by kernel_rfl) (.inr (by kernel_rfl)) (by kernel_rfl) (.inr (by kernel_rfl)) (.inl rfl) (.inl rfl) (.inl rfl) (.inr ⟨256, by decide +kernel, by decide +kernel, rfl⟩) (.inr rfl)
def ZJj : TI := { agg := true, kin := 0, siz := 5, fld := [(0, 1, false), (1, 1, false), (2, 1, false), (3, 1, false), (4, 1, false)], zer := some [.d (.str ⟨#[]⟩), .e0, .e0, .e0, .e0], str := true, byt := some 256 }
theorem ZK2 : TIok Tryz.prog 56 ZJj := .of (by kernel_rfl) (by kernel_rfl) (by kernel_rfl) (.inl rfl) (by kernel_rfl) (.inr (by kernel_rfl)) (.inl rfl) (.inr (by kernel_rfl)) (.inl rfl) (.inr ⟨256, by decide +kernel, by decide +kernel, rfl⟩) (.inr rfl)
def ZIk : TI := { agg := true, kin := 0, siz := 8, fld := [(0, 1, false), (1, 7, true)], zer := some [.d (.int .i64 0), .d (.int .i64 0), .d (.int .u64 0), .d (.str ⟨#[]⟩), .e0, .e0, .e0, .e0], str := true, byt := some 256 }
theorem ZKv : TIok Tryz.prog 62 ZIk := .of (by kernel_rfl) (by kernel_rfl) (by kernel_rfl) (.inl rfl) (by kernel_rfl) (.inr (by kernel_rfl)) (.inl rfl) (.inr (by kernel_rfl)) (.inl rfl) (.inr ⟨256, by decide +kernel, by decide +kernel, rfl⟩) (.inr rfl)
def ZIU : TI := { agg := true, kin := 0, siz := 8, fld := [(0, 5, true), (5, 3, true)], zer := some [.d (.str ⟨#[]⟩), .e0, .e0, .e0, .e0, .e0, .e0, .e0], str := true, byt := some 256 }
theorem ZKG : TIok Tryz.prog 65 ZIU := .of (by kernel_rfl) (by kernel_rfl) (by kernel_rfl) (.inl rfl) (by kernel_rfl) (.inr (by kernel_rfl)) (.inl rfl) (.inr (by kernel_rfl)) (.inl rfl) (.inr ⟨256, by decide +kernel, by decide +kernel, rfl⟩) (.inr rfl)
def ZJh : TI := { agg := true, kin := 0, siz := 14, fld := [(0, 7, true), (7, 7, true)], zer := some [.d (.int .i64 0), .d (.int .u64 0), .d (.str ⟨#[]⟩), .e0, .e0, .e0, .e0, .d (.int .i64 0), .d (.int .u64 0), .d (.str ⟨#[]⟩), .e0, .e0, .e0, .e0], str := true, byt := some 256 }
theorem ZLh : TIok Tryz.prog 73 ZJh := .of (by kernel_rfl) (by kernel_rfl) (by kernel_rfl) (.inl rfl) (by kernel_rfl) (.inr (by kernel_rfl)) (.inl rfl) (.inr (by kernel_rfl)) (.inl rfl) (.inr ⟨256, by decide +kernel, by decide +kernel, rfl⟩) (.inr rfl)
def ZH0 : TI := { agg := true, kin := 0, siz := 4, fld := [(0, 1, false), (1, 1, false), (2, 1, false), (3, 1, false)], zer := some [.d (.int .i64 0), .d (.int .i64 0), .d (.int .u64 0), .d (.str ⟨#[]⟩)], eqt := some [3, 3, 3, 2], str := true, byt := some 256 }
theorem ZJZ : TIok Tryz.prog 75 ZH0 := .of (by kernel_rfl) (by kernel_rfl) (by kernel_rfl) (.inl rfl) (by kernel_rfl) (.inr (by kernel_rfl)) (.inr (by kernel_rfl)) (.inr (by kernel_rfl)) (.inl rfl) (.inr ⟨256, by decide +kernel, by decide +kernel, rfl⟩) (.inr rfl)
def ZIn : TI := { agg := false, kin := 0, siz := 1, zer := some [.p .nilFunc] }
theorem ZKL : TIok Tryz.prog 80 ZIn := .of (by kernel_rfl) (by kernel_rfl) (by kernel_rfl) (.inl rfl) (by kernel_rfl) (.inr (by kernel_rfl)) (.inl rfl) (.inl rfl) (.inl rfl) (.inl rfl) (.inr rfl)
def ZJo : TI := { agg := false, kin := 4, siz := 1, elm := some (91, 3), zer := some [.e0], byt := some 256 }
theorem ZJT : TIok Tryz.prog 87 ZJo := .of (by kernel_rfl) (by kernel_rfl) (by kernel_rfl) (.inr (by kernel_rfl)) (by kernel_rfl) (.inr (by kernel_rfl)) (.inl rfl) (.inl rfl) (.inl rfl) (.inr ⟨256, by decide +kernel, by decide +kernel, rfl⟩) (.inr rfl)
def ZIp : TI := { agg := true, kin := 0, siz := 5, fld := [(0, 1, false), (1, 1, false), (2, 1, false), (3, 1, false), (4, 1, false)], zer := some [.d (.str ⟨#[]⟩), .d (.bool false), .e0, .e0, .e0], str := true, byt := some 256 }
theorem ZKB : TIok Tryz.prog 89 ZIp := .of (by kernel_rfl) (by kernel_rfl) (by kernel_rfl) (.inl rfl) (by kernel_rfl) (.inr (by kernel_rfl)) (.inl rfl) (.inr (by kernel_rfl)) (.inl rfl) (.inr ⟨256, by decide +kernel, by decide +kernel, rfl⟩) (.inr rfl)
def ZIv : TI := { agg := true, kin := 0, siz := 3, fld := [(0, 1, false), (1, 1, false), (2, 1, false)], zer := some [.d (.str ⟨#[]⟩), .d (.int .i64 0), .e0], str := true, byt := some 256 }
theorem ZKn : TIok Tryz.prog 91 ZIv := .of (by kernel_rfl) (by kernel_rfl) (by kernel_rfl) (.inl rfl) (by kernel_rfl) (.inr (by kernel_rfl)) (.inl rfl) (.inr (by kernel_rfl)) (.inl rfl) (.inr ⟨256, by decide +kernel, by decide +kernel, rfl⟩) (.inr rfl)
def ZJy : TI := { agg := false, kin := 4, siz := 1, elm := some (96, 5), zer := some [.e0], byt := some 256 }
theorem ZJM : TIok Tryz.prog 92 ZJy := .of (by kernel_rfl) (by kernel_rfl) (by kernel_rfl) (.inr (by kernel_rfl)) (by kernel_rfl) (.inr (by kernel_rfl)) (.inl rfl) (.inl rfl) (.inl rfl) (.inr ⟨256, by decide +kernel, by decide +kernel, rfl⟩) (.inr rfl)
def ZIR : TI := { agg := true, kin := 0, siz := 3, fld := [(0, 1, false), (1, 1, false), (2, 1, false)], zer := some [.d (.str ⟨#[]⟩), .e0, .e0], str := true, byt := some 256 }
theorem ZLc : TIok Tryz.prog 94 ZIR := .of (by kernel_rfl) (by kernel_rfl) (by kernel_rfl) (.inl rfl) (by kernel_rfl) (.inr (by kernel_rfl)) (.inl rfl) (.inr (by kernel_rfl)) (.inl rfl) (.inr ⟨256, by decide +kernel, by decide +kernel, rfl⟩) (.inr rfl)
def ZIX : TI := { agg := true, kin := 0, siz := 5, fld := [(0, 1, false), (1, 1, false), (2, 1, false), (3, 1, false), (4, 1, false)], zer := some [.d (.str ⟨#[]⟩), .d (.str ⟨#[]⟩), .d (.str ⟨#[]⟩), .d (.int .i64 0), .e0], str := true, byt := some 256 }
theorem ZJS : TIok Tryz.prog 96 ZIX := .of (by kernel_rfl) (by kernel_rfl) (by kernel_rfl) (.inl rfl) (by kernel_rfl) (.inr (by kernel_rfl)) (.inl rfl) (.inr (by kernel_rfl)) (.inl rfl) (.inr ⟨256, by decide +kernel, by decide +kernel, rfl⟩) (.inr rfl)
def ZJt : TI := { agg := false, kin := 4, siz := 1, elm := some (147, 3), zer := some [.e0], byt := some 256 }
theorem ZK5 : TIok Tryz.prog 97 ZJt := .of (by kernel_rfl) (by kernel_rfl) (by kernel_rfl) (.inr (by kernel_rfl)) (by kernel_rfl) (.inr (by kernel_rfl)) (.inl rfl) (.inl rfl) (.inl rfl) (.inr ⟨256, by decide +kernel, by decide +kernel, rfl⟩) (.inr rfl)
def ZCT : TI := { agg := false, kin := 0, siz := 1, zer := some [.p .nilFunc] }
theorem ZGp : TIok Tryz.prog 106 ZCT := .of (by kernel_rfl) (by kernel_rfl) (by kernel_rfl) (.inl rfl) (by kernel_rfl) (.inr (by kernel_rfl)) (.inl rfl) (.inl rfl) (.inl rfl) (.inl rfl) (.inr rfl)
def ZCB : TI := { agg := false, kin := 0, siz := 1, zer := some [.p .nilFunc] }
theorem ZGZ : TIok Tryz.prog 108 ZCB := .of (by kernel_rfl) (by kernel_rfl) (by kernel_rfl) (.inl rfl) (by kernel_rfl) (.inr (by kernel_rfl)) (.inl rfl) (.inl rfl) (.inl rfl) (.inl rfl) (.inr rfl)
def Zz4 : TI := { agg := true, kin := 0, siz := 8, fld := [(0, 1, false), (1, 7, true)], zer := some [.d (.str ⟨#[]⟩), .d (.int .i64 0), .d (.int .u64 0), .d (.str ⟨#[]⟩), .e0, .e0, .e0, .e0], str := true, byt := some 256 }
theorem ZGf : TIok Tryz.prog 116 Zz4 := .of (by kernel_rfl) (by kernel_rfl) (by kernel_rfl) (.inl rfl) (by kernel_rfl) (.inr (by kernel_rfl)) (.inl rfl) (.inr (by kernel_rfl)) (.inl rfl) (.inr ⟨256, by decide +kernel, by decide +kernel, rfl⟩) (.inr rfl)
def ZCZ : TI := { agg := true, kin := 0, siz := 2, fld := [(0, 1, false), (1, 1, false)], zer := some [.d (.str ⟨#[]⟩), .e0], str := true, byt := some 256 }
theorem ZHP : TIok Tryz.prog 118 ZCZ := .of (by kernel_rfl) (by kernel_rfl) (by kernel_rfl) (.inl rfl) (by kernel_rfl) (.inr (by kernel_rfl)) (.inl rfl) (.inr (by kernel_rfl)) (.inl rfl) (.inr ⟨256, by decide +kernel, by decide +kernel, rfl⟩) (.inr rfl)
def ZEv : TI := { agg := false, kin := 4, siz := 1, elm := some (4, 1), zer := some [.e0], byt := some 256 }
theorem ZGV : TIok Tryz.prog 123 ZEv := .of (by kernel_rfl) (by kernel_rfl) (by kernel_rfl) (.inr (by kernel_rfl)) (by kernel_rfl) (.inr (by kernel_rfl)) (.inl rfl) (.inl rfl) (.inl rfl) (.inr ⟨256, by decide +kernel, by decide +kernel, rfl⟩) (.inr rfl)
def ZAi : TI := { agg := false, kin := 0, siz := 1, mp := some (false, [.int .i64 0]), zer := some [.p (.map none)] }
theorem ZGj : TIok Tryz.prog 131 ZAi := .of (by kernel_rfl) (by kernel_rfl) (by kernel_rfl) (.inl rfl) (by kernel_rfl) (.inr (by kernel_rfl)) (.inl rfl) (.inl rfl) (.inl rfl) (.inl rfl) (.inr rfl)
def ZCV : TI := { agg := false, kin := 0, siz := 1, mp := some (true, [.str ⟨#[]⟩, .list [], .list [], .list [], .list []]), zer := some [.p (.map none)] }
theorem ZHK : TIok Tryz.prog 132 ZCV := .of (by kernel_rfl) (by kernel_rfl) (by kernel_rfl) (.inl rfl) (by kernel_rfl) (.inr (by kernel_rfl)) (.inl rfl) (.inl rfl) (.inl rfl) (.inl rfl) (.inr rfl)
def ZBU : TI := { agg := false, kin := 0, siz := 1, mp := some (false, [.bool false]), zer := some [.p (.map none)] }
theorem ZFN : TIok Tryz.prog 133 ZBU := .of (by kernel_rfl) (by kernel_rfl) (by kernel_rfl) (.inl rfl) (by kernel_rfl) (.inr (by kernel_rfl)) (.inl rfl) (.inl rfl) (.inl rfl) (.inl rfl) (.inr rfl)
def ZDh : TI := { agg := true, kin := 0, siz := 2, fld := [(0, 1, false), (1, 1, false)], zer := some [.p (.map none), .p (.map none)], str := true, byt := some 256 }
theorem ZGQ : TIok Tryz.prog 135 ZDh := .of (by kernel_rfl) (by kernel_rfl) (by kernel_rfl) (.inl rfl) (by kernel_rfl) (.inr (by kernel_rfl)) (.inl rfl) (.inr (by kernel_rfl)) (.inl rfl) (.inr ⟨256, by decide +kernel, by decide +kernel, rfl⟩) (.inr rfl)
def ZzC : TI := { agg := false, kin := 0, siz := 1, zer := some [.p .nilFunc] }
theorem ZHp : TIok Tryz.prog 139 ZzC := .of (by kernel_rfl) (by kernel_rfl) (by kernel_rfl) (.inl rfl) (by kernel_rfl) (.inr (by kernel_rfl)) (.inl rfl) (.inl rfl) (.inl rfl) (.inl rfl) (.inr rfl)
def ZEf : TI := { agg := false, kin := 0, siz := 1, zer := some [.p .nilFunc] }
theorem ZFO : TIok Tryz.prog 141 ZEf := .of (by kernel_rfl) (by kernel_rfl) (by kernel_rfl) (.inl rfl) (by kernel_rfl) (.inr (by kernel_rfl)) (.inl rfl) (.inl rfl) (.inl rfl) (.inl rfl) (.inr rfl)
def ZAd : TI := { agg := false, kin := 0, siz := 1, zer := some [.p .nilFunc] }
theorem ZGL : TIok Tryz.prog 142 ZAd := .of (by kernel_rfl) (by kernel_rfl) (by kernel_rfl) (.inl rfl) (by kernel_rfl) (.inr (by kernel_rfl)) (.inl rfl) (.inl rfl) (.inl rfl) (.inl rfl) (.inr rfl)
def ZDG : TI := { agg := false, kin := 0, siz := 1, zer := some [.p .nilFunc] }
theorem ZGy : TIok Tryz.prog 144 ZDG := .of (by kernel_rfl) (by kernel_rfl) (by kernel_rfl) (.inl rfl) (by kernel_rfl) (.inr (by kernel_rfl)) (.inl rfl) (.inl rfl) (.inl rfl) (.inl rfl) (.inr rfl)
def ZBs : TI := { agg := false, kin := 0, siz := 1, zer := some [.p (.pointer none)] }
theorem ZHh : TIok Tryz.prog 145 ZBs := .of (by kernel_rfl) (by kernel_rfl) (by kernel_rfl) (.inl rfl) (by kernel_rfl) (.inr (by kernel_rfl)) (.inl rfl) (.inl rfl) (.inl rfl) (.inl rfl) (.inr rfl)
def ZD9 : TI := { agg := true, kin := 0, siz := 3, fld := [(0, 1, false), (1, 1, false), (2, 1, false)], zer := some [.d (.str ⟨#[]⟩), .d (.int .i64 0), .d (.int .i64 0)], eqt := some [2, 3, 3], str := true, byt := some 256 }
theorem ZGu : TIok Tryz.prog 147 ZD9 := .of (by kernel_rfl) (by kernel_rfl) (by kernel_rfl) (.inl rfl) (by kernel_rfl) (.inr (by kernel_rfl)) (.inr (by kernel_rfl)) (.inr (by kernel_rfl)) (.inl rfl) (.inr ⟨256, by decide +kernel, by decide +kernel, rfl⟩) (.inr rfl)
def ZA8 : TI := { agg := false, kin := 0, siz := 1, zer := some [.p .nilFunc] }
theorem ZG3 : TIok Tryz.prog 158 ZA8 := .of (by kernel_rfl) (by kernel_rfl) (by kernel_rfl) (.inl rfl) (by kernel_rfl) (.inr (by kernel_rfl)) (.inl rfl) (.inl rfl) (.inl rfl) (.inl rfl) (.inr rfl)
def ZzJ : TI := { agg := false, kin := 0, siz := 1, zer := some [.p .nilFunc] }
theorem ZG6 : TIok Tryz.prog 162 ZzJ := .of (by kernel_rfl) (by kernel_rfl) (by kernel_rfl) (.inl rfl) (by kernel_rfl) (.inr (by kernel_rfl)) (.inl rfl) (.inl rfl) (.inl rfl) (.inl rfl) (.inr rfl)
def ZCP : TI := { agg := true, kin := 0, siz := 7, fld := [(0, 1, false), (1, 1, false), (2, 1, false), (3, 1, false), (4, 1, false), (5, 1, false), (6, 1, false)], zer := some [.d (.int .i64 0), .d (.int .u64 0), .d (.str ⟨#[]⟩), .e0, .e0, .e0, .e0], str := true, byt := some 256 }
theorem ZFI : TIok Tryz.prog 170 ZCP := .of (by kernel_rfl) (by kernel_rfl) (by kernel_rfl) (.inl rfl) (by kernel_rfl) (.inr (by kernel_rfl)) (.inl rfl) (.inr (by kernel_rfl)) (.inl rfl) (.inr ⟨256, by decide +kernel, by decide +kernel, rfl⟩) (.inr rfl)
def ZB4 : TI := { agg := false, kin := 4, siz := 1, elm := some (33, 7), zer := some [.e0], byt := some 256 }
theorem ZGd : TIok Tryz.prog 171 ZB4 := .of (by kernel_rfl) (by kernel_rfl) (by kernel_rfl) (.inr (by kernel_rfl)) (by kernel_rfl) (.inr (by kernel_rfl)) (.inl rfl) (.inl rfl) (.inl rfl) (.inr ⟨256, by decide +kernel, by decide +kernel, rfl⟩) (.inr rfl)
def ZDn : TI := { agg := false, kin := 4, siz := 1, elm := some (73, 14), zer := some [.e0], byt := some 256 }
theorem ZGU : TIok Tryz.prog 173 ZDn := .of (by kernel_rfl) (by kernel_rfl) (by kernel_rfl) (.inr (by kernel_rfl)) (by kernel_rfl) (.inr (by kernel_rfl)) (.inl rfl) (.inl rfl) (.inl rfl) (.inr ⟨256, by decide +kernel, by decide +kernel, rfl⟩) (.inr rfl)
def ZAP : TI := { agg := false, kin := 0, siz := 1, zer := some [.p .nilFunc] }
theorem ZFS : TIok Tryz.prog 175 ZAP := .of (by kernel_rfl) (by kernel_rfl) (by kernel_rfl) (.inl rfl) (by kernel_rfl) (.inr (by kernel_rfl)) (.inl rfl) (.inl rfl) (.inl rfl) (.inl rfl) (.inr rfl)
def ZBL : TI := { agg := true, kin := 0, siz := 2, fld := [(0, 1, false), (1, 1, false)], zer := some [.e0, .e0], str := true, byt := some 256 }
theorem ZHi : TIok Tryz.prog 177 ZBL := .of (by kernel_rfl) (by kernel_rfl) (by kernel_rfl) (.inl rfl) (by kernel_rfl) (.inr (by kernel_rfl)) (.inl rfl) (.inr (by kernel_rfl)) (.inl rfl) (.inr ⟨256, by decide +kernel, by decide +kernel, rfl⟩) (.inr rfl)
def ZA6 : TI := { agg := false, kin := 0, siz := 1, zer := some [.p .nilFunc] }
theorem ZGO : TIok Tryz.prog 180 ZA6 := .of (by kernel_rfl) (by kernel_rfl) (by kernel_rfl) (.inl rfl) (by kernel_rfl) (.inr (by kernel_rfl)) (.inl rfl) (.inl rfl) (.inl rfl) (.inl rfl) (.inr rfl)
def ZDP : TI := { agg := false, kin := 0, siz := 1, zer := some [.p .nilFunc] }
theorem ZHl : TIok Tryz.prog 182 ZDP := .of (by kernel_rfl) (by kernel_rfl) (by kernel_rfl) (.inl rfl) (by kernel_rfl) (.inr (by kernel_rfl)) (.inl rfl) (.inl rfl) (.inl rfl) (.inl rfl) (.inr rfl)
def ZBC : TI := { agg := true, kin := 0, siz := 2, fld := [(0, 1, false), (1, 1, false)], zer := some [.d (.int .i64 0), .d (.int .i64 0)], eqt := some [3, 3], str := true, byt := some 256 }
theorem ZGs : TIok Tryz.prog 186 ZBC := .of (by kernel_rfl) (by kernel_rfl) (by kernel_rfl) (.inl rfl) (by kernel_rfl) (.inr (by kernel_rfl)) (.inr (by kernel_rfl)) (.inr (by kernel_rfl)) (.inl rfl) (.inr ⟨256, by decide +kernel, by decide +kernel, rfl⟩) (.inr rfl)
def ZAF : TI := { agg := false, kin := 0, siz := 1, zer := some [.p .nilFunc] }
theorem ZHj : TIok Tryz.prog 192 ZAF := .of (by kernel_rfl) (by kernel_rfl) (by kernel_rfl) (.inl rfl) (by kernel_rfl) (.inr (by kernel_rfl)) (.inl rfl) (.inl rfl) (.inl rfl) (.inl rfl) (.inr rfl)
def ZDL : TI := { agg := false, kin := 4, siz := 1, elm := some (3, 1), zer := some [.e0], byt := some 256 }
theorem ZFY : TIok Tryz.prog 200 ZDL := .of (by kernel_rfl) (by kernel_rfl) (by kernel_rfl) (.inr (by kernel_rfl)) (by kernel_rfl) (.inr (by kernel_rfl)) (.inl rfl) (.inl rfl) (.inl rfl) (.inr ⟨256, by decide +kernel, by decide +kernel, rfl⟩) (.inr rfl)
def ZAz : TI := { agg := false, kin := 3, siz := 1, zer := some [.d (.int .u64 0)], ik := some .u64, byt := some 256 }
theorem ZF8 : TIok Tryz.prog 212 ZAz := .of (by kernel_rfl) (by kernel_rfl) (by kernel_rfl) (.inl rfl) (by kernel_rfl) (.inr (by kernel_rfl)) (.inl rfl) (.inl rfl) (.inr (by kernel_rfl)) (.inr ⟨256, by decide +kernel, by decide +kernel, rfl⟩) (.inr rfl)
def ZBo : TI := { agg := false, kin := 3, siz := 1, zer := some [.d (.int .i64 0)], ik := some .i64, byt := some 256 }
theorem ZGz : TIok Tryz.prog 222 ZBo := .of (by kernel_rfl) (by kernel_rfl) (by kernel_rfl) (.inl rfl) (by kernel_rfl) (.inr (by kernel_rfl)) (.inl rfl) (.inl rfl) (.inr (by kernel_rfl)) (.inr ⟨256, by decide +kernel, by decide +kernel, rfl⟩) (.inr rfl)
def ZAe : TI := { agg := false, kin := 3, siz := 1, zer := some [.d (.int .u32 0)], ik := some .u32, byt := some 256 }
theorem ZHq : TIok Tryz.prog 231 ZAe := .of (by kernel_rfl) (by kernel_rfl) (by kernel_rfl) (.inl rfl) (by kernel_rfl) (.inr (by kernel_rfl)) (.inl rfl) (.inl rfl) (.inr (by kernel_rfl)) (.inr ⟨256, by decide +kernel, by decide +kernel, rfl⟩) (.inr rfl)
def ZEw : TI := { agg := false, kin := 3, siz := 1, zer := some [.d (.int .u64 0)], ik := some .u64, byt := some 256 }
theorem ZGG : TIok Tryz.prog 236 ZEw := .of (by kernel_rfl) (by kernel_rfl) (by kernel_rfl) (.inl rfl) (by kernel_rfl) (.inr (by kernel_rfl)) (.inl rfl) (.inl rfl) (.inr (by kernel_rfl)) (.inr ⟨256, by decide +kernel, by decide +kernel, rfl⟩) (.inr rfl)
def ZzT : TI := { agg := false, kin := 0, siz := 1, zer := some [.p (.pointer none)] }
theorem ZGq : TIok Tryz.prog 240 ZzT := .of (by kernel_rfl) (by kernel_rfl) (by kernel_rfl) (.inl rfl) (by kernel_rfl) (.inr (by kernel_rfl)) (.inl rfl) (.inl rfl) (.inl rfl) (.inl rfl) (.inr rfl)
def ZAB : TI := { agg := false, kin := 0, siz := 1, zer := some [.p (.pointer none)] }
theorem ZF7 : TIok Tryz.prog 244 ZAB := .of (by kernel_rfl) (by kernel_rfl) (by kernel_rfl) (.inl rfl) (by kernel_rfl) (.inr (by kernel_rfl)) (.inl rfl) (.inl rfl) (.inl rfl) (.inl rfl) (.inr rfl)
def tl : List (Nat × TI) := [(3, ti3), (4, ti4), (5, ti5), (9, ti9), (20, ZHW), (21, ZIS), (22, ZIa), (23, ZIT), (24, ZIL), (26, ZIO), (27, ZIh), (28, ZHT), (29, ZJs), (30, ZIf), (31, ZJf), (33, ZI8), (37, ZJv), (48, ZH8), (49, ZI5), (51, ZH9), (52, ZIB), (53, ZHX), (54, ZIg), (56, ZJj), (62, ZIk), (65, ZIU), (73, ZJh), (75, ZH0), (80, ZIn), (87, ZJo), (89, ZIp), (91, ZIv), (92, ZJy), (94, ZIR), (96, ZIX), (97, ZJt), (106, ZCT), (108, ZCB), (116, Zz4), (118, ZCZ), (123, ZEv), (131, ZAi), (132, ZCV), (133, ZBU), (135, ZDh), (139, ZzC), (141, ZEf), (142, ZAd), (144, ZDG), (145, ZBs), (147, ZD9), (158, ZA8), (162, ZzJ), (170, ZCP), (171, ZB4), (173, ZDn), (175, ZAP), (177, ZBL), (180, ZA6), (182, ZDP), (186, ZBC), (192, ZAF), (200, ZDL), (212, ZAz), (222, ZBo), (231, ZAe), (236, ZEw), (240, ZzT), (244, ZAB)]
theorem tok : TOk Tryz.prog (lkT tl) := Zst tl (by
 intro p hp
 simp only [tl, Yv, List.not_mem_nil, or_false] at hp
 rcases hp with rfl | rfl | rfl | rfl | rfl | rfl | rfl | rfl | rfl | rfl | rfl | rfl | rfl | rfl | rfl | rfl | rfl | rfl | rfl | rfl | rfl | rfl | rfl | rfl | rfl | rfl | rfl | rfl | rfl | rfl | rfl | rfl | rfl | rfl | rfl | rfl | rfl | rfl | rfl | rfl | rfl | rfl | rfl | rfl | rfl | rfl | rfl | rfl | rfl | rfl | rfl | rfl | rfl | rfl | rfl | rfl | rfl | rfl | rfl | rfl | rfl | rfl | rfl | rfl | rfl | rfl | rfl | rfl | rfl
 ·exact tk3
 ·exact tk4
 ·exact tk5
 ·exact tk9
 ·exact ZJ2
 ·exact ZKF
 ·exact ZLg
 ·exact ZKO
 ·exact ZJK
 ·exact ZKy
 ·exact ZKb
 ·exact ZKD
 ·exact ZLa
 ·exact ZK0
 ·exact ZKY
 ·exact ZKq
 ·exact ZKW
 ·exact ZKZ
 ·exact ZKm
 ·exact ZKe
 ·exact ZKJ
 ·exact ZKR
 ·exact ZK8
 ·exact ZK2
 ·exact ZKv
 ·exact ZKG
 ·exact ZLh
 ·exact ZJZ
 ·exact ZKL
 ·exact ZJT
 ·exact ZKB
 ·exact ZKn
 ·exact ZJM
 ·exact ZLc
 ·exact ZJS
 ·exact ZK5
 ·exact ZGp
 ·exact ZGZ
 ·exact ZGf
 ·exact ZHP
 ·exact ZGV
 ·exact ZGj
 ·exact ZHK
 ·exact ZFN
 ·exact ZGQ
 ·exact ZHp
 ·exact ZFO
 ·exact ZGL
 ·exact ZGy
 ·exact ZHh
 ·exact ZGu
 ·exact ZG3
 ·exact ZG6
 ·exact ZFI
 ·exact ZGd
 ·exact ZGU
 ·exact ZFS
 ·exact ZHi
 ·exact ZGO
 ·exact ZHl
 ·exact ZGs
 ·exact ZHj
 ·exact ZFY
 ·exact ZF8
 ·exact ZGz
 ·exact ZHq
 ·exact ZGG
 ·exact ZGq
 ·exact ZF7)
theorem tmo : Tryz.prog.follows .mixedOrders = true := by kernel_rfl
end Go.Proofs.YtpjofefihlbppaaGreat
