import Derived.Test.YtpjofefihlbppaaGreatCu17
import Derived.Test.YtpjofefihlbppaaGreatCu16
import Derived.Test.YtpjofefihlbppaaGreatProg
import Derived.Test.YtpjofefihlbppaaGreatCu11
import Derived.Test.YtpjofefihlbppaaGreatCu00
namespace Go.Eng
set_option linter.all false
open Go Go.RowKit
section
variable {P : Program} {l l' : Nat} {H : Hp} {m : Mu} {S : Nat → Prop} {w : World}
inductive Vw (H : Hp) (l : Nat) : AV → D → Prop
 | d (x : D) : Vw H l (.d x) x
 | e0 : Vw H l .e0 (.list [])
 | ref (k : Key) (g n : Nat) (es : List (List D)) (hk : k.1 ≤ l) (hg : (H k).g = g) (hn : es.length = n) (hl : (H k).live = true) (hz : ∀ e ∈ es, e.length = (H k).sz) (hp : (H k).sz ≠ 0) (hc : (H k).cells.length = n * (H k).sz)
   (hr : ∀ (i : Nat) (x : AV) (d : D), (H k).cells[i]? = some x → es.flatten[i]? = some d → Vw H l x d) : Vw H l (.ref k g 0 n) (.list es)
 | mp (k : Key) (g : Nat) (a : Bool) (es : List (List D)) (hk : k.1 ≤ l) (hg : (H k).g = g) (hl : (H k).live = true) (he : (H k).e = .m a es) : Vw H l (.mp k g) (.map a es)
inductive Vx (H : Hp) (l : Nat) : AV → AV → Prop
 | d (x : AV) (d : D) (h : Vw H l x d) : Vx H l x (.d d)
 | ptr (k : Key) (g : Nat) (ds : List D) (hk : k.1 ≤ l) (hg : (H k).g = g) (hl : (H k).live = true) (hne : ds ≠ []) (hc : (H k).cells.length = ds.length) (hr : ∀ (i : Nat) (x : AV) (d : D), (H k).cells[i]? = some x → ds[i]? = some d → Vw H l x d) : Vx H l (.ptr k g 0) (.iptr ds 0)
 | fn (f : Fn) (xs ys : List AV) (hn : xs.length = ys.length) (h : ∀ (i : Nat) (x y : AV), xs[i]? = some x → ys[i]? = some y → Vx H l x y) : Vx H l (.fn f [] xs) (.fn f [] ys)
def Vxs (H : Hp) (l : Nat) : List AV → List AV → Prop
 | [], [] => True
 | x :: xs, y :: ys => Vx H l x y ∧ Vxs H l xs ys
 | _, _ => False
theorem Vxs.at {H : Hp} {l : Nat} : ∀ {xs ys : List AV}, Vxs H l xs ys → xs.length = ys.length ∧ ∀ (i : Nat) (x y : AV), xs[i]? = some x → ys[i]? = some y → Vx H l x y
 | [], [], _ => ⟨rfl, fun i x y h => by simp at h⟩
 | x :: xs, y :: ys, ⟨h1, h2⟩ => ⟨by simp [(Vxs.at h2).1], fun i a b ha hb => by
  cases i with
  | zero => simp at ha hb; subst ha; subst hb; exact h1
  | succ i => simp at ha hb; exact (Vxs.at h2).2 i a b ha hb⟩
 | [], _ :: _, h => h.elim
 | _ :: _, [], h => h.elim
end
def ZFf {γ : Type} [DecidableEq γ] (M : Option (List γ)) : Option γ := M.bind fun ys => match ys with
 | [] => none
 | y :: r => if ∀ z ∈ r, z = y then some y else none
theorem KCN.uniq {P : Program} {f : FuncId} {xs : List AV} {γ : Type} [DecidableEq γ] {M : Option (List γ)} {e : γ → AV} (K : KCN P f xs M e) : KC P f xs (ZFf M) e := K.one _ fun y h => by
 unfold ZFf at h
 cases M with
 | none => cases h
 | some ys =>
  refine ⟨ys, rfl, ?_⟩
  rw [Option.bind_some] at h
  split at h
  ·cases h
  ·obtain ⟨h1, h2⟩ := ZaC h
   cases h2
   intro z hz
   rcases Yw.1 hz with rfl | hz
   ·rfl
   ·exact h1 z hz
end Go.Eng
namespace Go.Proofs.YtpjofefihlbppaaGreat
open Go Go.Eng
def ti3 : TI := { agg := false, kin := 3, siz := 1, zer := some [.d (.int .i64 0)], ik := some .i64, byt := some 256 }
theorem tk3 : TIok Tryz.prog 3 ti3 := .of (by kernel_rfl) (by kernel_rfl) (by kernel_rfl) (.inl rfl) (by kernel_rfl) (.inr (by kernel_rfl)) (.inl rfl) (.inl rfl) (.inr (by kernel_rfl)) (.inr ⟨256, by decide +kernel, by decide +kernel, rfl⟩) (.inr rfl)
def ti4 : TI := { agg := false, kin := 1, siz := 1, zer := some [.d (.bool false)], byt := some 256 }
theorem tk4 : TIok Tryz.prog 4 ti4 := .of (by kernel_rfl) (by kernel_rfl) (by kernel_rfl) (.inl rfl) (by kernel_rfl) (.inr (by kernel_rfl)) (.inl rfl) (.inl rfl) (.inl rfl) (.inr ⟨256, by decide +kernel, by decide +kernel, rfl⟩) (.inr rfl)
def ti5 : TI := { agg := false, kin := 3, siz := 1, zer := some [.d (.int .u8 0)], ik := some .u8, byt := some 256 }
theorem tk5 : TIok Tryz.prog 5 ti5 := .of (by kernel_rfl) (by kernel_rfl) (by kernel_rfl) (.inl rfl) (by kernel_rfl) (.inr (by kernel_rfl)) (.inl rfl) (.inl rfl) (.inr (by kernel_rfl)) (.inr ⟨256, by decide +kernel, by decide +kernel, rfl⟩) (.inr rfl)
def ti9 : TI := { agg := false, kin := 2, siz := 1, zer := some [.d (.str ⟨#[]⟩)], byt := some 256 }
theorem tk9 : TIok Tryz.prog 9 ti9 := .of (by kernel_rfl) (by kernel_rfl) (by kernel_rfl) (.inl rfl) (by kernel_rfl) (.inr (by kernel_rfl)) (.inl rfl) (.inl rfl) (.inl rfl) (.inr ⟨256, by decide +kernel, by decide +kernel, rfl⟩) (.inr rfl)
def ZHw : TI := { agg := false, kin := 0, siz := 1, zer := some [.p .nilIface] }
theorem ZJt : TIok Tryz.prog 20 ZHw := .of (by kernel_rfl) (by kernel_rfl) (by kernel_rfl) (.inl rfl) (by kernel_rfl) (.inr (by kernel_rfl)) (.inl rfl) (.inl rfl) (.inl rfl) (.inl rfl) (.inr rfl)
def ZHK : TI := { agg := false, kin := 3, siz := 1, zer := some [.d (.int .i32 0)], ik := some .i32, byt := some 256 }
theorem ZJd : TIok Tryz.prog 21 ZHK := .of (by kernel_rfl) (by kernel_rfl) (by kernel_rfl) (.inl rfl) (by kernel_rfl) (.inr (by kernel_rfl)) (.inl rfl) (.inl rfl) (.inr (by kernel_rfl)) (.inr ⟨256, by decide +kernel, by decide +kernel, rfl⟩) (.inr rfl)
def ZHz : TI := { agg := false, kin := 4, siz := 1, elm := some (56, 5), zer := some [.e0], byt := some 256 }
theorem ZID : TIok Tryz.prog 22 ZHz := .of (by kernel_rfl) (by kernel_rfl) (by kernel_rfl) (.inr (by kernel_rfl)) (by kernel_rfl) (.inr (by kernel_rfl)) (.inl rfl) (.inl rfl) (.inl rfl) (.inr ⟨256, by decide +kernel, by decide +kernel, rfl⟩) (.inr rfl)
def ZHE : TI := { agg := false, kin := 4, siz := 1, elm := some (89, 5), zer := some [.e0], byt := some 256 }
theorem ZIO : TIok Tryz.prog 23 ZHE := .of (by kernel_rfl) (by kernel_rfl) (by kernel_rfl) (.inr (by kernel_rfl)) (by kernel_rfl) (.inr (by kernel_rfl)) (.inl rfl) (.inl rfl) (.inl rfl) (.inr ⟨256, by decide +kernel, by decide +kernel, rfl⟩) (.inr rfl)
def ZGK : TI := { agg := false, kin := 4, siz := 1, elm := some (94, 3), zer := some [.e0], byt := some 256 }
theorem ZJq : TIok Tryz.prog 24 ZGK := .of (by kernel_rfl) (by kernel_rfl) (by kernel_rfl) (.inr (by kernel_rfl)) (by kernel_rfl) (.inr (by kernel_rfl)) (.inl rfl) (.inl rfl) (.inl rfl) (.inr ⟨256, by decide +kernel, by decide +kernel, rfl⟩) (.inr rfl)
def ZH5 : TI := { agg := true, kin := 0, siz := 3, fld := [(0, 1, false), (1, 1, false), (2, 1, false)], zer := some [.e0, .e0, .e0], str := true, byt := some 256 }
theorem ZJr : TIok Tryz.prog 26 ZH5 := .of (by kernel_rfl) (by kernel_rfl) (by kernel_rfl) (.inl rfl) (by kernel_rfl) (.inr (by kernel_rfl)) (.inl rfl) (.inr (by kernel_rfl)) (.inl rfl) (.inr ⟨256, by decide +kernel, by decide +kernel, rfl⟩) (.inr rfl)
def ZHx : TI := { agg := false, kin := 3, siz := 1, zer := some [.d (.int .u64 0)], ik := some .u64, byt := some 256 }
theorem ZJu : TIok Tryz.prog 27 ZHx := .of (by kernel_rfl) (by kernel_rfl) (by kernel_rfl) (.inl rfl) (by kernel_rfl) (.inr (by kernel_rfl)) (.inl rfl) (.inl rfl) (.inr (by kernel_rfl)) (.inr ⟨256, by decide +kernel, by decide +kernel, rfl⟩) (.inr rfl)
def ZIm : TI := { agg := false, kin := 4, siz := 1, elm := some (33, 7), zer := some [.e0], byt := some 256 }
theorem ZIM : TIok Tryz.prog 28 ZIm := .of (by kernel_rfl) (by kernel_rfl) (by kernel_rfl) (.inr (by kernel_rfl)) (by kernel_rfl) (.inr (by kernel_rfl)) (.inl rfl) (.inl rfl) (.inl rfl) (.inr ⟨256, by decide +kernel, by decide +kernel, rfl⟩) (.inr rfl)
def ZGZ : TI := { agg := false, kin := 4, siz := 1, elm := some (73, 14), zer := some [.e0], byt := some 256 }
theorem ZI0 : TIok Tryz.prog 29 ZGZ := .of (by kernel_rfl) (by kernel_rfl) (by kernel_rfl) (.inr (by kernel_rfl)) (by kernel_rfl) (.inr (by kernel_rfl)) (.inl rfl) (.inl rfl) (.inl rfl) (.inr ⟨256, by decide +kernel, by decide +kernel, rfl⟩) (.inr rfl)
def ZGT : TI := { agg := false, kin := 4, siz := 1, elm := some (62, 8), zer := some [.e0], byt := some 256 }
theorem ZJW : TIok Tryz.prog 30 ZGT := .of (by kernel_rfl) (by kernel_rfl) (by kernel_rfl) (.inr (by kernel_rfl)) (by kernel_rfl) (.inr (by kernel_rfl)) (.inl rfl) (.inl rfl) (.inl rfl) (.inr ⟨256, by decide +kernel, by decide +kernel, rfl⟩) (.inr rfl)
def ZHo : TI := { agg := false, kin := 4, siz := 1, elm := some (75, 4), zer := some [.e0], byt := some 256 }
theorem ZJL : TIok Tryz.prog 31 ZHo := .of (by kernel_rfl) (by kernel_rfl) (by kernel_rfl) (.inr (by kernel_rfl)) (by kernel_rfl) (.inr (by kernel_rfl)) (.inl rfl) (.inl rfl) (.inl rfl) (.inr ⟨256, by decide +kernel, by decide +kernel, rfl⟩) (.inr rfl)
def ZHJ : TI := { agg := true, kin := 0, siz := 7, fld := [(0, 1, false), (1, 1, false), (2, 1, false), (3, 1, false), (4, 1, false), (5, 1, false), (6, 1, false)], zer := some [.d (.int .i64 0), .d (.int .u64 0), .d (.str ⟨#[]⟩), .e0, .e0, .e0, .e0], str := true, byt := some 256 }
theorem ZJ0 : TIok Tryz.prog 33 ZHJ := .of (by kernel_rfl) (by kernel_rfl) (by kernel_rfl) (.inl rfl) (by kernel_rfl) (.inr (by kernel_rfl)) (.inl rfl) (.inr (by kernel_rfl)) (.inl rfl) (.inr ⟨256, by decide +kernel, by decide +kernel, rfl⟩) (.inr rfl)
def ZHD : TI := { agg := false, kin := 3, siz := 1, zer := some [.d (.int .i64 0)], ik := some .i64, byt := some 256 }
theorem ZJG : TIok Tryz.prog 37 ZHD := .of (by kernel_rfl) (by kernel_rfl) (by kernel_rfl) (.inl rfl) (by kernel_rfl) (.inr (by kernel_rfl)) (.inl rfl) (.inl rfl) (.inr (by kernel_rfl)) (.inr ⟨256, by decide +kernel, by decide +kernel, rfl⟩) (.inr rfl)
def ZH6 : TI := { agg := true, kin := 0, siz := 2, fld := [(0, 1, false), (1, 1, false)], zer := some [.d (.int .i64 0), .d (.str ⟨#[]⟩)], eqt := some [3, 2], str := true, byt := some 256 }
theorem ZJo : TIok Tryz.prog 48 ZH6 := .of (by kernel_rfl) (by kernel_rfl) (by kernel_rfl) (.inl rfl) (by kernel_rfl) (.inr (by kernel_rfl)) (.inr (by kernel_rfl)) (.inr (by kernel_rfl)) (.inl rfl) (.inr ⟨256, by decide +kernel, by decide +kernel, rfl⟩) (.inr rfl)
def ZHQ : TI := { agg := false, kin := 4, siz := 1, elm := some (116, 8), zer := some [.e0], byt := some 256 }
theorem ZJI : TIok Tryz.prog 49 ZHQ := .of (by kernel_rfl) (by kernel_rfl) (by kernel_rfl) (.inr (by kernel_rfl)) (by kernel_rfl) (.inr (by kernel_rfl)) (.inl rfl) (.inl rfl) (.inl rfl) (.inr ⟨256, by decide +kernel, by decide +kernel, rfl⟩) (.inr rfl)
def ZIc : TI := { agg := true, kin := 0, siz := 16, fld := [(0, 1, false), (1, 1, false), (2, 1, false), (3, 1, false), (4, 2, true), (6, 1, false), (7, 1, false), (8, 7, true), (15, 1, false)], zer := some [.d (.int .i64 0), .d (.str ⟨#[]⟩), .d (.int .i64 0), .d (.int .i64 0), .d (.int .i64 0), .d (.str ⟨#[]⟩), .d (.str ⟨#[]⟩), .d (.bool false), .d (.int .i64 0), .d (.int .u64 0), .d (.str ⟨#[]⟩), .e0, .e0, .e0, .e0, .e0], str := true, byt := some 256 }
theorem ZJy : TIok Tryz.prog 51 ZIc := .of (by kernel_rfl) (by kernel_rfl) (by kernel_rfl) (.inl rfl) (by kernel_rfl) (.inr (by kernel_rfl)) (.inl rfl) (.inr (by kernel_rfl)) (.inl rfl) (.inr ⟨256, by decide +kernel, by decide +kernel, rfl⟩) (.inr rfl)
def ZGN : TI := { agg := false, kin := 4, siz := 1, elm := some (51, 16), zer := some [.e0], byt := some 256 }
theorem ZI6 : TIok Tryz.prog 52 ZGN := .of (by kernel_rfl) (by kernel_rfl) (by kernel_rfl) (.inr (by kernel_rfl)) (by kernel_rfl) (.inr (by kernel_rfl)) (.inl rfl) (.inl rfl) (.inl rfl) (.inr ⟨256, by decide +kernel, by decide +kernel, rfl⟩) (.inr rfl)
def ZHy : TI := { agg := false, kin := 4, siz := 1, elm := some (186, 2), zer := some [.e0], byt := some 256 }
theorem ZIp : TIok Tryz.prog 53 ZHy := .of (by kernel_rfl) (by kernel_rfl) (by kernel_rfl) (.inr (by kernel_rfl)) (by kernel_rfl) (.inr (by kernel_rfl)) (.inl rfl) (.inl rfl) (.inl rfl) (.inr ⟨256, by decide +kernel, by decide +kernel, rfl⟩) (.inr rfl)
def ZHA : TI := { agg := false, kin := 4, siz := 1, elm := some (9, 1), zer := some [.e0], byt := some 256 }
theorem ZJX : TIok Tryz.prog 54 ZHA := .of (by kernel_rfl) (by kernel_rfl) (by kernel_rfl) (.inr (by kernel_rfl)) (by kernel_rfl) (.inr (by kernel_rfl)) (.inl rfl) (.inl rfl) (.inl rfl) (.inr ⟨256, by decide +kernel, by decide +kernel, rfl⟩) (.inr rfl)
def ZHS : TI := { agg := true, kin := 0, siz := 5, fld := [(0, 1, false), (1, 1, false), (2, 1, false), (3, 1, false), (4, 1, false)], zer := some [.d (.str ⟨#[]⟩), .e0, .e0, .e0, .e0], str := true, byt := some 256 }
theorem ZIP : TIok Tryz.prog 56 ZHS := .of (by kernel_rfl) (by kernel_rfl) (by kernel_rfl) (.inl rfl) (by kernel_rfl) (.inr (by kernel_rfl)) (.inl rfl) (.inr (by kernel_rfl)) (.inl rfl) (.inr ⟨256, by decide +kernel, by decide +kernel, rfl⟩) (.inr rfl)
def ZH1 : TI := { agg := true, kin := 0, siz := 8, fld := [(0, 1, false), (1, 7, true)], zer := some [.d (.int .i64 0), .d (.int .i64 0), .d (.int .u64 0), .d (.str ⟨#[]⟩), .e0, .e0, .e0, .e0], str := true, byt := some 256 }
theorem ZI8 : TIok Tryz.prog 62 ZH1 := .of (by kernel_rfl) (by kernel_rfl) (by kernel_rfl) (.inl rfl) (by kernel_rfl) (.inr (by kernel_rfl)) (.inl rfl) (.inr (by kernel_rfl)) (.inl rfl) (.inr ⟨256, by decide +kernel, by decide +kernel, rfl⟩) (.inr rfl)
def ZHB : TI := { agg := true, kin := 0, siz := 8, fld := [(0, 5, true), (5, 3, true)], zer := some [.d (.str ⟨#[]⟩), .e0, .e0, .e0, .e0, .e0, .e0, .e0], str := true, byt := some 256 }
theorem ZJn : TIok Tryz.prog 65 ZHB := .of (by kernel_rfl) (by kernel_rfl) (by kernel_rfl) (.inl rfl) (by kernel_rfl) (.inr (by kernel_rfl)) (.inl rfl) (.inr (by kernel_rfl)) (.inl rfl) (.inr ⟨256, by decide +kernel, by decide +kernel, rfl⟩) (.inr rfl)
def ZHC : TI := { agg := true, kin := 0, siz := 14, fld := [(0, 7, true), (7, 7, true)], zer := some [.d (.int .i64 0), .d (.int .u64 0), .d (.str ⟨#[]⟩), .e0, .e0, .e0, .e0, .d (.int .i64 0), .d (.int .u64 0), .d (.str ⟨#[]⟩), .e0, .e0, .e0, .e0], str := true, byt := some 256 }
theorem ZJD : TIok Tryz.prog 73 ZHC := .of (by kernel_rfl) (by kernel_rfl) (by kernel_rfl) (.inl rfl) (by kernel_rfl) (.inr (by kernel_rfl)) (.inl rfl) (.inr (by kernel_rfl)) (.inl rfl) (.inr ⟨256, by decide +kernel, by decide +kernel, rfl⟩) (.inr rfl)
def ZHi : TI := { agg := true, kin := 0, siz := 4, fld := [(0, 1, false), (1, 1, false), (2, 1, false), (3, 1, false)], zer := some [.d (.int .i64 0), .d (.int .i64 0), .d (.int .u64 0), .d (.str ⟨#[]⟩)], eqt := some [3, 3, 3, 2], str := true, byt := some 256 }
theorem ZJh : TIok Tryz.prog 75 ZHi := .of (by kernel_rfl) (by kernel_rfl) (by kernel_rfl) (.inl rfl) (by kernel_rfl) (.inr (by kernel_rfl)) (.inr (by kernel_rfl)) (.inr (by kernel_rfl)) (.inl rfl) (.inr ⟨256, by decide +kernel, by decide +kernel, rfl⟩) (.inr rfl)
def ZHO : TI := { agg := false, kin := 0, siz := 1, zer := some [.p .nilFunc] }
theorem ZJO : TIok Tryz.prog 80 ZHO := .of (by kernel_rfl) (by kernel_rfl) (by kernel_rfl) (.inl rfl) (by kernel_rfl) (.inr (by kernel_rfl)) (.inl rfl) (.inl rfl) (.inl rfl) (.inl rfl) (.inr rfl)
def ZHb : TI := { agg := false, kin := 4, siz := 1, elm := some (91, 3), zer := some [.e0], byt := some 256 }
theorem ZJa : TIok Tryz.prog 87 ZHb := .of (by kernel_rfl) (by kernel_rfl) (by kernel_rfl) (.inr (by kernel_rfl)) (by kernel_rfl) (.inr (by kernel_rfl)) (.inl rfl) (.inl rfl) (.inl rfl) (.inr ⟨256, by decide +kernel, by decide +kernel, rfl⟩) (.inr rfl)
def ZHI : TI := { agg := true, kin := 0, siz := 5, fld := [(0, 1, false), (1, 1, false), (2, 1, false), (3, 1, false), (4, 1, false)], zer := some [.d (.str ⟨#[]⟩), .d (.bool false), .e0, .e0, .e0], str := true, byt := some 256 }
theorem ZIv : TIok Tryz.prog 89 ZHI := .of (by kernel_rfl) (by kernel_rfl) (by kernel_rfl) (.inl rfl) (by kernel_rfl) (.inr (by kernel_rfl)) (.inl rfl) (.inr (by kernel_rfl)) (.inl rfl) (.inr ⟨256, by decide +kernel, by decide +kernel, rfl⟩) (.inr rfl)
def ZHc : TI := { agg := true, kin := 0, siz := 3, fld := [(0, 1, false), (1, 1, false), (2, 1, false)], zer := some [.d (.str ⟨#[]⟩), .d (.int .i64 0), .e0], str := true, byt := some 256 }
theorem ZIw : TIok Tryz.prog 91 ZHc := .of (by kernel_rfl) (by kernel_rfl) (by kernel_rfl) (.inl rfl) (by kernel_rfl) (.inr (by kernel_rfl)) (.inl rfl) (.inr (by kernel_rfl)) (.inl rfl) (.inr ⟨256, by decide +kernel, by decide +kernel, rfl⟩) (.inr rfl)
def ZIj : TI := { agg := false, kin := 4, siz := 1, elm := some (96, 5), zer := some [.e0], byt := some 256 }
theorem ZJZ : TIok Tryz.prog 92 ZIj := .of (by kernel_rfl) (by kernel_rfl) (by kernel_rfl) (.inr (by kernel_rfl)) (by kernel_rfl) (.inr (by kernel_rfl)) (.inl rfl) (.inl rfl) (.inl rfl) (.inr ⟨256, by decide +kernel, by decide +kernel, rfl⟩) (.inr rfl)
def ZIk : TI := { agg := true, kin := 0, siz := 3, fld := [(0, 1, false), (1, 1, false), (2, 1, false)], zer := some [.d (.str ⟨#[]⟩), .e0, .e0], str := true, byt := some 256 }
theorem ZIt : TIok Tryz.prog 94 ZIk := .of (by kernel_rfl) (by kernel_rfl) (by kernel_rfl) (.inl rfl) (by kernel_rfl) (.inr (by kernel_rfl)) (.inl rfl) (.inr (by kernel_rfl)) (.inl rfl) (.inr ⟨256, by decide +kernel, by decide +kernel, rfl⟩) (.inr rfl)
def ZHm : TI := { agg := true, kin := 0, siz := 5, fld := [(0, 1, false), (1, 1, false), (2, 1, false), (3, 1, false), (4, 1, false)], zer := some [.d (.str ⟨#[]⟩), .d (.str ⟨#[]⟩), .d (.str ⟨#[]⟩), .d (.int .i64 0), .e0], str := true, byt := some 256 }
theorem ZI2 : TIok Tryz.prog 96 ZHm := .of (by kernel_rfl) (by kernel_rfl) (by kernel_rfl) (.inl rfl) (by kernel_rfl) (.inr (by kernel_rfl)) (.inl rfl) (.inr (by kernel_rfl)) (.inl rfl) (.inr ⟨256, by decide +kernel, by decide +kernel, rfl⟩) (.inr rfl)
def ZGY : TI := { agg := false, kin := 4, siz := 1, elm := some (147, 3), zer := some [.e0], byt := some 256 }
theorem ZJg : TIok Tryz.prog 97 ZGY := .of (by kernel_rfl) (by kernel_rfl) (by kernel_rfl) (.inr (by kernel_rfl)) (by kernel_rfl) (.inr (by kernel_rfl)) (.inl rfl) (.inl rfl) (.inl rfl) (.inr ⟨256, by decide +kernel, by decide +kernel, rfl⟩) (.inr rfl)
def ZBF : TI := { agg := false, kin := 0, siz := 1, zer := some [.p .nilFunc] }
theorem ZGq : TIok Tryz.prog 106 ZBF := .of (by kernel_rfl) (by kernel_rfl) (by kernel_rfl) (.inl rfl) (by kernel_rfl) (.inr (by kernel_rfl)) (.inl rfl) (.inl rfl) (.inl rfl) (.inl rfl) (.inr rfl)
def Zzy : TI := { agg := false, kin := 0, siz := 1, zer := some [.p .nilFunc] }
theorem ZFh : TIok Tryz.prog 108 Zzy := .of (by kernel_rfl) (by kernel_rfl) (by kernel_rfl) (.inl rfl) (by kernel_rfl) (.inr (by kernel_rfl)) (.inl rfl) (.inl rfl) (.inl rfl) (.inl rfl) (.inr rfl)
def Zzh : TI := { agg := true, kin := 0, siz := 8, fld := [(0, 1, false), (1, 7, true)], zer := some [.d (.str ⟨#[]⟩), .d (.int .i64 0), .d (.int .u64 0), .d (.str ⟨#[]⟩), .e0, .e0, .e0, .e0], str := true, byt := some 256 }
theorem ZFi : TIok Tryz.prog 116 Zzh := .of (by kernel_rfl) (by kernel_rfl) (by kernel_rfl) (.inl rfl) (by kernel_rfl) (.inr (by kernel_rfl)) (.inl rfl) (.inr (by kernel_rfl)) (.inl rfl) (.inr ⟨256, by decide +kernel, by decide +kernel, rfl⟩) (.inr rfl)
def ZBv : TI := { agg := true, kin := 0, siz := 2, fld := [(0, 1, false), (1, 1, false)], zer := some [.d (.str ⟨#[]⟩), .e0], str := true, byt := some 256 }
theorem ZFE : TIok Tryz.prog 118 ZBv := .of (by kernel_rfl) (by kernel_rfl) (by kernel_rfl) (.inl rfl) (by kernel_rfl) (.inr (by kernel_rfl)) (.inl rfl) (.inr (by kernel_rfl)) (.inl rfl) (.inr ⟨256, by decide +kernel, by decide +kernel, rfl⟩) (.inr rfl)
def ZCx : TI := { agg := false, kin := 4, siz := 1, elm := some (4, 1), zer := some [.e0], byt := some 256 }
theorem ZGD : TIok Tryz.prog 123 ZCx := .of (by kernel_rfl) (by kernel_rfl) (by kernel_rfl) (.inr (by kernel_rfl)) (by kernel_rfl) (.inr (by kernel_rfl)) (.inl rfl) (.inl rfl) (.inl rfl) (.inr ⟨256, by decide +kernel, by decide +kernel, rfl⟩) (.inr rfl)
def ZBi : TI := { agg := false, kin := 0, siz := 1, mp := some (false, [.int .i64 0]), zer := some [.p (.map none)] }
theorem ZEL : TIok Tryz.prog 131 ZBi := .of (by kernel_rfl) (by kernel_rfl) (by kernel_rfl) (.inl rfl) (by kernel_rfl) (.inr (by kernel_rfl)) (.inl rfl) (.inl rfl) (.inl rfl) (.inl rfl) (.inr rfl)
def ZDQ : TI := { agg := false, kin := 0, siz := 1, mp := some (true, [.str ⟨#[]⟩, .list [], .list [], .list [], .list []]), zer := some [.p (.map none)] }
theorem ZGe : TIok Tryz.prog 132 ZDQ := .of (by kernel_rfl) (by kernel_rfl) (by kernel_rfl) (.inl rfl) (by kernel_rfl) (.inr (by kernel_rfl)) (.inl rfl) (.inl rfl) (.inl rfl) (.inl rfl) (.inr rfl)
def ZBJ : TI := { agg := false, kin := 0, siz := 1, mp := some (false, [.bool false]), zer := some [.p (.map none)] }
theorem ZGj : TIok Tryz.prog 133 ZBJ := .of (by kernel_rfl) (by kernel_rfl) (by kernel_rfl) (.inl rfl) (by kernel_rfl) (.inr (by kernel_rfl)) (.inl rfl) (.inl rfl) (.inl rfl) (.inl rfl) (.inr rfl)
def Zzn : TI := { agg := true, kin := 0, siz := 2, fld := [(0, 1, false), (1, 1, false)], zer := some [.p (.map none), .p (.map none)], str := true, byt := some 256 }
theorem ZGw : TIok Tryz.prog 135 Zzn := .of (by kernel_rfl) (by kernel_rfl) (by kernel_rfl) (.inl rfl) (by kernel_rfl) (.inr (by kernel_rfl)) (.inl rfl) (.inr (by kernel_rfl)) (.inl rfl) (.inr ⟨256, by decide +kernel, by decide +kernel, rfl⟩) (.inr rfl)
def ZAi : TI := { agg := false, kin := 0, siz := 1, zer := some [.p .nilFunc] }
theorem ZGh : TIok Tryz.prog 139 ZAi := .of (by kernel_rfl) (by kernel_rfl) (by kernel_rfl) (.inl rfl) (by kernel_rfl) (.inr (by kernel_rfl)) (.inl rfl) (.inl rfl) (.inl rfl) (.inl rfl) (.inr rfl)
def Zzo : TI := { agg := false, kin := 0, siz := 1, zer := some [.p .nilFunc] }
theorem ZET : TIok Tryz.prog 141 Zzo := .of (by kernel_rfl) (by kernel_rfl) (by kernel_rfl) (.inl rfl) (by kernel_rfl) (.inr (by kernel_rfl)) (.inl rfl) (.inl rfl) (.inl rfl) (.inl rfl) (.inr rfl)
def Zzu : TI := { agg := false, kin := 0, siz := 1, zer := some [.p .nilFunc] }
theorem ZGo : TIok Tryz.prog 142 Zzu := .of (by kernel_rfl) (by kernel_rfl) (by kernel_rfl) (.inl rfl) (by kernel_rfl) (.inr (by kernel_rfl)) (.inl rfl) (.inl rfl) (.inl rfl) (.inl rfl) (.inr rfl)
def ZBz : TI := { agg := false, kin := 0, siz := 1, zer := some [.p .nilFunc] }
theorem ZGm : TIok Tryz.prog 144 ZBz := .of (by kernel_rfl) (by kernel_rfl) (by kernel_rfl) (.inl rfl) (by kernel_rfl) (.inr (by kernel_rfl)) (.inl rfl) (.inl rfl) (.inl rfl) (.inl rfl) (.inr rfl)
def ZzZ : TI := { agg := false, kin := 0, siz := 1, zer := some [.p (.pointer none)] }
theorem ZFU : TIok Tryz.prog 145 ZzZ := .of (by kernel_rfl) (by kernel_rfl) (by kernel_rfl) (.inl rfl) (by kernel_rfl) (.inr (by kernel_rfl)) (.inl rfl) (.inl rfl) (.inl rfl) (.inl rfl) (.inr rfl)
def ZAM : TI := { agg := true, kin := 0, siz := 3, fld := [(0, 1, false), (1, 1, false), (2, 1, false)], zer := some [.d (.str ⟨#[]⟩), .d (.int .i64 0), .d (.int .i64 0)], eqt := some [2, 3, 3], str := true, byt := some 256 }
theorem ZGv : TIok Tryz.prog 147 ZAM := .of (by kernel_rfl) (by kernel_rfl) (by kernel_rfl) (.inl rfl) (by kernel_rfl) (.inr (by kernel_rfl)) (.inr (by kernel_rfl)) (.inr (by kernel_rfl)) (.inl rfl) (.inr ⟨256, by decide +kernel, by decide +kernel, rfl⟩) (.inr rfl)
def ZBE : TI := { agg := false, kin := 0, siz := 1, zer := some [.p .nilFunc] }
theorem ZFx : TIok Tryz.prog 158 ZBE := .of (by kernel_rfl) (by kernel_rfl) (by kernel_rfl) (.inl rfl) (by kernel_rfl) (.inr (by kernel_rfl)) (.inl rfl) (.inl rfl) (.inl rfl) (.inl rfl) (.inr rfl)
def ZAo : TI := { agg := false, kin := 0, siz := 1, zer := some [.p .nilFunc] }
theorem ZFt : TIok Tryz.prog 162 ZAo := .of (by kernel_rfl) (by kernel_rfl) (by kernel_rfl) (.inl rfl) (by kernel_rfl) (.inr (by kernel_rfl)) (.inl rfl) (.inl rfl) (.inl rfl) (.inl rfl) (.inr rfl)
def ZD3 : TI := { agg := true, kin := 0, siz := 7, fld := [(0, 1, false), (1, 1, false), (2, 1, false), (3, 1, false), (4, 1, false), (5, 1, false), (6, 1, false)], zer := some [.d (.int .i64 0), .d (.int .u64 0), .d (.str ⟨#[]⟩), .e0, .e0, .e0, .e0], str := true, byt := some 256 }
theorem ZF5 : TIok Tryz.prog 170 ZD3 := .of (by kernel_rfl) (by kernel_rfl) (by kernel_rfl) (.inl rfl) (by kernel_rfl) (.inr (by kernel_rfl)) (.inl rfl) (.inr (by kernel_rfl)) (.inl rfl) (.inr ⟨256, by decide +kernel, by decide +kernel, rfl⟩) (.inr rfl)
def ZDW : TI := { agg := false, kin := 4, siz := 1, elm := some (33, 7), zer := some [.e0], byt := some 256 }
theorem ZEK : TIok Tryz.prog 171 ZDW := .of (by kernel_rfl) (by kernel_rfl) (by kernel_rfl) (.inr (by kernel_rfl)) (by kernel_rfl) (.inr (by kernel_rfl)) (.inl rfl) (.inl rfl) (.inl rfl) (.inr ⟨256, by decide +kernel, by decide +kernel, rfl⟩) (.inr rfl)
def ZAa : TI := { agg := false, kin := 4, siz := 1, elm := some (73, 14), zer := some [.e0], byt := some 256 }
theorem ZE1 : TIok Tryz.prog 173 ZAa := .of (by kernel_rfl) (by kernel_rfl) (by kernel_rfl) (.inr (by kernel_rfl)) (by kernel_rfl) (.inr (by kernel_rfl)) (.inl rfl) (.inl rfl) (.inl rfl) (.inr ⟨256, by decide +kernel, by decide +kernel, rfl⟩) (.inr rfl)
def ZzL : TI := { agg := false, kin := 0, siz := 1, zer := some [.p .nilFunc] }
theorem ZEQ : TIok Tryz.prog 175 ZzL := .of (by kernel_rfl) (by kernel_rfl) (by kernel_rfl) (.inl rfl) (by kernel_rfl) (.inr (by kernel_rfl)) (.inl rfl) (.inl rfl) (.inl rfl) (.inl rfl) (.inr rfl)
def Zzf : TI := { agg := true, kin := 0, siz := 2, fld := [(0, 1, false), (1, 1, false)], zer := some [.e0, .e0], str := true, byt := some 256 }
theorem ZE9 : TIok Tryz.prog 177 Zzf := .of (by kernel_rfl) (by kernel_rfl) (by kernel_rfl) (.inl rfl) (by kernel_rfl) (.inr (by kernel_rfl)) (.inl rfl) (.inr (by kernel_rfl)) (.inl rfl) (.inr ⟨256, by decide +kernel, by decide +kernel, rfl⟩) (.inr rfl)
def ZDl : TI := { agg := false, kin := 0, siz := 1, zer := some [.p .nilFunc] }
theorem ZFp : TIok Tryz.prog 180 ZDl := .of (by kernel_rfl) (by kernel_rfl) (by kernel_rfl) (.inl rfl) (by kernel_rfl) (.inr (by kernel_rfl)) (.inl rfl) (.inl rfl) (.inl rfl) (.inl rfl) (.inr rfl)
def ZCP : TI := { agg := false, kin := 0, siz := 1, zer := some [.p .nilFunc] }
theorem ZFu : TIok Tryz.prog 182 ZCP := .of (by kernel_rfl) (by kernel_rfl) (by kernel_rfl) (.inl rfl) (by kernel_rfl) (.inr (by kernel_rfl)) (.inl rfl) (.inl rfl) (.inl rfl) (.inl rfl) (.inr rfl)
def Zzv : TI := { agg := true, kin := 0, siz := 2, fld := [(0, 1, false), (1, 1, false)], zer := some [.d (.int .i64 0), .d (.int .i64 0)], eqt := some [3, 3], str := true, byt := some 256 }
theorem ZFd : TIok Tryz.prog 186 Zzv := .of (by kernel_rfl) (by kernel_rfl) (by kernel_rfl) (.inl rfl) (by kernel_rfl) (.inr (by kernel_rfl)) (.inr (by kernel_rfl)) (.inr (by kernel_rfl)) (.inl rfl) (.inr ⟨256, by decide +kernel, by decide +kernel, rfl⟩) (.inr rfl)
def ZBP : TI := { agg := false, kin := 0, siz := 1, zer := some [.p .nilFunc] }
theorem ZGb : TIok Tryz.prog 192 ZBP := .of (by kernel_rfl) (by kernel_rfl) (by kernel_rfl) (.inl rfl) (by kernel_rfl) (.inr (by kernel_rfl)) (.inl rfl) (.inl rfl) (.inl rfl) (.inl rfl) (.inr rfl)
def ZBD : TI := { agg := false, kin := 4, siz := 1, elm := some (3, 1), zer := some [.e0], byt := some 256 }
theorem ZFw : TIok Tryz.prog 200 ZBD := .of (by kernel_rfl) (by kernel_rfl) (by kernel_rfl) (.inr (by kernel_rfl)) (by kernel_rfl) (.inr (by kernel_rfl)) (.inl rfl) (.inl rfl) (.inl rfl) (.inr ⟨256, by decide +kernel, by decide +kernel, rfl⟩) (.inr rfl)
def ZBS : TI := { agg := false, kin := 3, siz := 1, zer := some [.d (.int .u64 0)], ik := some .u64, byt := some 256 }
theorem ZFS : TIok Tryz.prog 212 ZBS := .of (by kernel_rfl) (by kernel_rfl) (by kernel_rfl) (.inl rfl) (by kernel_rfl) (.inr (by kernel_rfl)) (.inl rfl) (.inl rfl) (.inr (by kernel_rfl)) (.inr ⟨256, by decide +kernel, by decide +kernel, rfl⟩) (.inr rfl)
def ZAs : TI := { agg := false, kin := 3, siz := 1, zer := some [.d (.int .i64 0)], ik := some .i64, byt := some 256 }
theorem ZGl : TIok Tryz.prog 222 ZAs := .of (by kernel_rfl) (by kernel_rfl) (by kernel_rfl) (.inl rfl) (by kernel_rfl) (.inr (by kernel_rfl)) (.inl rfl) (.inl rfl) (.inr (by kernel_rfl)) (.inr ⟨256, by decide +kernel, by decide +kernel, rfl⟩) (.inr rfl)
def ZDG : TI := { agg := false, kin := 3, siz := 1, zer := some [.d (.int .u32 0)], ik := some .u32, byt := some 256 }
theorem ZF7 : TIok Tryz.prog 231 ZDG := .of (by kernel_rfl) (by kernel_rfl) (by kernel_rfl) (.inl rfl) (by kernel_rfl) (.inr (by kernel_rfl)) (.inl rfl) (.inl rfl) (.inr (by kernel_rfl)) (.inr ⟨256, by decide +kernel, by decide +kernel, rfl⟩) (.inr rfl)
def ZAe : TI := { agg := false, kin := 3, siz := 1, zer := some [.d (.int .u64 0)], ik := some .u64, byt := some 256 }
theorem ZFs : TIok Tryz.prog 236 ZAe := .of (by kernel_rfl) (by kernel_rfl) (by kernel_rfl) (.inl rfl) (by kernel_rfl) (.inr (by kernel_rfl)) (.inl rfl) (.inl rfl) (.inr (by kernel_rfl)) (.inr ⟨256, by decide +kernel, by decide +kernel, rfl⟩) (.inr rfl)
def ZCL : TI := { agg := false, kin := 0, siz := 1, zer := some [.p (.pointer none)] }
theorem ZF3 : TIok Tryz.prog 240 ZCL := .of (by kernel_rfl) (by kernel_rfl) (by kernel_rfl) (.inl rfl) (by kernel_rfl) (.inr (by kernel_rfl)) (.inl rfl) (.inl rfl) (.inl rfl) (.inl rfl) (.inr rfl)
def ZB8 : TI := { agg := false, kin := 0, siz := 1, zer := some [.p (.pointer none)] }
theorem ZGc : TIok Tryz.prog 244 ZB8 := .of (by kernel_rfl) (by kernel_rfl) (by kernel_rfl) (.inl rfl) (by kernel_rfl) (.inr (by kernel_rfl)) (.inl rfl) (.inl rfl) (.inl rfl) (.inl rfl) (.inr rfl)
def tl : List (Nat × TI) := [(3, ti3), (4, ti4), (5, ti5), (9, ti9), (20, ZHw), (21, ZHK), (22, ZHz), (23, ZHE), (24, ZGK), (26, ZH5), (27, ZHx), (28, ZIm), (29, ZGZ), (30, ZGT), (31, ZHo), (33, ZHJ), (37, ZHD), (48, ZH6), (49, ZHQ), (51, ZIc), (52, ZGN), (53, ZHy), (54, ZHA), (56, ZHS), (62, ZH1), (65, ZHB), (73, ZHC), (75, ZHi), (80, ZHO), (87, ZHb), (89, ZHI), (91, ZHc), (92, ZIj), (94, ZIk), (96, ZHm), (97, ZGY), (106, ZBF), (108, Zzy), (116, Zzh), (118, ZBv), (123, ZCx), (131, ZBi), (132, ZDQ), (133, ZBJ), (135, Zzn), (139, ZAi), (141, Zzo), (142, Zzu), (144, ZBz), (145, ZzZ), (147, ZAM), (158, ZBE), (162, ZAo), (170, ZD3), (171, ZDW), (173, ZAa), (175, ZzL), (177, Zzf), (180, ZDl), (182, ZCP), (186, Zzv), (192, ZBP), (200, ZBD), (212, ZBS), (222, ZAs), (231, ZDG), (236, ZAe), (240, ZCL), (244, ZB8)]
theorem tok : TOk Tryz.prog (lkT tl) := ZsA tl (by
 intro p hp
 simp only [tl, Yw, List.not_mem_nil, or_false] at hp
 rcases hp with rfl | rfl | rfl | rfl | rfl | rfl | rfl | rfl | rfl | rfl | rfl | rfl | rfl | rfl | rfl | rfl | rfl | rfl | rfl | rfl | rfl | rfl | rfl | rfl | rfl | rfl | rfl | rfl | rfl | rfl | rfl | rfl | rfl | rfl | rfl | rfl | rfl | rfl | rfl | rfl | rfl | rfl | rfl | rfl | rfl | rfl | rfl | rfl | rfl | rfl | rfl | rfl | rfl | rfl | rfl | rfl | rfl | rfl | rfl | rfl | rfl | rfl | rfl | rfl | rfl | rfl | rfl | rfl | rfl
 ·exact tk3
 ·exact tk4
 ·exact tk5
 ·exact tk9
 ·exact ZJt
 ·exact ZJd
 ·exact ZID
 ·exact ZIO
 ·exact ZJq
 ·exact ZJr
 ·exact ZJu
 ·exact ZIM
 ·exact ZI0
 ·exact ZJW
 ·exact ZJL
 ·exact ZJ0
 ·exact ZJG
 ·exact ZJo
 ·exact ZJI
 ·exact ZJy
 ·exact ZI6
 ·exact ZIp
 ·exact ZJX
 ·exact ZIP
 ·exact ZI8
 ·exact ZJn
 ·exact ZJD
 ·exact ZJh
 ·exact ZJO
 ·exact ZJa
 ·exact ZIv
 ·exact ZIw
 ·exact ZJZ
 ·exact ZIt
 ·exact ZI2
 ·exact ZJg
 ·exact ZGq
 ·exact ZFh
 ·exact ZFi
 ·exact ZFE
 ·exact ZGD
 ·exact ZEL
 ·exact ZGe
 ·exact ZGj
 ·exact ZGw
 ·exact ZGh
 ·exact ZET
 ·exact ZGo
 ·exact ZGm
 ·exact ZFU
 ·exact ZGv
 ·exact ZFx
 ·exact ZFt
 ·exact ZF5
 ·exact ZEK
 ·exact ZE1
 ·exact ZEQ
 ·exact ZE9
 ·exact ZFp
 ·exact ZFu
 ·exact ZFd
 ·exact ZGb
 ·exact ZFw
 ·exact ZFS
 ·exact ZGl
 ·exact ZF7
 ·exact ZFs
 ·exact ZF3
 ·exact ZGc)
theorem tmo : Tryz.prog.follows .mixedOrders = true := by kernel_rfl
end Go.Proofs.YtpjofefihlbppaaGreat
