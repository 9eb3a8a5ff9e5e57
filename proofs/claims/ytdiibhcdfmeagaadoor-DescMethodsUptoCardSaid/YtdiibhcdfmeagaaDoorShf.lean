/-
  Library functions of this seat: the shelf's contracts, laid at this program's numbers.
-/
import Derived.Test.YtdiibhcdfmeagaaDoorEngZb
import Derived.Test.YtdiibhcdfmeagaaDoorDat
import Derived.Test.YtdiibhcdfmeagaaDoorTab
import Derived.Shelf.Strings.SplitCore
import Derived.Shelf.Strings.Search3
import Derived.Shelf.Strings.Count
import Derived.Lib.SplitLaws
namespace Go.Proofs.YtdiibhcdfmeagaaDoor
set_option linter.all false
open Go Go.Eng Go.Shelf Go.RowKit
def lays221_ren : Go.Shelf.Ren := ⟨fun | 221 => 72 | 268 => 80 | 138 => 81 | 143 => 82 | 195 => 97 | 197 => 98 | 218 => 99 | 219 => 85 | 260 => 112 | 217 => 102 | 225 => 103 | 224 => 104 | 267 => 105 | 266 => 113 | 314 => 114 | n => n, fun | 9 => 9 | 3 => 3 | 31 => 58 | 4 => 4 | 0 => 0 | 105 => 141 | 21 => 21 | 5 => 5 | 46 => 124 | 119 => 158 | 139 => 161 | 138 => 160 | 146 => 153 | 51 => 138 | n => n, fun | 1 => 0 | 3 => 1 | 4 => 2 | n => n⟩
set_option maxRecDepth 100000 in
theorem lays221 : Go.Proofs.Lays.n221 Tryd.prog lays221_ren := {
  mixed := by kernel_rfl,
  f138 := Tryd.func81.trans (congrArg some (by kernel_rfl)),
  f143 := Tryd.func82.trans (congrArg some (by kernel_rfl)),
  f195 := Tryd.func97.trans (congrArg some (by kernel_rfl)),
  f197 := Tryd.func98.trans (congrArg some (by kernel_rfl)),
  f217 := Tryd.func102.trans (congrArg some (by kernel_rfl)),
  f218 := Tryd.func99.trans (congrArg some (by kernel_rfl)),
  f219 := Tryd.func85.trans (congrArg some (by kernel_rfl)),
  f221 := Tryd.func72.trans (congrArg some (by kernel_rfl)),
  f224 := Tryd.func104.trans (congrArg some (by kernel_rfl)),
  f225 := Tryd.func103.trans (congrArg some (by kernel_rfl)),
  f260 := Tryd.func112.trans (congrArg some (by kernel_rfl)),
  f266 := Tryd.func113.trans (congrArg some (by kernel_rfl)),
  f267 := Tryd.func105.trans (congrArg some (by kernel_rfl)),
  f268 := Tryd.func80.trans (congrArg some (by kernel_rfl)),
  f314 := Tryd.func114.trans (congrArg some (by kernel_rfl)),
  t0 := Tryd.underlying0,
  a0 := Tryd.isAgg0,
  z0 := Tryd.sizeOf0,
  v0 := Tryd.zeroValue0,
  t3 := Tryd.underlying3,
  a3 := Tryd.isAgg3,
  z3 := Tryd.sizeOf3,
  v3 := Tryd.zeroValue3,
  t4 := Tryd.underlying4,
  a4 := Tryd.isAgg4,
  z4 := Tryd.sizeOf4,
  v4 := Tryd.zeroValue4,
  t5 := Tryd.underlying5,
  a5 := Tryd.isAgg5,
  z5 := Tryd.sizeOf5,
  v5 := Tryd.zeroValue5,
  t9 := Tryd.underlying9,
  a9 := Tryd.isAgg9,
  z9 := Tryd.sizeOf9,
  v9 := Tryd.zeroValue9,
  t21 := Tryd.underlying21,
  a21 := Tryd.isAgg21,
  z21 := Tryd.sizeOf21,
  v21 := Tryd.zeroValue21,
  t31 := Tryd.underlying58,
  a31 := Tryd.isAgg58,
  z31 := Tryd.sizeOf58,
  v31 := Tryd.zeroValue58,
  t46 := Tryd.underlying124,
  a46 := Tryd.isAgg124,
  z46 := Tryd.sizeOf124,
  v46 := Tryd.zeroValue124,
  t51 := Tryd.underlying138,
  a51 := Tryd.isAgg138,
  z51 := Tryd.sizeOf138,
  v51 := Tryd.zeroValue138,
  t105 := Tryd.underlying141,
  a105 := Tryd.isAgg141,
  z105 := Tryd.sizeOf141,
  v105 := Tryd.zeroValue141,
  t119 := Tryd.underlying158,
  a119 := Tryd.isAgg158,
  z119 := Tryd.sizeOf158,
  t138 := Tryd.underlying160,
  a138 := Tryd.isAgg160,
  z138 := Tryd.sizeOf160,
  v138 := Tryd.zeroValue160,
  t139 := Tryd.underlying161,
  a139 := Tryd.isAgg161,
  z139 := Tryd.sizeOf161,
  v139 := Tryd.zeroValue161,
  t146 := Tryd.underlying153,
  a146 := Tryd.isAgg153,
  z146 := Tryd.sizeOf153,
  v146 := Tryd.zeroValue153,
  g1 := by kernel_rfl,
  g3 := by kernel_rfl,
  g4 := by kernel_rfl }
def M_genSplit (s : ByteArray) (c : UInt8) : List ByteArray := Lib.splitB ⟨#[c]⟩ 0 (Lib.countB s ⟨#[c]⟩) s
theorem splitB_len (sep : ByteArray) (v : Nat) : ∀ (k : Nat) (s : ByteArray), (Lib.splitB sep v k s).length ≤ k + 1
  | 0, s => by simp [Lib.splitB]
  | k + 1, s => by
    unfold Lib.splitB
    split
    · simp
    · have := splitB_len sep v k (s.extract ((Lib.indexB s sep).toNat + sep.size) s.size)
      simp only [List.length_cons]; omega
theorem splitB_size (sep : ByteArray) (v : Nat) : ∀ (k : Nat) (s x : ByteArray), x ∈ Lib.splitB sep v k s → x.size ≤ s.size
  | 0, s, x, h => by simp only [Lib.splitB, List.mem_singleton] at h; subst h; exact Nat.le_refl _
  | k + 1, s, x, h => by
    unfold Lib.splitB at h
    split at h
    · simp only [List.mem_singleton] at h; subst h; exact Nat.le_refl _
    · rcases List.mem_cons.1 h with rfl | h
      · rw [ByteArray.size_extract]; omega
      · have := splitB_size sep v k _ x h
        rw [ByteArray.size_extract] at this; omega
theorem fit_genSplit {s : ByteArray} {c : UInt8} (h : s.size < 2147483647) : Fit (.list ((M_genSplit s c).map eStr)) := by
  have hle := Lib.countB_le ⟨#[c]⟩ (Nat.le_refl _) s.size s (Nat.le_refl _)
  have hlen := splitB_len ⟨#[c]⟩ 0 (Lib.countB s ⟨#[c]⟩) s
  refine .list _ (by rw [List.length_map]; unfold M_genSplit; omega) fun e he x hx => ?_
  obtain ⟨y, hy, rfl⟩ := List.mem_map.1 he
  simp only [eStr, List.mem_singleton] at hx
  subst hx
  have := splitB_size _ _ _ _ _ hy
  exact .str _ (by omega)
theorem K_genSplit (ℓ : Nat) (ℋ : Hp) (s : ByteArray) (c : UInt8) (hf_s : s.size < 2147483648) (Post : AV → Hp → Prop) (h : Post (.d (.list ((M_genSplit s c).map eStr))) ℋ) :
    ACall Tryd.prog 72 ℓ [.d (.str s), .d (.str ⟨#[c]⟩), .d (.int .i64 0), .d (.int .i64 (-1))] ℋ Post := by
  have h1 : (1 : Nat) ≤ (⟨#[c]⟩ : ByteArray).size := Nat.le_refl _
  have hle := Lib.countB_le ⟨#[c]⟩ h1 s.size s (Nat.le_refl _)
  have hlen := Lib.splitB_all ⟨#[c]⟩ h1 0 _ s rfl
  refine acall_row (ds := [.str s, .str ⟨#[c]⟩, .int .i64 0, .int .i64 (-1)]) (V := [.string s, .string ⟨#[c]⟩, .int .i64 (0 : Nat), .int .i64 (-1)]) (es := (Lib.splitB ⟨#[c]⟩ 0 (Lib.countB s ⟨#[c]⟩) s).map eStr)
    (C := ((Lib.splitB ⟨#[c]⟩ 0 (Lib.countB s ⟨#[c]⟩) s).map Value.string).toArray) (e := 9) (sz := 1) (cap := Lib.countB s ⟨#[c]⟩ + 1) ⟨_, bodyOf Tryd.f72, Tryd.func72, by kernel_rfl, by kernel_rfl⟩ rfl ?_ (by simp [hlen]) (by simp [eStr]) ?_ h
  · intro w
    have hc := Any.strings_genSplit_core lays221 (by kernel_rfl) s ⟨#[c]⟩ 0 (-1) (Lib.countB s ⟨#[c]⟩ + 1) w (by omega) h1 (Nat.zero_le _)
      (fun x k hx => (Any.strings_Index_one { lays221 with } x c _).mono fun e w' ⟨he, hw⟩ => ⟨by rw [he]; show _ = Ending.returned (Value.int .i64 (Lib.index x.data.toList [c])); rw [Lib.index_one], hw⟩)
      ((Any.strings_Count_one { lays221 with } s c w).mono fun e w' ⟨he, hw⟩ => ⟨by
        rw [he]
        show _ = Ending.returned (Value.int .i64 ((Lib.count s.data.toList [c] : Nat) : Int))
        rw [Lib.count_one]
        rfl, hw⟩) (by decide) (by decide) (by rw [if_pos (by decide)]; omega)
    rw [Nat.add_sub_cancel, hlen] at hc
    have e2 : Lib.cellsOf (Lib.splitB ⟨#[c]⟩ 0 (Lib.countB s ⟨#[c]⟩) s) (Lib.countB s ⟨#[c]⟩ + 1) = ((Lib.splitB ⟨#[c]⟩ 0 (Lib.countB s ⟨#[c]⟩) s).map Value.string).toArray := by rw [← hlen]; exact Lib.cellsOf_full _
    rw [e2] at hc
    rw [List.length_map, hlen]
    exact hc
  · intro i j x d hi hj
    rw [List.getElem?_map] at hi
    cases hx : (Lib.splitB ⟨#[c]⟩ 0 (Lib.countB s ⟨#[c]⟩) s)[i]? with
    | none => rw [hx] at hi; cases hi
    | some y =>
      rw [hx] at hi
      cases hi
      cases j with
      | zero => cases hj; exact ⟨.string y, by simp [hx], rfl⟩
      | succ j => simp [eStr] at hj
/-- Where the byte c is in s; -1 where it is not. -/
def M_Index1 (s : ByteArray) (c : UInt8) : Int := Lib.indexByte s.data.toList c
theorem index1_lt (s : ByteArray) (c : UInt8) : M_Index1 s c < s.size ∧ -1 ≤ M_Index1 s c := by
  refine ⟨?_, Lib.indexByte_ge _ _⟩
  have key : ∀ l : List UInt8, Lib.indexByte l c < (l.length : Nat) ∨ (l = [] ∧ Lib.indexByte l c = -1) := by
    intro l
    induction l with
    | nil => exact .inr ⟨rfl, rfl⟩
    | cons b l ih =>
      left
      simp only [Lib.indexByte, List.length_cons]
      split
      · omega
      · split <;> rcases ih with h | ⟨h, h'⟩ <;> omega
  have hb : s.data.toList.length = s.size := by rw [Array.length_toList]; rfl
  rcases key s.data.toList with h | ⟨h, h'⟩
  · rw [hb] at h; exact h
  · unfold M_Index1; rw [h']; omega
theorem K_Index1 (ℓ : Nat) (ℋ : Hp) (s : ByteArray) (c : UInt8) (Post : AV → Hp → Prop) (h : Post (.d (.int .i64 (M_Index1 s c))) ℋ) :
    ACall Tryd.prog 85 ℓ [.d (.str s), .d (.str ⟨#[c]⟩)] ℋ Post :=
  acall_same (ds := [.str s, .str ⟨#[c]⟩]) (V := [.string s, .string ⟨#[c]⟩]) ⟨_, bodyOf Tryd.f85, Tryd.func85, by kernel_rfl, by kernel_rfl⟩ rfl
    (fun _ _ _ => .d _ _ (scV_rep rfl)) (fun w => Any.stringslite_Index_one { lays221 with } s c w) h
end Go.Proofs.YtdiibhcdfmeagaaDoor
