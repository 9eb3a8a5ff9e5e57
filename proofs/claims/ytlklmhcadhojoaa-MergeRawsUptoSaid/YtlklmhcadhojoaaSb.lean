/-
  Walks and models of functions of this seat; by program (gen.py, seat.py), laws of the models by hand.
-/
import Derived.Test.YtlklmhcadhojoaaSa
import Derived.Test.YtlklmhcadhojoaaSrt
namespace Go.Proofs.Ytlklmhcadhojoaa
set_option linter.all false
open Go Go.Eng
def M_isNaN_int (x : Int) : Bool := (!decide (x = x))
set_option maxRecDepth 100000 in
theorem K_isNaN_int_b (C : Cx) (hC : CxOk C) (hO : C.outs = 0) (hF : C.fx = []) (x : Int)  (Post : AV → List Blk → Prop) (h : Post (.d (.bool (M_isNaN_int x))) []) : LW Try.prog 6 C (bodyOf Try.f23) (mkS (zipS 0 [.d (.int .i64 x)]) []) (FQ (lkT tl) [.tmp 2] 0 Post) := by
  refine LW_fin2 hC tok tmo hO (.nil) [.tmp 2] (fun r Post => (Post (.d (.bool (!decide (x = x)))) [])) (fun r Post => by kernel_rfl) (fun r hθ hH hκ hN => ?_)
  · have hh := h
    simp only [M_isNaN_int, cond_true, cond_false, Sum.elim_inl, Sum.elim_inr] at hh
    simpa using hh
theorem K_isNaN_int (ℓ : Nat) (ℋ : Hp)  (x : Int)   (Post : AV → Hp → Prop) (h : Post (.d (.bool (M_isNaN_int x))) ℋ) : ACall Try.prog 23 ℓ [.d (.int .i64 x)] ℋ Post :=
  acall_pure (n := 6) [.tmp 2] (bodyOf Try.f23) (fun _ => .top) [.d (.int .i64 x)] Try.func23 (by kernel_rfl) (by kernel_rfl) Try.ntmps23 (by kernel_rfl) (by simp) tok (by kernel_rfl) (fun B => K_isNaN_int_b (cxP ℓ (fun _ => .top) ℋ B) (cxOk_pure ℓ B _ ℋ) rfl rfl x  (fun y _ => Post y ℋ) h)
def M_Compare_int (x : Int) (y : Int) : Int := cond ((M_isNaN_int x)) (cond ((M_isNaN_int y)) (0) ((-1))) (cond ((M_isNaN_int y)) (1) (cond (decide (x < y)) ((-1)) (cond (decide (y < x)) (1) (0))))
set_option maxRecDepth 100000 in
theorem K_Compare_int_b (C : Cx) (hC : CxOk C) (hO : C.outs = 0) (hF : C.fx = []) (x : Int) (y : Int)  (Post : AV → List Blk → Prop) (h : Post (.d (.int .i64 (M_Compare_int x y))) []) : LW Try.prog 20 C (bodyOf Try.f11) (mkS (zipS 0 [.d (.int .i64 x), .d (.int .i64 y)]) []) (FQ (lkT tl) [.tmp 4] 0 Post) := by
  refine LW_fin2 hC tok tmo hO (.call (.d (.bool (M_isNaN_int x))) [] (.call (.d (.bool (M_isNaN_int y))) [] (.br (.br (.nil) (.nil)) (.br (.nil) (.br (.nil) (.br (.nil) (.nil))))))) [.tmp 4] (fun r Post => CallS Try.prog C.l r 23 ([] ++ [.d (.int .i64 x)] ++ []) [] (.d (.bool (M_isNaN_int x))) ∧ CallS Try.prog C.l r 23 ([] ++ [.d (.int .i64 y)] ++ []) [] (.d (.bool (M_isNaN_int y))) ∧ ((M_isNaN_int x) = true → ((M_isNaN_int y) = true → (Post (.d (.int .i64 0)) [])) ∧ ((M_isNaN_int y) = false → (Post (.d (.int .i64 (-1))) []))) ∧ ((M_isNaN_int x) = false → ((M_isNaN_int y) = true → (Post (.d (.int .i64 1)) [])) ∧ ((M_isNaN_int y) = false → ((decide (x < y)) = true → (Post (.d (.int .i64 (-1))) [])) ∧ ((decide (x < y)) = false → ((decide (y < x)) = true → (Post (.d (.int .i64 1)) [])) ∧ ((decide (y < x)) = false → (Post (.d (.int .i64 0)) [])))))) (fun r Post => by kernel_rfl) (fun r hθ hH hκ hN => ⟨(callS_of (fun H' => K_isNaN_int _ H' x  _ ⟨rfl, rfl⟩) (by kernel_rfl) (by kernel_rfl)), (callS_of (fun H' => K_isNaN_int _ H' y  _ ⟨rfl, rfl⟩) (by kernel_rfl) (by kernel_rfl)), fun h1 => ⟨fun h2 => ?_, fun h2 => ?_⟩, fun h1 => ⟨fun h3 => ?_, fun h3 => ⟨fun h4 => ?_, fun h4 => ⟨fun h5 => ?_, fun h5 => ?_⟩⟩⟩⟩)
  · have hh := h
    simp only [M_Compare_int, h1, h2, cond_true, cond_false, Sum.elim_inl, Sum.elim_inr] at hh
    exact hh
  · have hh := h
    simp only [M_Compare_int, h1, h2, cond_true, cond_false, Sum.elim_inl, Sum.elim_inr] at hh
    exact hh
  · have hh := h
    simp only [M_Compare_int, h1, h3, cond_true, cond_false, Sum.elim_inl, Sum.elim_inr] at hh
    exact hh
  · have hh := h
    simp only [M_Compare_int, h1, h3, h4, cond_true, cond_false, Sum.elim_inl, Sum.elim_inr] at hh
    exact hh
  · have hh := h
    simp only [M_Compare_int, h1, h3, h4, h5, cond_true, cond_false, Sum.elim_inl, Sum.elim_inr] at hh
    exact hh
  · have hh := h
    simp only [M_Compare_int, h1, h3, h4, h5, cond_true, cond_false, Sum.elim_inl, Sum.elim_inr] at hh
    exact hh
theorem K_Compare_int (ℓ : Nat) (ℋ : Hp)  (x : Int) (y : Int)   (Post : AV → Hp → Prop) (h : Post (.d (.int .i64 (M_Compare_int x y))) ℋ) : ACall Try.prog 11 ℓ [.d (.int .i64 x), .d (.int .i64 y)] ℋ Post :=
  acall_pure (n := 20) [.tmp 4] (bodyOf Try.f11) (fun _ => .top) [.d (.int .i64 x), .d (.int .i64 y)] Try.func11 (by kernel_rfl) (by kernel_rfl) Try.ntmps11 (by kernel_rfl) (by simp) tok (by kernel_rfl) (fun B => K_Compare_int_b (cxP ℓ (fun _ => .top) ℋ B) (cxOk_pure ℓ B _ ℋ) rfl rfl x y  (fun y _ => Post y ℋ) h)
theorem compare_lt (x y : Int) : M_Compare_int x y < 0 ↔ x < y := by
  have e : ∀ x, M_isNaN_int x = false := fun x => by rw [M_isNaN_int]; simp
  rw [M_Compare_int, e, e]
  simp only [cond_false]
  by_cases h : x < y
  · rw [decide_eq_true h, cond_true]; exact ⟨fun _ => h, fun _ => by decide⟩
  · rw [decide_eq_false h, cond_false]
    refine ⟨fun h' => ?_, fun h' => absurd h' h⟩
    cases hd : decide (y < x) with
    | true => rw [hd] at h'; exact absurd h' (by decide)
    | false => rw [hd] at h'; exact absurd h' (by decide)
theorem cmpLaw_int {α : Type} (k : α → Int) {cf : α → α → Int} (h : ∀ x y, cf x y = M_Compare_int (k x) (k y)) : CmpLaw cf :=
  ⟨fun x y w => by simp only [h, compare_lt]; omega, fun x y w => by simp only [h, compare_lt]; omega, fun x => by simp only [h, compare_lt]; omega⟩
def M_Raws_1 (x : Raw) (y : Raw) : Int := (M_Compare_int x.num y.num)
set_option maxRecDepth 100000 in
theorem K_Raws_1_b (C : Cx) (hC : CxOk C) (hO : C.outs = 0) (hF : C.fx = []) (x : Raw) (y : Raw)  (Post : AV → List Blk → Prop) (h : Post (.d (.int .i64 (M_Raws_1 x y))) []) : LW Try.prog 10 C (bodyOf Try.f10) (mkS (zipS 0 [.agg ((eRaw x).map .d), .agg ((eRaw y).map .d)]) []) (FQ (lkT tl) [.tmp 4] 0 Post) := by
  refine LW_fin2 hC tok tmo hO (.go (.go (.call (.d (.int .i64 (M_Compare_int x.num y.num))) [] (.nil)))) [.tmp 4] (fun r Post => CallS Try.prog C.l r 11 ([] ++ [.d (.int .i64 x.num), .d (.int .i64 y.num)] ++ []) [] (.d (.int .i64 (M_Compare_int x.num y.num))) ∧ (Post (.d (.int .i64 (M_Compare_int x.num y.num))) [])) (fun r Post => by kernel_rfl) (fun r hθ hH hκ hN => ⟨(callS_of (fun H' => K_Compare_int _ H' x.num y.num  _ ⟨rfl, rfl⟩) (by kernel_rfl) (by kernel_rfl)), ?_⟩)
  · have hh := h
    simp only [M_Raws_1, cond_true, cond_false, Sum.elim_inl, Sum.elim_inr] at hh
    exact hh
theorem K_Raws_1 (ℓ : Nat) (ℋ : Hp)  (x : Raw) (y : Raw)   (Post : AV → Hp → Prop) (h : Post (.d (.int .i64 (M_Raws_1 x y))) ℋ) : ACall Try.prog 10 ℓ [.agg ((eRaw x).map .d), .agg ((eRaw y).map .d)] ℋ Post :=
  acall_pure (n := 10) [.tmp 4] (bodyOf Try.f10) (fun _ => .top) [.agg ((eRaw x).map .d), .agg ((eRaw y).map .d)] Try.func10 (by kernel_rfl) (by kernel_rfl) Try.ntmps10 (by kernel_rfl) (by simp) tok (by kernel_rfl) (fun B => K_Raws_1_b (cxP ℓ (fun _ => .top) ℋ B) (cxOk_pure ℓ B _ ℋ) rfl rfl x y  (fun y _ => Post y ℋ) h)
theorem cmpLaw_Raws : CmpLaw M_Raws_1 := cmpLaw_int (·.num) (fun x y => rfl)
end Go.Proofs.Ytlklmhcadhojoaa
