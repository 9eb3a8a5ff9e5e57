/-
  Walks and models of functions of this seat; by program (gen.py, seat.py), laws of the models by hand.
-/
import Derived.Test.YtlklmhcadhojoaaSb
import Derived.Test.YtlklmhcadhojoaaEngZf
namespace Go.Proofs.Ytlklmhcadhojoaa
set_option linter.all false
open Go Go.Eng
def lays4_Raw : Go.Shelf.Ren := ⟨fun | 4 => 21 | n => n, fun | 22 => 22 | 25 => 27 | n => n, fun n => n⟩
set_option maxRecDepth 100000 in
theorem lays4L_Raw : Go.Proofs.Lays8.n4 Try.prog lays4_Raw := {
  mixed := by kernel_rfl,
  f4 := ⟨Try.f21.name, by decide +kernel, Try.func21.trans (congrArg some (by kernel_rfl))⟩,
  t0 := Try.underlying0,
  a0 := Try.isAgg0,
  z0 := Try.sizeOf0,
  v0 := Try.zeroValue0,
  t3 := Try.underlying3,
  a3 := Try.isAgg3,
  z3 := Try.sizeOf3,
  v3 := Try.zeroValue3,
  t4 := Try.underlying4,
  a4 := Try.isAgg4,
  z4 := Try.sizeOf4,
  v4 := Try.zeroValue4,
  t9 := Try.underlying9,
  a9 := Try.isAgg9,
  z9 := Try.sizeOf9,
  v9 := Try.zeroValue9,
  t20 := Try.underlying20,
  a20 := Try.isAgg20,
  z20 := Try.sizeOf20,
  v20 := Try.zeroValue20,
  t22 := Try.underlying22,
  a22 := Try.isAgg22,
  z22 := Try.sizeOf22,
  v22 := Try.zeroValue22 }
def M_Grow_Raw (_ : Nat) : List Raw := []
set_option maxRecDepth 100000 in
theorem K_Grow_Raw (ℓ : Nat) (ℋ : Hp) (k0 : Key) (g0 : Nat) (hk0 : k0.1 ≤ ℓ) (n : Nat) (hg0 : (ℋ k0).g = g0) (ha_1 : n < 2147483648) (Post : AV → Hp → Prop) (h : Post (.ref k0 (g0 + 1) 0 ((M_Grow_Raw n).length)) (updP ℋ [k0] [⟨g0 + 1, true, 27, 4, vecC eRaw (M_Grow_Raw n)⟩])) : ACall Try.prog 21 ℓ [.e0, .d (.int .i64 ((n : Nat) : Int))] ℋ Post :=
  have hi : ∃ i0 z, (Try.prog).info? 27 = some i0 ∧ i0.zero = some z ∧ i0.size = 4 ∧ z.cells.size = i0.size ∧ i0.bytes ≤ 4096 := ⟨_, _, rfl, rfl, rfl, by decide +kernel, by decide +kernel⟩
  let ⟨i0, z, h1, h2, h3, h4, h5⟩ := hi
  acall_grow lays4L_Raw i0 z h1 h2 (by rw [h3]; decide) h4 h5 ⟨_, bodyOf Try.f21, Try.func21, by kernel_rfl, by kernel_rfl⟩ hk0 hg0 n ha_1 (by rw [h3]; exact h)
def M_Concat_Raw_L1 (ls : List (List Raw)) : Nat → Nat → Nat → (Nat × Nat) ⊕ (List Raw)
  | 0, v0_3, v0_11 => .inl (v0_3, v0_11)
  | fu0 + 1, v0_3, v0_11 => cond (decide (((v0_11 : Nat) : Int) < ((ls.length : Nat) : Int))) (M_Concat_Raw_L1 ls fu0 (v0_3 + (ls.getD v0_11 []).length) (v0_11 + 1)) (.inl (v0_3, v0_11))
def M_Concat_Raw_L2 (ls : List (List Raw)) : Nat → (List Raw) → Nat → (List Raw × Nat) ⊕ (List Raw)
  | 0, v1_6, v1_27 => .inl (v1_6, v1_27)
  | fu1 + 1, v1_6, v1_27 => cond (decide (((v1_27 : Nat) : Int) < ((ls.length : Nat) : Int))) (M_Concat_Raw_L2 ls fu1 (v1_6 ++ (ls.getD v1_27 [])) (v1_27 + 1)) (.inl (v1_6, v1_27))
def M_Concat_Raw (ls : List (List Raw)) : List Raw := Sum.elim (fun a0 => Sum.elim (fun a1 => a1.1) (fun v => v) (M_Concat_Raw_L2 ls (ls.length - 0 + 1) (M_Grow_Raw a0.1) 0)) (fun v => v) (M_Concat_Raw_L1 ls (ls.length - 0 + 1) 0 0)
set_option maxRecDepth 100000 in
theorem K_Concat_Raw_L1 (C : Cx) (hC : CxOk C) (hO : C.outs = 1) (hF : C.fx = [0]) (hW0 : C.no (C.κ (0, 0))) (ls : List (List Raw)) (ha_1 : (ls.map List.length).sum < 2147483648) (hf_ls : Fit (.list (ls.map eLRaw)))   : ∀ (fu0 : Nat) (v0_3 : Nat) (v0_11 : Nat), ls.length - v0_11 < fu0 → v0_11 ≤ ls.length → v0_3 = ((ls.take v0_11).map List.length).sum →  ∀ Q : Exit → St → Prop, (∀ rslt, M_Concat_Raw_L1 ls fu0 v0_3 v0_11 = .inl rslt → rslt.2 ≤ ls.length → rslt.1 = ((ls.take rslt.2).map List.length).sum → Q (.exit 0) (mkS [(0, .d (.list (ls.map eLRaw))), (3, .d (.int .i64 ((rslt.1 : Nat) : Int)))] [])) →
    (∀ τ, FQ (lkT tl) [.tmp 2] 1 (fun y bs => ∃ v, M_Concat_Raw_L1 ls fu0 v0_3 v0_11 = .inr v ∧ y = .ref (0, 0) 1 0 (v.length) ∧ bs = [⟨1, true, 27, 4, vecC eRaw v⟩]) .ret τ → Q .ret τ) → LL Try.prog 36 C (cAt [1, 1, 0, 1, 0, 0] (bodyOf Try.f8)) (mkS [(0, .d (.list (ls.map eLRaw))), (3, .d (.int .i64 ((v0_3 : Nat) : Int))), (9, .d (.list (ls.map eLRaw))), (10, .d (.int .i64 ((ls.length : Nat) : Int))), (11, .d (.int .i64 ((v0_11 : Nat) : Int)))] []) Q := by
  have hlen_ls := hf_ls.len
  intro fu0
  induction fu0 with
  | zero => intro v0_3 v0_11 hm; exact absurd hm (Nat.not_lt_zero _)
  | succ fu0 ih =>
    intro v0_3 v0_11 hm hinv_0_0 hinv_0_1 Q hx hr
    refine LL_round ?_
    refine LW_mid2 hC tok tmo hO hF (.br (.ds (eLRaw (ls.getD v0_11 [])) (.num (((ls.getD v0_11 []).length : Nat) : Int) (.num ((v0_3 + (ls.getD v0_11 []).length : Nat) : Int) (.br (.nil) (.num ((v0_11 + 1 : Nat) : Int) (.nil)))))) (.nil)) ⟨[0, 3, 9, 10, 11], [], [], []⟩ ⟨[0, 3], [], [], []⟩ [.tmp 2] (fun r Q Post => ((decide (((v0_11 : Nat) : Int) < ((ls.length : Nat) : Int))) = true → IdxS (ls.map eLRaw) ((v0_11 : Nat) : Int) (eLRaw (ls.getD v0_11 [])) ∧ EqI (((ls.getD v0_11 []).map eRaw).length : Nat) (((ls.getD v0_11 []).length : Nat) : Int) ∧ WrapS .i64 (((v0_3 : Nat) : Int) + (((ls.getD v0_11 []).length : Nat) : Int)) ((v0_3 + (ls.getD v0_11 []).length : Nat) : Int) ∧ ((decide (((v0_3 + (ls.getD v0_11 []).length : Nat) : Int) < (0 : Int))) = true → False) ∧ ((decide (((v0_3 + (ls.getD v0_11 []).length : Nat) : Int) < (0 : Int))) = false → WrapS .i64 (((v0_11 : Nat) : Int) + 1) ((v0_11 + 1 : Nat) : Int) ∧ (Q .normal (mkS [(0, .d (.list (ls.map eLRaw))), (3, .d (.int .i64 ((v0_3 + (ls.getD v0_11 []).length : Nat) : Int))), (9, .d (.list (ls.map eLRaw))), (10, .d (.int .i64 ((ls.length : Nat) : Int))), (11, .d (.int .i64 ((v0_11 + 1 : Nat) : Int)))] [])))) ∧ ((decide (((v0_11 : Nat) : Int) < ((ls.length : Nat) : Int))) = false → (Q (.exit 0) (mkS [(0, .d (.list (ls.map eLRaw))), (3, .d (.int .i64 ((v0_3 : Nat) : Int)))] [])))) (fun r Q Post => by kernel_rfl) hr (fun r hθ hH hκ hN => ⟨fun h1 => ⟨(idxS_lt (by first | omega | (have hq := sum_take_lt ls v0_11 (by first | omega | (simp only [qd1, qd2, qd3, qd4, qd5, qd6, qd7] at *; omega)); omega) | (have hq := sum_take_le ls a0.2; omega) | (have hq := sum_take_lt ls v1_27 (by first | omega | (simp only [qd1, qd2, qd3, qd4, qd5, qd6, qd7] at *; omega)); have hq2 := flat_len (ls.take v1_27); rw [← hinv_1_1] at hq2; first | omega | (simp only [ql2]; omega)) | (simp only [ql1, SortStable_Raw_len] <;> omega) | (simp only [ql1, SortStable_Raw_len, qd1, qd2, qd3, qd4, qd5, qd6, qd7] at *; omega)) (fun _ => rfl)), (eqI_len _ _), (wrap64 (by omega) (by omega) (by (have hq := sum_take_lt ls v0_11 (by first | omega | (simp only [qd1, qd2, qd3, qd4, qd5, qd6, qd7] at *; omega)); omega))), fun h2 => (by first | omega | (have hq := sum_take_lt ls v0_11 (by first | omega | (simp only [qd1, qd2, qd3, qd4, qd5, qd6, qd7] at *; omega)); omega) | (have hq := sum_take_le ls a0.2; omega) | (have hq := sum_take_lt ls v1_27 (by first | omega | (simp only [qd1, qd2, qd3, qd4, qd5, qd6, qd7] at *; omega)); have hq2 := flat_len (ls.take v1_27); rw [← hinv_1_1] at hq2; first | omega | (simp only [ql2]; omega)) | (simp only [ql1, SortStable_Raw_len] <;> omega) | (simp only [ql1, SortStable_Raw_len, qd1, qd2, qd3, qd4, qd5, qd6, qd7] at *; omega)), fun h2 => ⟨(wrap64 (by omega) (by omega) (by omega)), ?_⟩⟩, fun h1 => ?_⟩)
    · exact ih (v0_3 + (ls.getD v0_11 []).length) (v0_11 + 1) (by (simp only [qd1, qd2, qd3, qd4, qd5, qd6, qd7] at *; omega)) (by (simp only [qd1, qd2, qd3, qd4, qd5, qd6, qd7, SortStable_Raw_len] at *; first | omega | (simp only [ql2, ql3, ql4, ql1, SortStable_Raw_len]; omega))) (by rw [sum_take_succ ls _ (by (simp only [qd1, qd2, qd3, qd4, qd5, qd6, qd7] at *; omega)), ← hinv_0_1]) Q (fun a ha => hx a (by simp only [M_Concat_Raw_L1, h1, h2, cond_true, cond_false, Sum.elim_inl, Sum.elim_inr]; exact ha)) (fun τ hτ => hr τ (FQ_mono (fun y bs ⟨v, e1, e2⟩ => ⟨v, by simp only [M_Concat_Raw_L1, h1, h2, cond_true, cond_false, Sum.elim_inl, Sum.elim_inr]; exact e1, e2⟩) hτ))
    · exact hx (v0_3, v0_11) (by simp only [M_Concat_Raw_L1, h1, cond_true, cond_false, Sum.elim_inl, Sum.elim_inr]) (by assumption) (by assumption) 
set_option maxRecDepth 100000 in
theorem K_Concat_Raw_L2 (C : Cx) (hC : CxOk C) (hO : C.outs = 1) (hF : C.fx = [0]) (hW0 : C.no (C.κ (0, 0))) (ls : List (List Raw)) (a0 : Nat × Nat) (ha_1 : (ls.map List.length).sum < 2147483648) (hf_ls : Fit (.list (ls.map eLRaw))) (ha0 : M_Concat_Raw_L1 ls (ls.length - 0 + 1) 0 0 = .inl a0) (hxi_a0_0 : a0.2 ≤ ls.length) (hxi_a0_1 : a0.1 = ((ls.take a0.2).map List.length).sum) : ∀ (fu1 : Nat) (v1_6 : List Raw) (v1_27 : Nat), ls.length - v1_27 < fu1 → v1_27 ≤ ls.length → v1_6 = (ls.take v1_27).flatten →  ∀ Q : Exit → St → Prop, (∀ rslt, M_Concat_Raw_L2 ls fu1 v1_6 v1_27 = .inl rslt → rslt.2 ≤ ls.length → rslt.1 = (ls.take rslt.2).flatten → Q (.exit 2) (mkS [(6, .ref (1, 24) 0 0 rslt.1.length)] [((1, 24), ⟨0, true, 27, 4, vecC eRaw rslt.1⟩)])) →
    (∀ τ, FQ (lkT tl) [.tmp 2] 1 (fun y bs => ∃ v, M_Concat_Raw_L2 ls fu1 v1_6 v1_27 = .inr v ∧ y = .ref (0, 0) 1 0 (v.length) ∧ bs = [⟨1, true, 27, 4, vecC eRaw v⟩]) .ret τ → Q .ret τ) → LL Try.prog 36 C (cAt [1, 1, 1, 1, 0, 1, 0, 0] (bodyOf Try.f8)) (mkS [(6, .ref (1, 24) 0 0 v1_6.length), (25, .d (.list (ls.map eLRaw))), (26, .d (.int .i64 ((ls.length : Nat) : Int))), (27, .d (.int .i64 ((v1_27 : Nat) : Int)))] [((1, 24), ⟨0, true, 27, 4, vecC eRaw v1_6⟩)]) Q := by
  have hlen_ls := hf_ls.len
  intro fu1
  induction fu1 with
  | zero => intro v1_6 v1_27 hm; exact absurd hm (Nat.not_lt_zero _)
  | succ fu1 ih =>
    intro v1_6 v1_27 hm hinv_1_0 hinv_1_1 Q hx hr
    refine LL_round ?_
    refine LW_mid2 hC tok tmo hO hF (.br (.ds (eLRaw (ls.getD v1_27 [])) (.nat (ls.getD v1_27 []).length (.cs (vecC eRaw (ls.getD v1_27 [])) (.cs (vecC eRaw (v1_6 ++ (ls.getD v1_27 []))) (.nat ((v1_6 ++ (ls.getD v1_27 [])).length) (.num ((v1_27 + 1 : Nat) : Int) (.nil))))))) (.nil)) ⟨[6, 25, 26, 27], [((1, 24), true)], [], []⟩ ⟨[6], [((1, 24), true)], [], []⟩ [.tmp 2] (fun r Q Post => ((decide (((v1_27 : Nat) : Int) < ((ls.length : Nat) : Int))) = true → IdxS (ls.map eLRaw) ((v1_27 : Nat) : Int) (eLRaw (ls.getD v1_27 [])) ∧ SrcS 4 ([]) (.d (.list ((ls.getD v1_27 []).map eRaw))) (ls.getD v1_27 []).length (vecC eRaw (ls.getD v1_27 [])) ∧ AppS (vecC eRaw v1_6) 0 (v1_6.length) (ls.getD v1_27 []).length 4 4096 (vecC eRaw (ls.getD v1_27 [])) (vecC eRaw (v1_6 ++ (ls.getD v1_27 []))) ((v1_6 ++ (ls.getD v1_27 [])).length) ∧ WrapS .i64 (((v1_27 : Nat) : Int) + 1) ((v1_27 + 1 : Nat) : Int) ∧ FlatC (vecC eRaw (v1_6 ++ (ls.getD v1_27 []))) ∧ (Q .normal (mkS [(6, .ref (1, 24) 0 0 (v1_6 ++ (ls.getD v1_27 [])).length), (25, .d (.list (ls.map eLRaw))), (26, .d (.int .i64 ((ls.length : Nat) : Int))), (27, .d (.int .i64 ((v1_27 + 1 : Nat) : Int)))] [((1, 24), ⟨0, true, 27, 4, vecC eRaw (v1_6 ++ (ls.getD v1_27 []))⟩)]))) ∧ ((decide (((v1_27 : Nat) : Int) < ((ls.length : Nat) : Int))) = false → FlatC (vecC eRaw v1_6) ∧ (Q (.exit 2) (mkS [(6, .ref (1, 24) 0 0 v1_6.length)] [((1, 24), ⟨0, true, 27, 4, vecC eRaw v1_6⟩)])))) (fun r Q Post => by kernel_rfl) hr (fun r hθ hH hκ hN => ⟨fun h3 => ⟨(idxS_lt (by (simp only [ql1, SortStable_Raw_len, qd1, qd2, qd3, qd4, qd5, qd6, qd7] at *; omega)) (fun _ => rfl)), (srcS_list _ _ (fun _ => rfl)), (appS_vec' (e := eRaw) v1_6 (ls.getD v1_27 []) (fun _ => rfl) rfl (by rfl)  (by (have hq := sum_take_lt ls v1_27 (by first | omega | (simp only [qd1, qd2, qd3, qd4, qd5, qd6, qd7] at *; omega)); have hq2 := flat_len (ls.take v1_27); rw [← hinv_1_1] at hq2; first | omega | (simp only [ql2]; omega)))), (wrap64 (by omega) (by omega) (by omega)), (flatC_vec _ _), ?_⟩, fun h3 => ⟨(flatC_vec _ _), ?_⟩⟩)
    · exact ih (v1_6 ++ (ls.getD v1_27 [])) (v1_27 + 1) (by (simp only [qd1, qd2, qd3, qd4, qd5, qd6, qd7] at *; omega)) (by (simp only [qd1, qd2, qd3, qd4, qd5, qd6, qd7, SortStable_Raw_len] at *; first | omega | (simp only [ql2, ql3, ql4, ql1, SortStable_Raw_len]; omega))) (by rw [flat_take_succ ls _ (by (simp only [qd1, qd2, qd3, qd4, qd5, qd6, qd7] at *; omega)), ← hinv_1_1]) Q (fun a ha => hx a (by simp only [M_Concat_Raw_L2, h3, cond_true, cond_false, Sum.elim_inl, Sum.elim_inr]; exact ha)) (fun τ hτ => hr τ (FQ_mono (fun y bs ⟨v, e1, e2⟩ => ⟨v, by simp only [M_Concat_Raw_L2, h3, cond_true, cond_false, Sum.elim_inl, Sum.elim_inr]; exact e1, e2⟩) hτ))
    · exact hx (v1_6, v1_27) (by simp only [M_Concat_Raw_L2, h3, cond_true, cond_false, Sum.elim_inl, Sum.elim_inr]) (by assumption) (by assumption) 
set_option maxRecDepth 100000 in
theorem K_Concat_Raw_b (C : Cx) (hC : CxOk C) (hO : C.outs = 1) (hF : C.fx = [0]) (hW0 : C.no (C.κ (0, 0))) (ls : List (List Raw)) (ha_1 : (ls.map List.length).sum < 2147483648) (hf_ls : Fit (.list (ls.map eLRaw))) (Post : AV → List Blk → Prop) (h : Post (.ref (0, 0) 1 0 ((M_Concat_Raw ls).length)) [⟨1, true, 27, 4, vecC eRaw (M_Concat_Raw ls)⟩]) : LW Try.prog 36 C (bodyOf Try.f8) (mkS (zipS 0 [.d (.list (ls.map eLRaw))]) []) (FQ (lkT tl) [.tmp 2] 1 Post) := by
  have hlen_ls := hf_ls.len
  refine LW_seq' (cAt [0] (bodyOf Try.f8)) (cAt [1] (bodyOf Try.f8)) (by kernel_rfl) ?_
  refine LW_mid2 hC tok tmo hO hF (.nil) ⟨[0], [], [], []⟩ ⟨[], [], [], []⟩ [.tmp 2] (fun r Q Post => (Q .normal (mkS [(0, .d (.list (ls.map eLRaw)))] []))) (fun r Q Post => by kernel_rfl) (fun _ h => h) (fun r hθ hH hκ hN => ?_)
  · refine LW_seq' (cAt [1, 0] (bodyOf Try.f8)) (cAt [1, 1] (bodyOf Try.f8)) (by kernel_rfl) ?_
    refine LW_mid2 hC tok tmo hO hF (.nil) ⟨[0, 3], [], [], []⟩ ⟨[], [], [], []⟩ [.tmp 2] (fun r Q Post => (Q .normal (mkS [(0, .d (.list (ls.map eLRaw))), (3, .d (.int .i64 0))] []))) (fun r Q Post => by kernel_rfl) (fun _ h => h) (fun r hθ hH hκ hN => ?_)
    · refine LW_seq' (cAt [1, 1, 0] (bodyOf Try.f8)) (cAt [1, 1, 1] (bodyOf Try.f8)) (by kernel_rfl) ?_
      refine LW_seq' (cAt [1, 1, 0, 0] (bodyOf Try.f8)) (cAt [1, 1, 0, 1] (bodyOf Try.f8)) (by kernel_rfl) ?_
      refine LW_mid2 hC tok tmo hO hF (.num ((ls.length : Nat) : Int) (.nil)) ⟨[0, 3, 9, 10, 11], [], [], []⟩ ⟨[], [], [], []⟩ [.tmp 2] (fun r Q Post => EqI ((ls.map eLRaw).length : Nat) ((ls.length : Nat) : Int) ∧ (Q .normal (mkS [(0, .d (.list (ls.map eLRaw))), (3, .d (.int .i64 0)), (9, .d (.list (ls.map eLRaw))), (10, .d (.int .i64 ((ls.length : Nat) : Int))), (11, .d (.int .i64 0))] []))) (fun r Q Post => by kernel_rfl) (fun _ h => h) (fun r hθ hH hκ hN => ⟨(eqI_len _ _), ?_⟩)
      · refine LW_block' 0 (cAt [1, 1, 0, 1, 0] (bodyOf Try.f8)) (by kernel_rfl) ?_
        refine LW_loop' (cAt [1, 1, 0, 1, 0, 0] (bodyOf Try.f8)) (by kernel_rfl) ?_
        refine K_Concat_Raw_L1 C hC hO hF hW0 ls ha_1 hf_ls   (ls.length - 0 + 1) 0 0 (Nat.lt_succ_self _) (by (simp; done)) (by (simp; done)) _ ?_ ?_
        · intro a0 ha0 hxi_a0_0 hxi_a0_1 
          refine LW_seq' (cAt [1, 1, 1, 0] (bodyOf Try.f8)) (cAt [1, 1, 1, 1] (bodyOf Try.f8)) (by kernel_rfl) ?_
          refine LW_region' (by kernel_rfl) ?_
          refine LO_pre hC tok hO hF 1 (.nil) ⟨[0, 23], [], [], []⟩ (fun r Φ => (Φ (mkS [(0, .d (.list (ls.map eLRaw))), (23, .d (.int .i64 ((a0.1 : Nat) : Int)))] []))) (fun r Φ => by kernel_rfl) (fun r hθ hH hκ hN => ?_)
          refine LO_call' hC hO hF 21 [] [] [.e0, .d (.int .i64 ((a0.1 : Nat) : Int))] (by kernel_rfl) (by kernel_rfl) (by kernel_rfl) [(1, 24)] [((1, 24), ⟨0, false, 0, 0, []⟩)] (by kernel_rfl) (.ref (1, 24) 1 0 (M_Grow_Raw a0.1).length) [((1, 24), ⟨1, true, 27, 4, vecC eRaw (M_Grow_Raw a0.1)⟩)] [] [] (by kernel_rfl) trivial trivial (fun r hθ hH hκ hN => (callH_of (xs' := [.e0, .d (.int .i64 ((a0.1 : Nat) : Int))]) (by kernel_rfl) (by kernel_rfl) (fun H' hb ho => K_Grow_Raw _ H' (r.κ (1, 24)) (r.γ (1, 24) + 0) (by rw [hκ, hC.own]; exact Nat.le_refl _)   a0.1  (hb ((1, 24), ⟨0, false, 0, 0, []⟩) (by simp)).1 (by (have hq := sum_take_le ls a0.2; omega)) _ ⟨rfl, by simp only [updP, putHs, renB, rens, ren, flatC_rens (flatC_vec _ _), Nat.add_assoc]⟩))) ?_
          refine LO_end hC tok hO hF (.nil) ⟨[0, 6], [((1, 24), true)], [], []⟩ (fun r Q => FlatC (vecC eRaw (M_Grow_Raw a0.1)) ∧ (Q .normal (mkS [(0, .d (.list (ls.map eLRaw))), (6, .ref (1, 24) 0 0 (M_Grow_Raw a0.1).length)] [((1, 24), ⟨0, true, 27, 4, vecC eRaw (M_Grow_Raw a0.1)⟩)]))) (fun r Q => by kernel_rfl) (fun r hθ hH hκ hN => ⟨(flatC_vec _ _), ?_⟩)
          · refine LW_seq' (cAt [1, 1, 1, 1, 0] (bodyOf Try.f8)) (cAt [1, 1, 1, 1, 1] (bodyOf Try.f8)) (by kernel_rfl) ?_
            refine LW_seq' (cAt [1, 1, 1, 1, 0, 0] (bodyOf Try.f8)) (cAt [1, 1, 1, 1, 0, 1] (bodyOf Try.f8)) (by kernel_rfl) ?_
            refine LW_mid2 hC tok tmo hO hF (.num ((ls.length : Nat) : Int) (.nil)) ⟨[6, 25, 26, 27], [((1, 24), true)], [], []⟩ ⟨[], [], [], []⟩ [.tmp 2] (fun r Q Post => EqI ((ls.map eLRaw).length : Nat) ((ls.length : Nat) : Int) ∧ FlatC (vecC eRaw (M_Grow_Raw a0.1)) ∧ (Q .normal (mkS [(6, .ref (1, 24) 0 0 (M_Grow_Raw a0.1).length), (25, .d (.list (ls.map eLRaw))), (26, .d (.int .i64 ((ls.length : Nat) : Int))), (27, .d (.int .i64 0))] [((1, 24), ⟨0, true, 27, 4, vecC eRaw (M_Grow_Raw a0.1)⟩)]))) (fun r Q Post => by kernel_rfl) (fun _ h => h) (fun r hθ hH hκ hN => ⟨(eqI_len _ _), (flatC_vec _ _), ?_⟩)
            · refine LW_block' 2 (cAt [1, 1, 1, 1, 0, 1, 0] (bodyOf Try.f8)) (by kernel_rfl) ?_
              refine LW_loop' (cAt [1, 1, 1, 1, 0, 1, 0, 0] (bodyOf Try.f8)) (by kernel_rfl) ?_
              refine K_Concat_Raw_L2 C hC hO hF hW0 ls a0 ha_1 hf_ls ha0 hxi_a0_0 hxi_a0_1 (ls.length - 0 + 1) (M_Grow_Raw a0.1) 0 (Nat.lt_succ_self _) (by (simp; done)) rfl _ ?_ ?_
              · intro a1 ha1 hxi_a1_0 hxi_a1_1 
                refine LW_fin2 hC tok tmo hO (.sep (.mv 24 0 (.nil))) [.tmp 2] (fun r Post => FlatC' (vecC eRaw a1.1) ∧ (0 < 1 ∧ r.no (r.κ (0, 0))) ∧ (Post (.ref (0, 0) 1 0 a1.1.length) [⟨1, true, 27, 4, vecC eRaw a1.1⟩])) (fun r Post => by kernel_rfl) (fun r hθ hH hκ hN => ⟨(flatC'_vec _ _), ⟨by decide, by rw [hN, hκ]; exact hW0⟩, ?_⟩)
                · have hh := h
                  simp only [M_Concat_Raw, ha0, ha1, cond_true, cond_false, Sum.elim_inl, Sum.elim_inr] at hh
                  exact hh
              · exact fun τ hτ => FQ_mono (fun y bs ⟨v, e1, e2⟩ => by obtain ⟨e2, e3⟩ := e2; subst e2; subst e3; have hh := h; simp only [M_Concat_Raw, ha0, cond_true, cond_false, Sum.elim_inl, Sum.elim_inr, e1] at hh; exact hh) hτ
        · exact fun τ hτ => FQ_mono (fun y bs ⟨v, e1, e2⟩ => by obtain ⟨e2, e3⟩ := e2; subst e2; subst e3; have hh := h; simp only [M_Concat_Raw, cond_true, cond_false, Sum.elim_inl, Sum.elim_inr, e1] at hh; exact hh) hτ
theorem K_Concat_Raw (ℓ : Nat) (ℋ : Hp) (k0 : Key) (g0 : Nat) (hk0 : k0.1 ≤ ℓ)   (ls : List (List Raw))  (hg0 : (ℋ k0).g = g0) (ha_1 : (ls.map List.length).sum < 2147483648) (hf_ls : Fit (.list (ls.map eLRaw))) (Post : AV → Hp → Prop) (h : Post (.ref k0 (g0 + 1) 0 ((M_Concat_Raw ls).length)) (updP ℋ [k0] [⟨g0 + 1, true, 27, 4, vecC eRaw (M_Concat_Raw ls)⟩])) : ACall Try.prog 8 ℓ [.d (.list (ls.map eLRaw))] ℋ Post :=
  acall_outs' (n := 36) (Y' := .ref k0 (g0 + 1) 0 ((M_Concat_Raw ls).length)) (bs' := [⟨g0 + 1, true, 27, 4, vecC eRaw (M_Concat_Raw ls)⟩]) [.tmp 2] (bodyOf Try.f8) [k0] [g0] 1 (fun _ => .top) [.d (.list (ls.map eLRaw))] [] (.ref (0, 0) 1 0 ((M_Concat_Raw ls).length)) [⟨1, true, 27, 4, vecC eRaw (M_Concat_Raw ls)⟩] Try.func8 (by kernel_rfl) (by kernel_rfl) Try.ntmps8 (by kernel_rfl) (by simp) tok rfl ⟨hk0, trivial⟩ (by simp) (by kernel_rfl) ⟨⟨hg0, fun h => by cases h⟩, trivial⟩ (by kernel_rfl) (by kernel_rfl) (by simp) (fun r ⟨h1, h2⟩ => by simp only [ren, rens, renBs, renB, h1, h2 0 (by simp), flatC_rens (flatC_vec _ _)]; try kernel_rfl) (fun r ⟨h1, h2⟩ => by simp only [ren, rens, renBs, renB, h1, h2 0 (by simp), flatC_rens (flatC_vec _ _)]; try kernel_rfl) (fun C hC hO hF hl hH hθ hκ hN => K_Concat_Raw_b C hC hO hF (by rw [hN, hκ]; simp [kOf, nth]) ls  ha_1 hf_ls (fun y b => y = _ ∧ b = _) ⟨rfl, rfl⟩) h
theorem concat_Raw_L1 (ls : List (List Raw)) : ∀ (fu s i : Nat), ∃ r, M_Concat_Raw_L1 ls fu s i = .inl r
  | 0, s, i => ⟨_, rfl⟩
  | fu + 1, s, i => by
    rw [M_Concat_Raw_L1]
    cases decide (((i : Nat) : Int) < ((ls.length : Nat) : Int)) with
    | true => exact concat_Raw_L1 ls fu _ _
    | false => exact ⟨_, rfl⟩
theorem concat_Raw_L2 (ls : List (List Raw)) : ∀ (fu : Nat) (v : List Raw) (i : Nat), ls.length - i < fu → i ≤ ls.length → v = (ls.take i).flatten → ∃ j, M_Concat_Raw_L2 ls fu v i = .inl (ls.flatten, j)
  | 0, v, i, h, _, _ => absurd h (Nat.not_lt_zero _)
  | fu + 1, v, i, h, hi, hv => by
    rw [M_Concat_Raw_L2]
    by_cases hd : ((i : Nat) : Int) < ((ls.length : Nat) : Int)
    · rw [decide_eq_true hd, cond_true]
      exact concat_Raw_L2 ls fu _ _ (by omega) (by omega) (by rw [flat_take_succ ls _ (by omega), ← hv])
    · rw [decide_eq_false hd, cond_false]
      exact ⟨i, by rw [hv, List.take_of_length_le (by omega)]⟩
theorem concat_Raw (ls : List (List Raw)) : M_Concat_Raw ls = ls.flatten := by
  rw [M_Concat_Raw]
  obtain ⟨r, e⟩ := concat_Raw_L1 ls (ls.length - 0 + 1) 0 0
  rw [e]
  obtain ⟨j, e⟩ := concat_Raw_L2 ls (ls.length - 0 + 1) (M_Grow_Raw r.1) 0 (by omega) (by omega) rfl
  show Sum.elim _ _ (M_Concat_Raw_L2 ls (ls.length - 0 + 1) (M_Grow_Raw r.1) 0) = _
  rw [e]; rfl
theorem concat2_Raw (a b : List Raw) : M_Concat_Raw ([a, b] : List (List Raw)) = a ++ b := by rw [concat_Raw]; simp
def M_merge_Raws (a : List Raw) (b : List Raw) : List Raw := (M_SortStable_Raw (M_Concat_Raw ([a, b] : List (List Raw))) (fun z z' => M_Raws_1 z z'))
set_option maxRecDepth 100000 in
theorem K_merge_Raws_b (C : Cx) (hC : CxOk C) (hO : C.outs = 1) (hF : C.fx = [0]) (hW0 : C.no (C.κ (0, 0))) (a : List Raw) (b : List Raw) (ha_1 : a.length + b.length < 2147483648) (hf_a : Fit (.list (a.map eRaw))) (hf_b : Fit (.list (b.map eRaw))) (Post : AV → List Blk → Prop) (h : Post (.ref (0, 0) 1 0 ((M_merge_Raws a b).length)) [⟨1, true, 27, 4, vecC eRaw (M_merge_Raws a b)⟩]) : LW Try.prog 13 C (bodyOf Try.f5) (mkS (zipS 0 [.d (.list (a.map eRaw)), .d (.list (b.map eRaw))]) []) (FQ (lkT tl) [.tmp 4] 1 Post) := by
  refine LW_seq' (cAt [0] (bodyOf Try.f5)) (cAt [1] (bodyOf Try.f5)) (by kernel_rfl) ?_
  refine LW_mid2 hC tok tmo hO hF (.nil) ⟨[0, 1], [], [], []⟩ ⟨[], [], [], []⟩ [.tmp 4] (fun r Q Post => (Q .normal (mkS [(0, .d (.list (a.map eRaw))), (1, .d (.list (b.map eRaw)))] []))) (fun r Q Post => by kernel_rfl) (fun _ h => h) (fun r hθ hH hκ hN => ?_)
  · refine LW_seq' (cAt [1, 0] (bodyOf Try.f5)) (cAt [1, 1] (bodyOf Try.f5)) (by kernel_rfl) ?_
    refine LW_region' (by kernel_rfl) ?_
    refine LO_pre hC tok hO hF 3 (.nil) ⟨[8], [], [], []⟩ (fun r Φ => (Φ (mkS [(8, .d (.list [eLRaw a, eLRaw b]))] []))) (fun r Φ => by kernel_rfl) (fun r hθ hH hκ hN => ?_)
    refine LO_call' hC hO hF 8 [] [] [.d (.list [eLRaw a, eLRaw b])] (by kernel_rfl) (by kernel_rfl) (by kernel_rfl) [(1, 9)] [((1, 9), ⟨0, false, 0, 0, []⟩)] (by kernel_rfl) (.ref (1, 9) 1 0 (M_Concat_Raw ([a, b] : List (List Raw))).length) [((1, 9), ⟨1, true, 27, 4, vecC eRaw (M_Concat_Raw ([a, b] : List (List Raw)))⟩)] [] [] (by kernel_rfl) trivial trivial (fun r hθ hH hκ hN => (callH_of (xs' := [.d (.list [eLRaw a, eLRaw b])]) (by kernel_rfl) (by kernel_rfl) (fun H' hb ho => K_Concat_Raw _ H' (r.κ (1, 9)) (r.γ (1, 9) + 0) (by rw [hκ, hC.own]; exact Nat.le_refl _)   ([a, b] : List (List Raw))  (hb ((1, 9), ⟨0, false, 0, 0, []⟩) (by simp)).1 (by (simp only [List.map_cons, List.map_nil, List.sum_cons, List.sum_nil]; omega)) (fit_all (allF_cons (fitL_cons hf_a fitL_nil) (allF_cons (fitL_cons hf_b fitL_nil) allF_nil)) (by (simp; done))) _ ⟨rfl, by simp only [updP, putHs, renB, rens, ren, flatC_rens (flatC_vec _ _), Nat.add_assoc]⟩))) ?_
    refine LO_end hC tok hO hF (.nil) ⟨[5], [((1, 9), true)], [], []⟩ (fun r Q => FlatC (vecC eRaw (M_Concat_Raw ([a, b] : List (List Raw)))) ∧ (Q .normal (mkS [(5, .ref (1, 9) 0 0 (M_Concat_Raw ([a, b] : List (List Raw))).length)] [((1, 9), ⟨0, true, 27, 4, vecC eRaw (M_Concat_Raw ([a, b] : List (List Raw)))⟩)]))) (fun r Q => by kernel_rfl) (fun r hθ hH hκ hN => ⟨(flatC_vec _ _), ?_⟩)
    · refine LW_seq' (cAt [1, 1, 0] (bodyOf Try.f5)) (cAt [1, 1, 1] (bodyOf Try.f5)) (by kernel_rfl) ?_
      refine LW_region' (by kernel_rfl) ?_
      refine LO_pre hC tok hO hF 1 (.nil) ⟨[5, 10], [((1, 9), true)], [], []⟩ (fun r Φ => FlatC (vecC eRaw (M_Concat_Raw ([a, b] : List (List Raw)))) ∧ (Φ (mkS [(5, .ref (1, 9) 0 0 (M_Concat_Raw ([a, b] : List (List Raw))).length), (10, .ref (1, 9) 0 0 (M_Concat_Raw ([a, b] : List (List Raw))).length)] [((1, 9), ⟨0, true, 27, 4, vecC eRaw (M_Concat_Raw ([a, b] : List (List Raw)))⟩)]))) (fun r Φ => by kernel_rfl) (fun r hθ hH hκ hN => ⟨(flatC_vec _ _), ?_⟩)
      refine LO_call' hC hO hF 9 [] [] [.ref (1, 9) 0 0 (M_Concat_Raw ([a, b] : List (List Raw))).length, .fn (.func 10) [] []] (by kernel_rfl) (by kernel_rfl) (by kernel_rfl) [(1, 9)] [((1, 9), ⟨0, true, 27, 4, vecC eRaw (M_Concat_Raw ([a, b] : List (List Raw)))⟩)] (by kernel_rfl) (.tup []) [((1, 9), ⟨0, true, 27, 4, vecC eRaw (M_SortStable_Raw (M_Concat_Raw ([a, b] : List (List Raw))) (fun z z' => M_Raws_1 z z'))⟩)] [] [] (by kernel_rfl) trivial trivial (fun r hθ hH hκ hN => (callH_of (xs' := [.ref (r.κ (1, 9)) (r.γ (1, 9) + 0) 0 ((M_Concat_Raw ([a, b] : List (List Raw))).length), .fn (.func 10) [] []]) (by kernel_rfl) (by kernel_rfl) (fun H' hb ho => K_SortStable_Raw _ H' (r.κ (1, 9)) (r.γ (1, 9) + 0) (by rw [hκ, hC.own]; exact Nat.le_refl _)  (.fn (.func 10) [] []) (M_Concat_Raw ([a, b] : List (List Raw))) (fun z z' => M_Raws_1 z z') (fun z hz z' hz' => clo_pure (fun l' H'' => K_Raws_1 l' H'' z z'  _ ⟨rfl, rfl⟩)) (((hb ((1, 9), ⟨0, true, 27, 4, vecC eRaw (M_Concat_Raw ([a, b] : List (List Raw)))⟩) (by simp)).2 rfl).trans (flat_renB (flatC_vec _ _))) (by rw [concat2_Raw]; exact fit_app hf_a hf_b ha_1) _ ⟨rfl, by simp only [updP, putHs, renB, rens, ren, flatC_rens (flatC_vec _ _), Nat.add_assoc]⟩))) ?_
      refine LO_end hC tok hO hF (.nil) ⟨[5], [((1, 9), true)], [], []⟩ (fun r Q => FlatC (vecC eRaw (M_SortStable_Raw (M_Concat_Raw ([a, b] : List (List Raw))) (fun z z' => M_Raws_1 z z'))) ∧ (Q .normal (mkS [(5, .ref (1, 9) 0 0 (M_Concat_Raw ([a, b] : List (List Raw))).length)] [((1, 9), ⟨0, true, 27, 4, vecC eRaw (M_SortStable_Raw (M_Concat_Raw ([a, b] : List (List Raw))) (fun z z' => M_Raws_1 z z'))⟩)]))) (fun r Q => by kernel_rfl) (fun r hθ hH hκ hN => ⟨(flatC_vec _ _), ?_⟩)
      · refine LW_fin2 hC tok tmo hO (.sep (.mv 9 0 (.nil))) [.tmp 4] (fun r Post => FlatC' (vecC eRaw (M_SortStable_Raw (M_Concat_Raw ([a, b] : List (List Raw))) (fun z z' => M_Raws_1 z z'))) ∧ (0 < 1 ∧ r.no (r.κ (0, 0))) ∧ (Post (.ref (0, 0) 1 0 (M_Concat_Raw ([a, b] : List (List Raw))).length) [⟨1, true, 27, 4, vecC eRaw (M_SortStable_Raw (M_Concat_Raw ([a, b] : List (List Raw))) (fun z z' => M_Raws_1 z z'))⟩])) (fun r Post => by kernel_rfl) (fun r hθ hH hκ hN => ⟨(flatC'_vec _ _), ⟨by decide, by rw [hN, hκ]; exact hW0⟩, ?_⟩)
        · rw [show (M_Concat_Raw ([a, b] : List (List Raw))).length = (M_SortStable_Raw (M_Concat_Raw ([a, b] : List (List Raw))) (fun z z' => M_Raws_1 z z')).length from (by (simp only [ql1, SortStable_Raw_len] <;> omega))]
          have hh := h
          simp only [M_merge_Raws, cond_true, cond_false, Sum.elim_inl, Sum.elim_inr] at hh
          exact hh
theorem K_merge_Raws (ℓ : Nat) (ℋ : Hp) (k0 : Key) (g0 : Nat) (hk0 : k0.1 ≤ ℓ)   (a : List Raw) (b : List Raw)  (hg0 : (ℋ k0).g = g0) (ha_1 : a.length + b.length < 2147483648) (hf_a : Fit (.list (a.map eRaw))) (hf_b : Fit (.list (b.map eRaw))) (Post : AV → Hp → Prop) (h : Post (.ref k0 (g0 + 1) 0 ((M_merge_Raws a b).length)) (updP ℋ [k0] [⟨g0 + 1, true, 27, 4, vecC eRaw (M_merge_Raws a b)⟩])) : ACall Try.prog 5 ℓ [.d (.list (a.map eRaw)), .d (.list (b.map eRaw))] ℋ Post :=
  acall_outs' (n := 13) (Y' := .ref k0 (g0 + 1) 0 ((M_merge_Raws a b).length)) (bs' := [⟨g0 + 1, true, 27, 4, vecC eRaw (M_merge_Raws a b)⟩]) [.tmp 4] (bodyOf Try.f5) [k0] [g0] 1 (fun _ => .top) [.d (.list (a.map eRaw)), .d (.list (b.map eRaw))] [] (.ref (0, 0) 1 0 ((M_merge_Raws a b).length)) [⟨1, true, 27, 4, vecC eRaw (M_merge_Raws a b)⟩] Try.func5 (by kernel_rfl) (by kernel_rfl) Try.ntmps5 (by kernel_rfl) (by simp) tok rfl ⟨hk0, trivial⟩ (by simp) (by kernel_rfl) ⟨⟨hg0, fun h => by cases h⟩, trivial⟩ (by kernel_rfl) (by kernel_rfl) (by simp) (fun r ⟨h1, h2⟩ => by simp only [ren, rens, renBs, renB, h1, h2 0 (by simp), flatC_rens (flatC_vec _ _)]; try kernel_rfl) (fun r ⟨h1, h2⟩ => by simp only [ren, rens, renBs, renB, h1, h2 0 (by simp), flatC_rens (flatC_vec _ _)]; try kernel_rfl) (fun C hC hO hF hl hH hθ hκ hN => K_merge_Raws_b C hC hO hF (by rw [hN, hκ]; simp [kOf, nth]) a b  ha_1 hf_a hf_b (fun y b => y = _ ∧ b = _) ⟨rfl, rfl⟩) h
end Go.Proofs.Ytlklmhcadhojoaa
