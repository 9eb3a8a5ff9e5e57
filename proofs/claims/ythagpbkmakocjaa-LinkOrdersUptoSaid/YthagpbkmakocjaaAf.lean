/-
  Walks and models of functions of this seat; by program (gen.py, seat.py), laws of the models by hand.
-/
import Derived.Test.YthagpbkmakocjaaAe
import Derived.Test.YthagpbkmakocjaaAc
namespace Go.Proofs.Ythagpbkmakocjaa
set_option linter.all false
open Go Go.Eng
def M_link_order_L1 (files : List Fil) : List Fil → Nat → (Unit) ⊕ (List Int × ByteArray × Int)
  | [], i => .inl ()
  | e0 :: suf0, i => cond (decide ((M_link_fileAt files e0.name) < ((i : Nat) : Int))) (.inr ((([] : List Int), e0.name, 9))) (M_link_order_L1 files suf0 (i + 1) )
def M_link_order_L3 (files : List Fil) (e1 : Fil) : List ByteArray → (Unit) ⊕ (List Int × ByteArray × Int)
  | [] => .inl ()
  | e2 :: suf2 => cond (decide ((M_link_fileAt files e2) < (0 : Int))) (.inr ((([] : List Int), e1.name, 10))) (M_link_order_L3 files e1 suf2  )
def M_link_order_L2 (files : List Fil) : List Fil → (Unit) ⊕ (List Int × ByteArray × Int)
  | [] => .inl ()
  | e1 :: suf1 => Sum.elim (fun _ => M_link_order_L2 files suf1  ) (fun v => .inr v) (M_link_order_L3 files e1 e1.imports)
def M_link_order_L4 (files : List Fil) : List Fil → Nat → (Unit) ⊕ (List Int × ByteArray × Int)
  | [], i3 => .inl ()
  | e3 :: suf3, i3 => cond ((M_link_reaches files i3)) (.inr ((([] : List Int), e3.name, 19))) (M_link_order_L4 files suf3 (i3 + 1) )
def M_link_order (files : List Fil) : List Int × ByteArray × Int := cond ((decide (((files.length : Nat) : Int) < (1 : Int)) || decide ((16 : Int) < ((files.length : Nat) : Int)))) ((([] : List Int), ⟨#[]⟩, 3)) (Sum.elim (fun _ => Sum.elim (fun _ => cond (decide ((((M_link_chosen files).length : Nat) : Int) = ((files.length : Nat) : Int))) (((M_link_chosen files), ⟨#[]⟩, 0)) (Sum.elim (fun _ => (([] : List Int), ⟨#[]⟩, 19)) (fun v => v) (M_link_order_L4 files files 0))) (fun v => v) (M_link_order_L2 files files)) (fun v => v) (M_link_order_L1 files files 0))
theorem order_L3 (files : List Fil) (e1 : Fil) : ∀ (l : List ByteArray) r, M_link_order_L3 files e1 l = .inl r → ∀ q ∈ l, 0 ≤ M_wireschemaref11_file files q
  | [], _, _ => fun q hq => by cases hq
  | x :: l, r, h => by
    rw [M_link_order_L3, fileAt_eq] at h
    cases hd : decide (M_wireschemaref11_file files x < (0 : Int)) with
    | true => rw [hd] at h; cases h
    | false =>
      rw [hd] at h
      intro q hq
      rcases List.mem_cons.1 hq with rfl | hq
      · have := of_decide_eq_false hd; omega
      · exact order_L3 files e1 l r h q hq
theorem order_L2 (files : List Fil) : ∀ (l : List Fil) r, M_link_order_L2 files l = .inl r → ∀ f ∈ l, ∀ q ∈ f.imports, 0 ≤ M_wireschemaref11_file files q
  | [], _, _ => fun f hf => by cases hf
  | x :: l, r, h => by
    rw [M_link_order_L2] at h
    cases hd : M_link_order_L3 files x x.imports with
    | inr v => rw [hd] at h; cases h
    | inl u =>
      rw [hd] at h
      intro f hf
      rcases List.mem_cons.1 hf with rfl | hf
      · exact order_L3 files _ _ _ hd
      · exact order_L2 files l r h f hf
theorem order_found {files : List Fil} {r} (h : M_link_order_L2 files files = .inl r) : Found files := order_L2 files files r h
set_option maxRecDepth 100000 in
theorem K_link_order_L1 (C : Cx) (hC : CxOk C) (hO : C.outs = 0) (hF : C.fx = []) (files : List Fil) (hf_files : Fit (.list (files.map eFil))) (h1 : (decide (((files.length : Nat) : Int) < (1 : Int)) || decide ((16 : Int) < ((files.length : Nat) : Int))) = false)  : ∀ (suf0 : List Fil) (i : Nat) , files.drop i = suf0 → i ≤ files.length →  ∀ Q : Exit → St → Prop, (∀ rslt, M_link_order_L1 files suf0 i = .inl rslt →  Q (.exit 0) (mkS [(0, .d (.list (files.map eFil)))] [])) →
    (∀ τ, FQ (lkT tl) [.tmp 2, .tmp 3, .tmp 4] 0 (fun y bs => ∃ v, M_link_order_L1 files suf0 i = .inr v ∧ y = .tup [.d (.list (v.1.map eInt)), .d (.str v.2.1), .d (.int .i64 v.2.2)] ∧ bs = []) .ret τ → Q .ret τ) → LL Try.prog 80 C (cAt [1, 1, 0, 1, 0, 0] (bodyOf Try.f22)) (mkS [(0, .d (.list (files.map eFil))), (22, .d (.list (files.map eFil))), (23, nI files.length), (24, nI i)] []) Q := by
  have hlen : files.length < 2147483648 := hf_files.len
  have hlen_files := hf_files.len
  intro suf0
  induction suf0 with
  | nil =>
    intro i  hs hi  Q hx hr
    have hge := drop_nil hs
    refine LL_round ?_
    refine LW_mid2 hC tok tmo hO hF (.br (.ds (eFil (files.getD i zFil)) (.go (.go (.call (.d (.int .i64 (M_link_fileAt files (files.getD i zFil).name))) [] (.br (.go (.nil)) (.nu (i + 1) (.nil))))))) (.nil)) ⟨[0, 22, 23, 24], [], [], []⟩ ⟨[0], [], [], []⟩ [.tmp 2, .tmp 3, .tmp 4] (fun r Q Post => ((decide (((i : Nat) : Int) < ((files.length : Nat) : Int))) = true → IdxS (files.map eFil) ((i : Nat) : Int) (eFil (files.getD i zFil)) ∧ CallS Try.prog C.l r 51 ([] ++ [.d (.list (files.map eFil)), .d (.str (files.getD i zFil).name)] ++ []) [] (.d (.int .i64 (M_link_fileAt files (files.getD i zFil).name))) ∧ ((decide ((M_link_fileAt files (files.getD i zFil).name) < ((i : Nat) : Int))) = true → (Post (.tup [.d (.list []), .d (.str (files.getD i zFil).name), .d (.int .i64 9)]) [])) ∧ ((decide ((M_link_fileAt files (files.getD i zFil).name) < ((i : Nat) : Int))) = false → WrapS .i64 (((i : Nat) : Int) + 1) ((i + 1 : Nat) : Int) ∧ (Q .normal (mkS [(0, .d (.list (files.map eFil))), (22, .d (.list (files.map eFil))), (23, nI files.length), (24, nI (i + 1))] [])))) ∧ ((decide (((i : Nat) : Int) < ((files.length : Nat) : Int))) = false → (Q (.exit 0) (mkS [(0, .d (.list (files.map eFil)))] [])))) (fun r Q Post => by kernel_rfl) hr (fun r hθ hH hκ hN => ⟨(fun h0 => absurd ((dec_f (by omega) : decide (((i : Nat) : Int) < ((files.length : Nat) : Int)) = false).symm.trans h0) (by decide)), fun _ => ?_⟩)
    · exact hx () (by simp only [M_link_order_L1, cond_true, cond_false, Sum.elim_inl, Sum.elim_inr]) 
  | cons e0 suf0 ih =>
    intro i  hs hi  Q hx hr
    obtain ⟨hx0, hlt0, hs'⟩ := drop_get hs
    refine LL_round ?_
    refine LW_mid2 hC tok tmo hO hF (.br (.ds (eFil e0) (.go (.go (.call (.d (.int .i64 (M_link_fileAt files e0.name))) [] (.br (.go (.nil)) (.nu (i + 1) (.nil))))))) (.nil)) ⟨[0, 22, 23, 24], [], [], []⟩ ⟨[0], [], [], []⟩ [.tmp 2, .tmp 3, .tmp 4] (fun r Q Post => ((decide (((i : Nat) : Int) < ((files.length : Nat) : Int))) = true → IdxS (files.map eFil) ((i : Nat) : Int) (eFil e0) ∧ CallS Try.prog C.l r 51 ([] ++ [.d (.list (files.map eFil)), .d (.str e0.name)] ++ []) [] (.d (.int .i64 (M_link_fileAt files e0.name))) ∧ ((decide ((M_link_fileAt files e0.name) < ((i : Nat) : Int))) = true → (Post (.tup [.d (.list []), .d (.str e0.name), .d (.int .i64 9)]) [])) ∧ ((decide ((M_link_fileAt files e0.name) < ((i : Nat) : Int))) = false → WrapS .i64 (((i : Nat) : Int) + 1) ((i + 1 : Nat) : Int) ∧ (Q .normal (mkS [(0, .d (.list (files.map eFil))), (22, .d (.list (files.map eFil))), (23, nI files.length), (24, nI (i + 1))] [])))) ∧ ((decide (((i : Nat) : Int) < ((files.length : Nat) : Int))) = false → (Q (.exit 0) (mkS [(0, .d (.list (files.map eFil)))] [])))) (fun r Q Post => by kernel_rfl) hr (fun r hθ hH hκ hN => ⟨fun _ => ⟨(idxS_at hx0 (fun _ => rfl)), (callS_of (fun H' => K_link_fileAt _ H' files e0.name hf_files _ ⟨rfl, rfl⟩) (by kernel_rfl) (by kernel_rfl)), fun h3 => ?_, fun h3 => ⟨(wrap64 (by first | omega | (exact order_found ha1) | (simp only [ql1, ql5, ql6] <;> omega) | (simp only [ql1, ql5, ql6, qd1, qd2, qd3, qd4, qd5, qd6, qd7] at *; omega)) (by first | omega | (exact order_found ha1) | (simp only [ql1, ql5, ql6] <;> omega) | (simp only [ql1, ql5, ql6, qd1, qd2, qd3, qd4, qd5, qd6, qd7] at *; omega)) (by first | omega | (exact order_found ha1) | (simp only [ql1, ql5, ql6] <;> omega) | (simp only [ql1, ql5, ql6, qd1, qd2, qd3, qd4, qd5, qd6, qd7] at *; omega))), ?_⟩⟩, (fun h0 => absurd ((dec_t (by omega) : decide (((i : Nat) : Int) < ((files.length : Nat) : Int)) = true).symm.trans h0) (by decide))⟩)
    · exact ⟨(([] : List Int), e0.name, 9), by simp only [M_link_order_L1, h3, cond_true, cond_false, Sum.elim_inl, Sum.elim_inr], rfl, rfl⟩
    · exact ih (i + 1)  hs' (by omega)   Q (fun a ha => hx a (by simp only [M_link_order_L1, h3, cond_true, cond_false, Sum.elim_inl, Sum.elim_inr]; exact ha)) (fun τ hτ => hr τ (FQ_mono (fun y bs ⟨v, e1, e2⟩ => ⟨v, by simp only [M_link_order_L1, h3, cond_true, cond_false, Sum.elim_inl, Sum.elim_inr]; exact e1, e2⟩) hτ))
set_option maxRecDepth 100000 in
theorem K_link_order_L3 (C : Cx) (hC : CxOk C) (hO : C.outs = 0) (hF : C.fx = []) (files : List Fil) (a0 : Unit) (i1 : Nat) (e1 : Fil) (hf_files : Fit (.list (files.map eFil)))  (hfe1 : FitL (eFil e1)) (hlt1 : i1 < files.length) : ∀ (suf2 : List ByteArray) (i2 : Nat) , e1.imports.drop i2 = suf2 → i2 ≤ e1.imports.length →  ∀ Q : Exit → St → Prop, (∀ rslt, M_link_order_L3 files e1 suf2 = .inl rslt →  Q (.exit 4) (mkS [(0, .d (.list (files.map eFil))), (38, .d (.list (files.map eFil))), (39, nI files.length), (40, nI i1)] [])) →
    (∀ τ, FQ (lkT tl) [.tmp 2, .tmp 3, .tmp 4] 0 (fun y bs => ∃ v, M_link_order_L3 files e1 suf2 = .inr v ∧ y = .tup [.d (.list (v.1.map eInt)), .d (.str v.2.1), .d (.int .i64 v.2.2)] ∧ bs = []) .ret τ → Q .ret τ) → LL Try.prog 80 C (cAt [1, 1, 1, 0, 1, 0, 0, 1, 1, 0, 0, 1, 1, 0, 0] (bodyOf Try.f22)) (mkS [(0, .d (.list (files.map eFil))), (8, .ptr (1, 8) 0 0), (38, .d (.list (files.map eFil))), (39, nI files.length), (40, nI i1), (45, .d (.list (e1.imports.map eStr))), (46, nI e1.imports.length), (47, nI i2)] [((1, 8), ⟨0, true, 61, 6, [.d (.str e1.name), .d (.str e1.space), .d (.list (e1.imports.map eStr)), .d (.list (e1.messages.map eMsg)), .d (.list (e1.enums.map eEnm)), .d (.list (e1.services.map eSvc))]⟩)]) Q := by
  have hlen : e1.imports.length < 2147483648 := (FitL.at hfe1 2 rfl).len
  have hlen_files := hf_files.len
  intro suf2
  induction suf2 with
  | nil =>
    intro i2  hs hi  Q hx hr
    have hge := drop_nil hs
    refine LL_round ?_
    refine LW_mid2 hC tok tmo hO hF (.br (.ds (eStr (e1.imports.getD i2 ⟨#[]⟩)) (.call (.d (.int .i64 (M_link_fileAt files (e1.imports.getD i2 ⟨#[]⟩)))) [] (.br (.go (.nil)) (.nu (i2 + 1) (.nil))))) (.nil)) ⟨[0, 8, 38, 39, 40, 45, 46, 47], [((1, 8), false)], [], []⟩ ⟨[0, 38, 39, 40], [], [], []⟩ [.tmp 2, .tmp 3, .tmp 4] (fun r Q Post => ((decide (((i2 : Nat) : Int) < ((e1.imports.length : Nat) : Int))) = true → IdxS (e1.imports.map eStr) ((i2 : Nat) : Int) (eStr (e1.imports.getD i2 ⟨#[]⟩)) ∧ CallS Try.prog C.l r 51 ([] ++ [.d (.list (files.map eFil)), .d (.str (e1.imports.getD i2 ⟨#[]⟩))] ++ []) [] (.d (.int .i64 (M_link_fileAt files (e1.imports.getD i2 ⟨#[]⟩)))) ∧ ((decide ((M_link_fileAt files (e1.imports.getD i2 ⟨#[]⟩)) < (0 : Int))) = true → (Post (.tup [.d (.list []), .d (.str e1.name), .d (.int .i64 10)]) [])) ∧ ((decide ((M_link_fileAt files (e1.imports.getD i2 ⟨#[]⟩)) < (0 : Int))) = false → WrapS .i64 (((i2 : Nat) : Int) + 1) ((i2 + 1 : Nat) : Int) ∧ (Q .normal (mkS [(0, .d (.list (files.map eFil))), (8, .ptr (1, 8) 0 0), (38, .d (.list (files.map eFil))), (39, nI files.length), (40, nI i1), (45, .d (.list (e1.imports.map eStr))), (46, nI e1.imports.length), (47, nI (i2 + 1))] [((1, 8), ⟨0, true, 61, 6, [.d (.str e1.name), .d (.str e1.space), .d (.list (e1.imports.map eStr)), .d (.list (e1.messages.map eMsg)), .d (.list (e1.enums.map eEnm)), .d (.list (e1.services.map eSvc))]⟩)])))) ∧ ((decide (((i2 : Nat) : Int) < ((e1.imports.length : Nat) : Int))) = false → (Q (.exit 4) (mkS [(0, .d (.list (files.map eFil))), (38, .d (.list (files.map eFil))), (39, nI files.length), (40, nI i1)] [])))) (fun r Q Post => by kernel_rfl) hr (fun r hθ hH hκ hN => ⟨(fun h0 => absurd ((dec_f (by omega) : decide (((i2 : Nat) : Int) < ((e1.imports.length : Nat) : Int)) = false).symm.trans h0) (by decide)), fun _ => ?_⟩)
    · exact hx () (by simp only [M_link_order_L3, cond_true, cond_false, Sum.elim_inl, Sum.elim_inr]) 
  | cons e2 suf2 ih =>
    intro i2  hs hi  Q hx hr
    obtain ⟨hx2, hlt2, hs'⟩ := drop_get hs
    refine LL_round ?_
    refine LW_mid2 hC tok tmo hO hF (.br (.ds (eStr e2) (.call (.d (.int .i64 (M_link_fileAt files e2))) [] (.br (.go (.nil)) (.nu (i2 + 1) (.nil))))) (.nil)) ⟨[0, 8, 38, 39, 40, 45, 46, 47], [((1, 8), false)], [], []⟩ ⟨[0, 38, 39, 40], [], [], []⟩ [.tmp 2, .tmp 3, .tmp 4] (fun r Q Post => ((decide (((i2 : Nat) : Int) < ((e1.imports.length : Nat) : Int))) = true → IdxS (e1.imports.map eStr) ((i2 : Nat) : Int) (eStr e2) ∧ CallS Try.prog C.l r 51 ([] ++ [.d (.list (files.map eFil)), .d (.str e2)] ++ []) [] (.d (.int .i64 (M_link_fileAt files e2))) ∧ ((decide ((M_link_fileAt files e2) < (0 : Int))) = true → (Post (.tup [.d (.list []), .d (.str e1.name), .d (.int .i64 10)]) [])) ∧ ((decide ((M_link_fileAt files e2) < (0 : Int))) = false → WrapS .i64 (((i2 : Nat) : Int) + 1) ((i2 + 1 : Nat) : Int) ∧ (Q .normal (mkS [(0, .d (.list (files.map eFil))), (8, .ptr (1, 8) 0 0), (38, .d (.list (files.map eFil))), (39, nI files.length), (40, nI i1), (45, .d (.list (e1.imports.map eStr))), (46, nI e1.imports.length), (47, nI (i2 + 1))] [((1, 8), ⟨0, true, 61, 6, [.d (.str e1.name), .d (.str e1.space), .d (.list (e1.imports.map eStr)), .d (.list (e1.messages.map eMsg)), .d (.list (e1.enums.map eEnm)), .d (.list (e1.services.map eSvc))]⟩)])))) ∧ ((decide (((i2 : Nat) : Int) < ((e1.imports.length : Nat) : Int))) = false → (Q (.exit 4) (mkS [(0, .d (.list (files.map eFil))), (38, .d (.list (files.map eFil))), (39, nI files.length), (40, nI i1)] [])))) (fun r Q Post => by kernel_rfl) hr (fun r hθ hH hκ hN => ⟨fun _ => ⟨(idxS_at hx2 (fun _ => rfl)), (callS_of (fun H' => K_link_fileAt _ H' files e2 hf_files _ ⟨rfl, rfl⟩) (by kernel_rfl) (by kernel_rfl)), fun h5 => ?_, fun h5 => ⟨(wrap64 (by first | omega | (exact order_found ha1) | (simp only [ql1, ql5, ql6] <;> omega) | (simp only [ql1, ql5, ql6, qd1, qd2, qd3, qd4, qd5, qd6, qd7] at *; omega)) (by first | omega | (exact order_found ha1) | (simp only [ql1, ql5, ql6] <;> omega) | (simp only [ql1, ql5, ql6, qd1, qd2, qd3, qd4, qd5, qd6, qd7] at *; omega)) (by first | omega | (exact order_found ha1) | (simp only [ql1, ql5, ql6] <;> omega) | (simp only [ql1, ql5, ql6, qd1, qd2, qd3, qd4, qd5, qd6, qd7] at *; omega))), ?_⟩⟩, (fun h0 => absurd ((dec_t (by omega) : decide (((i2 : Nat) : Int) < ((e1.imports.length : Nat) : Int)) = true).symm.trans h0) (by decide))⟩)
    · exact ⟨(([] : List Int), e1.name, 10), by simp only [M_link_order_L3, h5, cond_true, cond_false, Sum.elim_inl, Sum.elim_inr], rfl, rfl⟩
    · exact ih (i2 + 1)  hs' (by omega)   Q (fun a ha => hx a (by simp only [M_link_order_L3, h5, cond_true, cond_false, Sum.elim_inl, Sum.elim_inr]; exact ha)) (fun τ hτ => hr τ (FQ_mono (fun y bs ⟨v, e1, e2⟩ => ⟨v, by simp only [M_link_order_L3, h5, cond_true, cond_false, Sum.elim_inl, Sum.elim_inr]; exact e1, e2⟩) hτ))
set_option maxRecDepth 100000 in
theorem K_link_order_L2 (C : Cx) (hC : CxOk C) (hO : C.outs = 0) (hF : C.fx = []) (files : List Fil) (a0 : Unit) (hf_files : Fit (.list (files.map eFil))) (h1 : (decide (((files.length : Nat) : Int) < (1 : Int)) || decide ((16 : Int) < ((files.length : Nat) : Int))) = false) (ha0 : M_link_order_L1 files files 0 = .inl a0)  : ∀ (suf1 : List Fil) (i1 : Nat) , files.drop i1 = suf1 → i1 ≤ files.length →  ∀ Q : Exit → St → Prop, (∀ rslt, M_link_order_L2 files suf1 = .inl rslt →  Q (.exit 2) (mkS [(0, .d (.list (files.map eFil)))] [])) →
    (∀ τ, FQ (lkT tl) [.tmp 2, .tmp 3, .tmp 4] 0 (fun y bs => ∃ v, M_link_order_L2 files suf1 = .inr v ∧ y = .tup [.d (.list (v.1.map eInt)), .d (.str v.2.1), .d (.int .i64 v.2.2)] ∧ bs = []) .ret τ → Q .ret τ) → LL Try.prog 80 C (cAt [1, 1, 1, 0, 1, 0, 0] (bodyOf Try.f22)) (mkS [(0, .d (.list (files.map eFil))), (38, .d (.list (files.map eFil))), (39, nI files.length), (40, nI i1)] []) Q := by
  have hlen : files.length < 2147483648 := hf_files.len
  have hlen_files := hf_files.len
  intro suf1
  induction suf1 with
  | nil =>
    intro i1  hs hi  Q hx hr
    have hge := drop_nil hs
    refine LL_round ?_
    refine LW_seq' (cAt [1, 1, 1, 0, 1, 0, 0, 0] (bodyOf Try.f22)) (cAt [1, 1, 1, 0, 1, 0, 0, 1] (bodyOf Try.f22)) (by kernel_rfl) ?_
    refine LW_mid2 hC tok tmo hO hF (.nil) ⟨[0, 38, 39, 40, 41], [], [], []⟩ ⟨[], [], [], []⟩ [.tmp 2, .tmp 3, .tmp 4] (fun r Q Post => (Q .normal (mkS [(0, .d (.list (files.map eFil))), (38, .d (.list (files.map eFil))), (39, nI files.length), (40, nI i1), (41, .d (.bool (decide (((i1 : Nat) : Int) < ((files.length : Nat) : Int)))))] []))) (fun r Q Post => by kernel_rfl) hr (fun r hθ hH hκ hN => ?_)
    · refine LW_seq' (cAt [1, 1, 1, 0, 1, 0, 0, 1, 0] (bodyOf Try.f22)) (cAt [1, 1, 1, 0, 1, 0, 0, 1, 1] (bodyOf Try.f22)) (by kernel_rfl) ?_
      refine LW_mid2 hC tok tmo hO hF (.br (.nil) (.nil)) ⟨[0, 38, 39, 40], [], [], []⟩ ⟨[0], [], [], []⟩ [.tmp 2, .tmp 3, .tmp 4] (fun r Q Post => ((decide (((i1 : Nat) : Int) < ((files.length : Nat) : Int))) = true → (Q .normal (mkS [(0, .d (.list (files.map eFil))), (38, .d (.list (files.map eFil))), (39, nI files.length), (40, nI i1)] []))) ∧ ((decide (((i1 : Nat) : Int) < ((files.length : Nat) : Int))) = false → (Q (.exit 2) (mkS [(0, .d (.list (files.map eFil)))] [])))) (fun r Q Post => by kernel_rfl) hr (fun r hθ hH hκ hN => ⟨(fun h0 => absurd ((dec_f (by omega) : decide (((i1 : Nat) : Int) < ((files.length : Nat) : Int)) = false).symm.trans h0) (by decide)), fun _ => ?_⟩)
      · exact hx () (by simp only [M_link_order_L2, cond_true, cond_false, Sum.elim_inl, Sum.elim_inr]) 
  | cons e1 suf1 ih =>
    intro i1  hs hi  Q hx hr
    obtain ⟨hx1, hlt1, hs'⟩ := drop_get hs
    have hfe1 := Fit.el hf_files hx1
    refine LL_round ?_
    refine LW_seq' (cAt [1, 1, 1, 0, 1, 0, 0, 0] (bodyOf Try.f22)) (cAt [1, 1, 1, 0, 1, 0, 0, 1] (bodyOf Try.f22)) (by kernel_rfl) ?_
    refine LW_mid2 hC tok tmo hO hF (.nil) ⟨[0, 38, 39, 40, 41], [], [], []⟩ ⟨[], [], [], []⟩ [.tmp 2, .tmp 3, .tmp 4] (fun r Q Post => (Q .normal (mkS [(0, .d (.list (files.map eFil))), (38, .d (.list (files.map eFil))), (39, nI files.length), (40, nI i1), (41, .d (.bool (decide (((i1 : Nat) : Int) < ((files.length : Nat) : Int)))))] []))) (fun r Q Post => by kernel_rfl) hr (fun r hθ hH hκ hN => ?_)
    · refine LW_seq' (cAt [1, 1, 1, 0, 1, 0, 0, 1, 0] (bodyOf Try.f22)) (cAt [1, 1, 1, 0, 1, 0, 0, 1, 1] (bodyOf Try.f22)) (by kernel_rfl) ?_
      refine LW_mid2 hC tok tmo hO hF (.br (.nil) (.nil)) ⟨[0, 38, 39, 40], [], [], []⟩ ⟨[0], [], [], []⟩ [.tmp 2, .tmp 3, .tmp 4] (fun r Q Post => ((decide (((i1 : Nat) : Int) < ((files.length : Nat) : Int))) = true → (Q .normal (mkS [(0, .d (.list (files.map eFil))), (38, .d (.list (files.map eFil))), (39, nI files.length), (40, nI i1)] []))) ∧ ((decide (((i1 : Nat) : Int) < ((files.length : Nat) : Int))) = false → (Q (.exit 2) (mkS [(0, .d (.list (files.map eFil)))] [])))) (fun r Q Post => by kernel_rfl) hr (fun r hθ hH hκ hN => ⟨fun _ => ?_, (fun h0 => absurd ((dec_t (by omega) : decide (((i1 : Nat) : Int) < ((files.length : Nat) : Int)) = true).symm.trans h0) (by decide))⟩)
      · refine LW_seq' (cAt [1, 1, 1, 0, 1, 0, 0, 1, 1, 0] (bodyOf Try.f22)) (cAt [1, 1, 1, 0, 1, 0, 0, 1, 1, 1] (bodyOf Try.f22)) (by kernel_rfl) ?_
        refine LW_block' 3 (cAt [1, 1, 1, 0, 1, 0, 0, 1, 1, 0, 0] (bodyOf Try.f22)) (by kernel_rfl) ?_
        refine LW_seq' (cAt [1, 1, 1, 0, 1, 0, 0, 1, 1, 0, 0, 0] (bodyOf Try.f22)) (cAt [1, 1, 1, 0, 1, 0, 0, 1, 1, 0, 0, 1] (bodyOf Try.f22)) (by kernel_rfl) ?_
        refine LW_mid2 hC tok tmo hO hF (.ds (eFil e1) (.go (.nil))) ⟨[0, 8, 38, 39, 40], [((1, 8), false)], [], []⟩ ⟨[], [], [], []⟩ [.tmp 2, .tmp 3, .tmp 4] (fun r Q Post => IdxS (files.map eFil) ((i1 : Nat) : Int) (eFil e1) ∧ (Q .normal (mkS [(0, .d (.list (files.map eFil))), (8, .ptr (1, 8) 0 0), (38, .d (.list (files.map eFil))), (39, nI files.length), (40, nI i1)] [((1, 8), ⟨0, true, 61, 6, [.d (.str e1.name), .d (.str e1.space), .d (.list (e1.imports.map eStr)), .d (.list (e1.messages.map eMsg)), .d (.list (e1.enums.map eEnm)), .d (.list (e1.services.map eSvc))]⟩)]))) (fun r Q Post => by kernel_rfl) hr (fun r hθ hH hκ hN => ⟨(idxS_at hx1 (fun _ => rfl)), ?_⟩)
        · refine LW_seq' (cAt [1, 1, 1, 0, 1, 0, 0, 1, 1, 0, 0, 1, 0] (bodyOf Try.f22)) (cAt [1, 1, 1, 0, 1, 0, 0, 1, 1, 0, 0, 1, 1] (bodyOf Try.f22)) (by kernel_rfl) ?_
          refine LW_mid2 hC tok tmo hO hF (.go (.nu e1.imports.length (.nil))) ⟨[0, 8, 38, 39, 40, 45, 46, 47], [((1, 8), false)], [], []⟩ ⟨[], [], [], []⟩ [.tmp 2, .tmp 3, .tmp 4] (fun r Q Post => EqI ((e1.imports.map eStr).length : Nat) ((e1.imports.length : Nat) : Int) ∧ (Q .normal (mkS [(0, .d (.list (files.map eFil))), (8, .ptr (1, 8) 0 0), (38, .d (.list (files.map eFil))), (39, nI files.length), (40, nI i1), (45, .d (.list (e1.imports.map eStr))), (46, nI e1.imports.length), (47, .d (.int .i64 0))] [((1, 8), ⟨0, true, 61, 6, [.d (.str e1.name), .d (.str e1.space), .d (.list (e1.imports.map eStr)), .d (.list (e1.messages.map eMsg)), .d (.list (e1.enums.map eEnm)), .d (.list (e1.services.map eSvc))]⟩)]))) (fun r Q Post => by kernel_rfl) hr (fun r hθ hH hκ hN => ⟨(eqI_len _ _), ?_⟩)
          · refine LW_block' 4 (cAt [1, 1, 1, 0, 1, 0, 0, 1, 1, 0, 0, 1, 1, 0] (bodyOf Try.f22)) (by kernel_rfl) ?_
            refine LW_loop' (cAt [1, 1, 1, 0, 1, 0, 0, 1, 1, 0, 0, 1, 1, 0, 0] (bodyOf Try.f22)) (by kernel_rfl) ?_
            refine K_link_order_L3 C hC hO hF files a0 i1 e1 hf_files  hfe1 hlt1 e1.imports 0  rfl (Nat.zero_le _)  _ ?_ ?_
            · intro a2 ha2  
              have hlen2 : e1.imports.length < 2147483648 := (FitL.at hfe1 2 rfl).len
              refine LW_mid2 hC tok tmo hO hF (.nu (i1 + 1) (.nil)) ⟨[0, 38, 39, 40], [], [], []⟩ ⟨[], [], [], []⟩ [.tmp 2, .tmp 3, .tmp 4] (fun r Q Post => WrapS .i64 (((i1 : Nat) : Int) + 1) ((i1 + 1 : Nat) : Int) ∧ (Q .normal (mkS [(0, .d (.list (files.map eFil))), (38, .d (.list (files.map eFil))), (39, nI files.length), (40, nI (i1 + 1))] []))) (fun r Q Post => by kernel_rfl) hr (fun r hθ hH hκ hN => ⟨(wrap64 (by first | omega | (exact order_found ha1) | (simp only [ql1, ql5, ql6] <;> omega) | (simp only [ql1, ql5, ql6, qd1, qd2, qd3, qd4, qd5, qd6, qd7] at *; omega)) (by first | omega | (exact order_found ha1) | (simp only [ql1, ql5, ql6] <;> omega) | (simp only [ql1, ql5, ql6, qd1, qd2, qd3, qd4, qd5, qd6, qd7] at *; omega)) (by first | omega | (exact order_found ha1) | (simp only [ql1, ql5, ql6] <;> omega) | (simp only [ql1, ql5, ql6, qd1, qd2, qd3, qd4, qd5, qd6, qd7] at *; omega))), ?_⟩)
              · exact ih (i1 + 1)  hs' (by omega)   Q (fun a ha => hx a (by simp only [M_link_order_L2, ha2, cond_true, cond_false, Sum.elim_inl, Sum.elim_inr]; exact ha)) (fun τ hτ => hr τ (FQ_mono (fun y bs ⟨v, e1, e2⟩ => ⟨v, by simp only [M_link_order_L2, ha2, cond_true, cond_false, Sum.elim_inl, Sum.elim_inr]; exact e1, e2⟩) hτ))
            · exact fun τ hτ => hr τ (FQ_mono (fun y bs ⟨v, e1, e2⟩ => ⟨v, by simp only [M_link_order_L2, cond_true, cond_false, Sum.elim_inl, Sum.elim_inr, e1], e2⟩) hτ)
set_option maxRecDepth 100000 in
theorem K_link_order_L4 (C : Cx) (hC : CxOk C) (hO : C.outs = 0) (hF : C.fx = []) (files : List Fil) (a0 : Unit) (a1 : Unit) (hf_files : Fit (.list (files.map eFil))) (h1 : (decide (((files.length : Nat) : Int) < (1 : Int)) || decide ((16 : Int) < ((files.length : Nat) : Int))) = false) (ha0 : M_link_order_L1 files files 0 = .inl a0) (ha1 : M_link_order_L2 files files = .inl a1) (h6 : (decide ((((M_link_chosen files).length : Nat) : Int) = ((files.length : Nat) : Int))) = false) (ha1 : M_link_order_L2 files files = .inl a1) : ∀ (suf3 : List Fil) (i3 : Nat) , files.drop i3 = suf3 → i3 ≤ files.length →  ∀ Q : Exit → St → Prop, (∀ rslt, M_link_order_L4 files suf3 i3 = .inl rslt →  Q (.exit 6) (mkS [] [])) →
    (∀ τ, FQ (lkT tl) [.tmp 2, .tmp 3, .tmp 4] 0 (fun y bs => ∃ v, M_link_order_L4 files suf3 i3 = .inr v ∧ y = .tup [.d (.list (v.1.map eInt)), .d (.str v.2.1), .d (.int .i64 v.2.2)] ∧ bs = []) .ret τ → Q .ret τ) → LL Try.prog 80 C (cAt [1, 1, 1, 1, 1, 1, 0, 1, 0, 0] (bodyOf Try.f22)) (mkS [(0, .d (.list (files.map eFil))), (67, .d (.list (files.map eFil))), (68, nI files.length), (69, nI i3)] []) Q := by
  have hlen : files.length < 2147483648 := hf_files.len
  have hlen_files := hf_files.len
  intro suf3
  induction suf3 with
  | nil =>
    intro i3  hs hi  Q hx hr
    have hge := drop_nil hs
    refine LL_round ?_
    refine LW_mid2 hC tok tmo hO hF (.br (.ds (eFil (files.getD i3 zFil)) (.go (.call (.d (.bool (M_link_reaches files i3))) [] (.br (.go (.nil)) (.nu (i3 + 1) (.nil)))))) (.nil)) ⟨[0, 67, 68, 69], [], [], []⟩ ⟨[], [], [], []⟩ [.tmp 2, .tmp 3, .tmp 4] (fun r Q Post => ((decide (((i3 : Nat) : Int) < ((files.length : Nat) : Int))) = true → IdxS (files.map eFil) ((i3 : Nat) : Int) (eFil (files.getD i3 zFil)) ∧ CallS Try.prog C.l r 53 ([] ++ [.d (.list (files.map eFil)), nI i3] ++ []) [] (.d (.bool (M_link_reaches files i3))) ∧ ((M_link_reaches files i3) = true → (Post (.tup [.d (.list []), .d (.str (files.getD i3 zFil).name), .d (.int .i64 19)]) [])) ∧ ((M_link_reaches files i3) = false → WrapS .i64 (((i3 : Nat) : Int) + 1) ((i3 + 1 : Nat) : Int) ∧ (Q .normal (mkS [(0, .d (.list (files.map eFil))), (67, .d (.list (files.map eFil))), (68, nI files.length), (69, nI (i3 + 1))] [])))) ∧ ((decide (((i3 : Nat) : Int) < ((files.length : Nat) : Int))) = false → (Q (.exit 6) (mkS [] [])))) (fun r Q Post => by kernel_rfl) hr (fun r hθ hH hκ hN => ⟨(fun h0 => absurd ((dec_f (by omega) : decide (((i3 : Nat) : Int) < ((files.length : Nat) : Int)) = false).symm.trans h0) (by decide)), fun _ => ?_⟩)
    · exact hx () (by simp only [M_link_order_L4, cond_true, cond_false, Sum.elim_inl, Sum.elim_inr]) 
  | cons e3 suf3 ih =>
    intro i3  hs hi  Q hx hr
    obtain ⟨hx3, hlt3, hs'⟩ := drop_get hs
    refine LL_round ?_
    refine LW_mid2 hC tok tmo hO hF (.br (.ds (eFil e3) (.go (.call (.d (.bool (M_link_reaches files i3))) [] (.br (.go (.nil)) (.nu (i3 + 1) (.nil)))))) (.nil)) ⟨[0, 67, 68, 69], [], [], []⟩ ⟨[], [], [], []⟩ [.tmp 2, .tmp 3, .tmp 4] (fun r Q Post => ((decide (((i3 : Nat) : Int) < ((files.length : Nat) : Int))) = true → IdxS (files.map eFil) ((i3 : Nat) : Int) (eFil e3) ∧ CallS Try.prog C.l r 53 ([] ++ [.d (.list (files.map eFil)), nI i3] ++ []) [] (.d (.bool (M_link_reaches files i3))) ∧ ((M_link_reaches files i3) = true → (Post (.tup [.d (.list []), .d (.str e3.name), .d (.int .i64 19)]) [])) ∧ ((M_link_reaches files i3) = false → WrapS .i64 (((i3 : Nat) : Int) + 1) ((i3 + 1 : Nat) : Int) ∧ (Q .normal (mkS [(0, .d (.list (files.map eFil))), (67, .d (.list (files.map eFil))), (68, nI files.length), (69, nI (i3 + 1))] [])))) ∧ ((decide (((i3 : Nat) : Int) < ((files.length : Nat) : Int))) = false → (Q (.exit 6) (mkS [] [])))) (fun r Q Post => by kernel_rfl) hr (fun r hθ hH hκ hN => ⟨fun _ => ⟨(idxS_at hx3 (fun _ => rfl)), (callS_of (fun H' => K_link_reaches _ H' files i3 (by first | omega | (exact order_found ha1) | (simp only [ql1, ql5, ql6] <;> omega) | (simp only [qd1, qd2, qd3, qd4, qd5, qd6, qd7, ql1, ql5, ql6] at * <;> omega)) (by first | omega | (exact order_found ha1) | (simp only [ql1, ql5, ql6] <;> omega) | (simp only [qd1, qd2, qd3, qd4, qd5, qd6, qd7, ql1, ql5, ql6] at * <;> omega)) hf_files _ ⟨rfl, rfl⟩) (by kernel_rfl) (by kernel_rfl)), fun h8 => ?_, fun h8 => ⟨(wrap64 (by first | omega | (exact order_found ha1) | (simp only [ql1, ql5, ql6] <;> omega) | (simp only [ql1, ql5, ql6, qd1, qd2, qd3, qd4, qd5, qd6, qd7] at *; omega)) (by first | omega | (exact order_found ha1) | (simp only [ql1, ql5, ql6] <;> omega) | (simp only [ql1, ql5, ql6, qd1, qd2, qd3, qd4, qd5, qd6, qd7] at *; omega)) (by first | omega | (exact order_found ha1) | (simp only [ql1, ql5, ql6] <;> omega) | (simp only [ql1, ql5, ql6, qd1, qd2, qd3, qd4, qd5, qd6, qd7] at *; omega))), ?_⟩⟩, (fun h0 => absurd ((dec_t (by omega) : decide (((i3 : Nat) : Int) < ((files.length : Nat) : Int)) = true).symm.trans h0) (by decide))⟩)
    · exact ⟨(([] : List Int), e3.name, 19), by simp only [M_link_order_L4, h8, cond_true, cond_false, Sum.elim_inl, Sum.elim_inr], rfl, rfl⟩
    · exact ih (i3 + 1)  hs' (by omega)   Q (fun a ha => hx a (by simp only [M_link_order_L4, h8, cond_true, cond_false, Sum.elim_inl, Sum.elim_inr]; exact ha)) (fun τ hτ => hr τ (FQ_mono (fun y bs ⟨v, e1, e2⟩ => ⟨v, by simp only [M_link_order_L4, h8, cond_true, cond_false, Sum.elim_inl, Sum.elim_inr]; exact e1, e2⟩) hτ))
set_option maxRecDepth 100000 in
theorem K_link_order_b (C : Cx) (hC : CxOk C) (hO : C.outs = 0) (hF : C.fx = []) (files : List Fil) (hf_files : Fit (.list (files.map eFil))) (Post : AV → List Blk → Prop) (h : Post (.tup [.d (.list (((M_link_order files).1).map eInt)), .d (.str ((M_link_order files).2.1)), .d (.int .i64 ((M_link_order files).2.2))]) []) : LW Try.prog 80 C (bodyOf Try.f22) (mkS (zipS 0 [.d (.list (files.map eFil))]) []) (FQ (lkT tl) [.tmp 2, .tmp 3, .tmp 4] 0 Post) := by
  have hlen_files := hf_files.len
  refine LW_seq' (cAt [0] (bodyOf Try.f22)) (cAt [1] (bodyOf Try.f22)) (by kernel_rfl) ?_
  refine LW_mid2 hC tok tmo hO hF (.nil) ⟨[0], [], [], []⟩ ⟨[], [], [], []⟩ [.tmp 2, .tmp 3, .tmp 4] (fun r Q Post => (Q .normal (mkS [(0, .d (.list (files.map eFil)))] []))) (fun r Q Post => by kernel_rfl) (fun _ h => h) (fun r hθ hH hκ hN => ?_)
  · refine LW_seq' (cAt [1, 0] (bodyOf Try.f22)) (cAt [1, 1] (bodyOf Try.f22)) (by kernel_rfl) ?_
    refine LW_mid2 hC tok tmo hO hF (.nu files.length (.nu files.length (.br (.nil) (.nil)))) ⟨[0], [], [], []⟩ ⟨[], [], [], []⟩ [.tmp 2, .tmp 3, .tmp 4] (fun r Q Post => EqI ((files.map eFil).length : Nat) ((files.length : Nat) : Int) ∧ ((!(decide (((files.length : Nat) : Int) < (1 : Int)))) = true → EqI ((files.map eFil).length : Nat) ((files.length : Nat) : Int)) ∧ ((decide (((files.length : Nat) : Int) < (1 : Int)) || decide ((16 : Int) < ((files.length : Nat) : Int))) = true → (Post (.tup [.d (.list []), .d (.str ⟨#[]⟩), .d (.int .i64 3)]) [])) ∧ ((decide (((files.length : Nat) : Int) < (1 : Int)) || decide ((16 : Int) < ((files.length : Nat) : Int))) = false → (Q .normal (mkS [(0, .d (.list (files.map eFil)))] [])))) (fun r Q Post => by kernel_rfl) (fun _ h => h) (fun r hθ hH hκ hN => ⟨(eqI_len _ _), (fun hgd => (eqI_len _ _)), fun h1 => ?_, fun h1 => ?_⟩)
    · have hh := h
      simp only [M_link_order, h1, cond_true, cond_false, Sum.elim_inl, Sum.elim_inr] at hh
      exact hh
    · refine LW_seq' (cAt [1, 1, 0] (bodyOf Try.f22)) (cAt [1, 1, 1] (bodyOf Try.f22)) (by kernel_rfl) ?_
      refine LW_seq' (cAt [1, 1, 0, 0] (bodyOf Try.f22)) (cAt [1, 1, 0, 1] (bodyOf Try.f22)) (by kernel_rfl) ?_
      refine LW_mid2 hC tok tmo hO hF (.nu files.length (.nil)) ⟨[0, 22, 23, 24], [], [], []⟩ ⟨[], [], [], []⟩ [.tmp 2, .tmp 3, .tmp 4] (fun r Q Post => EqI ((files.map eFil).length : Nat) ((files.length : Nat) : Int) ∧ (Q .normal (mkS [(0, .d (.list (files.map eFil))), (22, .d (.list (files.map eFil))), (23, nI files.length), (24, .d (.int .i64 0))] []))) (fun r Q Post => by kernel_rfl) (fun _ h => h) (fun r hθ hH hκ hN => ⟨(eqI_len _ _), ?_⟩)
      · refine LW_block' 0 (cAt [1, 1, 0, 1, 0] (bodyOf Try.f22)) (by kernel_rfl) ?_
        refine LW_loop' (cAt [1, 1, 0, 1, 0, 0] (bodyOf Try.f22)) (by kernel_rfl) ?_
        refine K_link_order_L1 C hC hO hF files hf_files h1  files 0  rfl (Nat.zero_le _)  _ ?_ ?_
        · intro a0 ha0  
          have hlen0 : files.length < 2147483648 := hf_files.len
          refine LW_seq' (cAt [1, 1, 1, 0] (bodyOf Try.f22)) (cAt [1, 1, 1, 1] (bodyOf Try.f22)) (by kernel_rfl) ?_
          refine LW_seq' (cAt [1, 1, 1, 0, 0] (bodyOf Try.f22)) (cAt [1, 1, 1, 0, 1] (bodyOf Try.f22)) (by kernel_rfl) ?_
          refine LW_mid2 hC tok tmo hO hF (.nu files.length (.nil)) ⟨[0, 38, 39, 40], [], [], []⟩ ⟨[], [], [], []⟩ [.tmp 2, .tmp 3, .tmp 4] (fun r Q Post => EqI ((files.map eFil).length : Nat) ((files.length : Nat) : Int) ∧ (Q .normal (mkS [(0, .d (.list (files.map eFil))), (38, .d (.list (files.map eFil))), (39, nI files.length), (40, .d (.int .i64 0))] []))) (fun r Q Post => by kernel_rfl) (fun _ h => h) (fun r hθ hH hκ hN => ⟨(eqI_len _ _), ?_⟩)
          · refine LW_block' 2 (cAt [1, 1, 1, 0, 1, 0] (bodyOf Try.f22)) (by kernel_rfl) ?_
            refine LW_loop' (cAt [1, 1, 1, 0, 1, 0, 0] (bodyOf Try.f22)) (by kernel_rfl) ?_
            refine K_link_order_L2 C hC hO hF files a0 hf_files h1 ha0  files 0  rfl (Nat.zero_le _)  _ ?_ ?_
            · intro a1 ha1  
              have hlen1 : files.length < 2147483648 := hf_files.len
              refine LW_seq' (cAt [1, 1, 1, 1, 0] (bodyOf Try.f22)) (cAt [1, 1, 1, 1, 1] (bodyOf Try.f22)) (by kernel_rfl) ?_
              refine LW_mid2 hC tok tmo hO hF (.call (.d (.list ((M_link_chosen files).map eInt))) [] (.nil)) ⟨[0, 11], [], [], []⟩ ⟨[], [], [], []⟩ [.tmp 2, .tmp 3, .tmp 4] (fun r Q Post => CallS Try.prog C.l r 52 ([] ++ [.d (.list (files.map eFil))] ++ []) [] (.d (.list ((M_link_chosen files).map eInt))) ∧ (Q .normal (mkS [(0, .d (.list (files.map eFil))), (11, .d (.list ((M_link_chosen files).map eInt)))] []))) (fun r Q Post => by kernel_rfl) (fun _ h => h) (fun r hθ hH hκ hN => ⟨(callS_of (fun H' => K_link_chosen _ H' files hf_files _ ⟨rfl, rfl⟩) (by kernel_rfl) (by kernel_rfl)), ?_⟩)
              · refine LW_seq' (cAt [1, 1, 1, 1, 1, 0] (bodyOf Try.f22)) (cAt [1, 1, 1, 1, 1, 1] (bodyOf Try.f22)) (by kernel_rfl) ?_
                refine LW_mid2 hC tok tmo hO hF (.nu ((M_link_chosen files).length) (.nu files.length (.br (.nil) (.nil)))) ⟨[0], [], [], []⟩ ⟨[], [], [], []⟩ [.tmp 2, .tmp 3, .tmp 4] (fun r Q Post => EqI (((M_link_chosen files).map eInt).length : Nat) (((M_link_chosen files).length : Nat) : Int) ∧ EqI ((files.map eFil).length : Nat) ((files.length : Nat) : Int) ∧ ((decide ((((M_link_chosen files).length : Nat) : Int) = ((files.length : Nat) : Int))) = true → (Post (.tup [.d (.list ((M_link_chosen files).map eInt)), .d (.str ⟨#[]⟩), .d (.int .i64 0)]) [])) ∧ ((decide ((((M_link_chosen files).length : Nat) : Int) = ((files.length : Nat) : Int))) = false → (Q .normal (mkS [(0, .d (.list (files.map eFil)))] [])))) (fun r Q Post => by kernel_rfl) (fun _ h => h) (fun r hθ hH hκ hN => ⟨(eqI_len _ _), (eqI_len _ _), fun h6 => ?_, fun h6 => ?_⟩)
                · have hh := h
                  simp only [M_link_order, h1, ha0, ha1, h6, cond_true, cond_false, Sum.elim_inl, Sum.elim_inr] at hh
                  exact hh
                · refine LW_seq' (cAt [1, 1, 1, 1, 1, 1, 0] (bodyOf Try.f22)) (cAt [1, 1, 1, 1, 1, 1, 1] (bodyOf Try.f22)) (by kernel_rfl) ?_
                  refine LW_seq' (cAt [1, 1, 1, 1, 1, 1, 0, 0] (bodyOf Try.f22)) (cAt [1, 1, 1, 1, 1, 1, 0, 1] (bodyOf Try.f22)) (by kernel_rfl) ?_
                  refine LW_mid2 hC tok tmo hO hF (.nu files.length (.nil)) ⟨[0, 67, 68, 69], [], [], []⟩ ⟨[], [], [], []⟩ [.tmp 2, .tmp 3, .tmp 4] (fun r Q Post => EqI ((files.map eFil).length : Nat) ((files.length : Nat) : Int) ∧ (Q .normal (mkS [(0, .d (.list (files.map eFil))), (67, .d (.list (files.map eFil))), (68, nI files.length), (69, .d (.int .i64 0))] []))) (fun r Q Post => by kernel_rfl) (fun _ h => h) (fun r hθ hH hκ hN => ⟨(eqI_len _ _), ?_⟩)
                  · refine LW_block' 6 (cAt [1, 1, 1, 1, 1, 1, 0, 1, 0] (bodyOf Try.f22)) (by kernel_rfl) ?_
                    refine LW_loop' (cAt [1, 1, 1, 1, 1, 1, 0, 1, 0, 0] (bodyOf Try.f22)) (by kernel_rfl) ?_
                    refine K_link_order_L4 C hC hO hF files a0 a1 hf_files h1 ha0 ha1 h6 ha1 files 0  rfl (Nat.zero_le _)  _ ?_ ?_
                    · intro a3 ha3  
                      have hlen3 : files.length < 2147483648 := hf_files.len
                      refine LW_fin2 hC tok tmo hO (.nil) [.tmp 2, .tmp 3, .tmp 4] (fun r Post => (Post (.tup [.d (.list []), .d (.str ⟨#[]⟩), .d (.int .i64 19)]) [])) (fun r Post => by kernel_rfl) (fun r hθ hH hκ hN => ?_)
                      · have hh := h
                        simp only [M_link_order, h1, ha0, ha1, h6, ha3, cond_true, cond_false, Sum.elim_inl, Sum.elim_inr] at hh
                        exact hh
                    · exact fun τ hτ => FQ_mono (fun y bs ⟨v, e1, e2⟩ => by obtain ⟨e2, e3⟩ := e2; subst e2; subst e3; have hh := h; simp only [M_link_order, h1, ha0, ha1, h6, cond_true, cond_false, Sum.elim_inl, Sum.elim_inr, e1] at hh; exact hh) hτ
            · exact fun τ hτ => FQ_mono (fun y bs ⟨v, e1, e2⟩ => by obtain ⟨e2, e3⟩ := e2; subst e2; subst e3; have hh := h; simp only [M_link_order, h1, ha0, cond_true, cond_false, Sum.elim_inl, Sum.elim_inr, e1] at hh; exact hh) hτ
        · exact fun τ hτ => FQ_mono (fun y bs ⟨v, e1, e2⟩ => by obtain ⟨e2, e3⟩ := e2; subst e2; subst e3; have hh := h; simp only [M_link_order, h1, cond_true, cond_false, Sum.elim_inl, Sum.elim_inr, e1] at hh; exact hh) hτ
theorem K_link_order (ℓ : Nat) (ℋ : Hp)  (files : List Fil)  (hf_files : Fit (.list (files.map eFil))) (Post : AV → Hp → Prop) (h : Post (.tup [.d (.list (((M_link_order files).1).map eInt)), .d (.str ((M_link_order files).2.1)), .d (.int .i64 ((M_link_order files).2.2))]) ℋ) : ACall Try.prog 22 ℓ [.d (.list (files.map eFil))] ℋ Post :=
  acall_pure (n := 80) [.tmp 2, .tmp 3, .tmp 4] (bodyOf Try.f22) (fun _ => .top) [.d (.list (files.map eFil))] Try.func22 (by kernel_rfl) (by kernel_rfl) Try.ntmps22 (by kernel_rfl) (by simp) tok (by kernel_rfl) (fun B => K_link_order_b (cxP ℓ (fun _ => .top) ℋ B) (cxOk_pure ℓ B _ ℋ) rfl rfl files hf_files (fun y _ => Post y ℋ) h)
def M_link_Order (files : List Fil) : List Int × Int := ((M_link_order files).1, (M_link_order files).2.2)
set_option maxRecDepth 100000 in
theorem K_link_Order_b (C : Cx) (hC : CxOk C) (hO : C.outs = 0) (hF : C.fx = []) (files : List Fil) (hf_files : Fit (.list (files.map eFil))) (Post : AV → List Blk → Prop) (h : Post (.tup [.d (.list (((M_link_Order files).1).map eInt)), .d (.int .i64 ((M_link_Order files).2))]) []) : LW Try.prog 15 C (bodyOf Try.f15) (mkS (zipS 0 [.d (.list (files.map eFil))]) []) (FQ (lkT tl) [.tmp 2, .tmp 3] 0 Post) := by
  refine LW_fin2 hC tok tmo hO (.call (.tup [.d (.list (((M_link_order files).1).map eInt)), .d (.str ((M_link_order files).2.1)), .d (.int .i64 ((M_link_order files).2.2))]) [] (.nil)) [.tmp 2, .tmp 3] (fun r Post => CallS Try.prog C.l r 22 ([] ++ [.d (.list (files.map eFil))] ++ []) [] (.tup [.d (.list (((M_link_order files).1).map eInt)), .d (.str ((M_link_order files).2.1)), .d (.int .i64 ((M_link_order files).2.2))]) ∧ (Post (.tup [.d (.list (((M_link_order files).1).map eInt)), .d (.int .i64 ((M_link_order files).2.2))]) [])) (fun r Post => by kernel_rfl) (fun r hθ hH hκ hN => ⟨(callS_of (fun H' => K_link_order _ H' files hf_files _ ⟨rfl, rfl⟩) (by kernel_rfl) (by kernel_rfl)), ?_⟩)
  · have hh := h
    simp only [M_link_Order, cond_true, cond_false, Sum.elim_inl, Sum.elim_inr] at hh
    exact hh
theorem K_link_Order (ℓ : Nat) (ℋ : Hp)  (files : List Fil)  (hf_files : Fit (.list (files.map eFil))) (Post : AV → Hp → Prop) (h : Post (.tup [.d (.list (((M_link_Order files).1).map eInt)), .d (.int .i64 ((M_link_Order files).2))]) ℋ) : ACall Try.prog 15 ℓ [.d (.list (files.map eFil))] ℋ Post :=
  acall_pure (n := 15) [.tmp 2, .tmp 3] (bodyOf Try.f15) (fun _ => .top) [.d (.list (files.map eFil))] Try.func15 (by kernel_rfl) (by kernel_rfl) Try.ntmps15 (by kernel_rfl) (by simp) tok (by kernel_rfl) (fun B => K_link_Order_b (cxP ℓ (fun _ => .top) ℋ B) (cxOk_pure ℓ B _ ℋ) rfl rfl files hf_files (fun y _ => Post y ℋ) h)
def M_wireschemaref11_Order (files : List Fil) : List Int × Int := ((M_wireschemaref11_sorted files).1, (M_wireschemaref11_sorted files).2.2)
set_option maxRecDepth 100000 in
theorem K_wireschemaref11_Order_b (C : Cx) (hC : CxOk C) (hO : C.outs = 0) (hF : C.fx = []) (files : List Fil) (hf_files : Fit (.list (files.map eFil))) (Post : AV → List Blk → Prop) (h : Post (.tup [.d (.list (((M_wireschemaref11_Order files).1).map eInt)), .d (.int .i64 ((M_wireschemaref11_Order files).2))]) []) : LW Try.prog 15 C (bodyOf Try.f16) (mkS (zipS 0 [.d (.list (files.map eFil))]) []) (FQ (lkT tl) [.tmp 2, .tmp 3] 0 Post) := by
  refine LW_fin2 hC tok tmo hO (.call (.tup [.d (.list (((M_wireschemaref11_sorted files).1).map eInt)), .d (.str ((M_wireschemaref11_sorted files).2.1)), .d (.int .i64 ((M_wireschemaref11_sorted files).2.2))]) [] (.nil)) [.tmp 2, .tmp 3] (fun r Post => CallS Try.prog C.l r 31 ([] ++ [.d (.list (files.map eFil))] ++ []) [] (.tup [.d (.list (((M_wireschemaref11_sorted files).1).map eInt)), .d (.str ((M_wireschemaref11_sorted files).2.1)), .d (.int .i64 ((M_wireschemaref11_sorted files).2.2))]) ∧ (Post (.tup [.d (.list (((M_wireschemaref11_sorted files).1).map eInt)), .d (.int .i64 ((M_wireschemaref11_sorted files).2.2))]) [])) (fun r Post => by kernel_rfl) (fun r hθ hH hκ hN => ⟨(callS_of (fun H' => K_wireschemaref11_sorted _ H' files hf_files _ ⟨rfl, rfl⟩) (by kernel_rfl) (by kernel_rfl)), ?_⟩)
  · have hh := h
    simp only [M_wireschemaref11_Order, cond_true, cond_false, Sum.elim_inl, Sum.elim_inr] at hh
    exact hh
theorem K_wireschemaref11_Order (ℓ : Nat) (ℋ : Hp)  (files : List Fil)  (hf_files : Fit (.list (files.map eFil))) (Post : AV → Hp → Prop) (h : Post (.tup [.d (.list (((M_wireschemaref11_Order files).1).map eInt)), .d (.int .i64 ((M_wireschemaref11_Order files).2))]) ℋ) : ACall Try.prog 16 ℓ [.d (.list (files.map eFil))] ℋ Post :=
  acall_pure (n := 15) [.tmp 2, .tmp 3] (bodyOf Try.f16) (fun _ => .top) [.d (.list (files.map eFil))] Try.func16 (by kernel_rfl) (by kernel_rfl) Try.ntmps16 (by kernel_rfl) (by simp) tok (by kernel_rfl) (fun B => K_wireschemaref11_Order_b (cxP ℓ (fun _ => .top) ℋ B) (cxOk_pure ℓ B _ ℋ) rfl rfl files hf_files (fun y _ => Post y ℋ) h)
theorem ordr_L1 (files : List Fil) : ∀ (l : List Fil) i r, M_link_order_L1 files l i = .inr r → r.1 = []
  | [], _, _, h => by cases h
  | x :: l, i, r, h => by
    rw [M_link_order_L1] at h
    cases hd : decide (M_link_fileAt files x.name < ((i : Nat) : Int)) with
    | true => rw [hd] at h; cases h; rfl
    | false => rw [hd] at h; exact ordr_L1 files l _ r h
theorem ordr_L3 (files : List Fil) (e1 : Fil) : ∀ (l : List ByteArray) r, M_link_order_L3 files e1 l = .inr r → r.1 = []
  | [], _, h => by cases h
  | x :: l, r, h => by
    rw [M_link_order_L3] at h
    cases hd : decide (M_link_fileAt files x < (0 : Int)) with
    | true => rw [hd] at h; cases h; rfl
    | false => rw [hd] at h; exact ordr_L3 files e1 l r h
theorem ordr_L2 (files : List Fil) : ∀ (l : List Fil) r, M_link_order_L2 files l = .inr r → r.1 = []
  | [], _, h => by cases h
  | x :: l, r, h => by
    rw [M_link_order_L2] at h
    cases hd : M_link_order_L3 files x x.imports with
    | inr v => rw [hd] at h; cases h; exact ordr_L3 files _ _ _ hd
    | inl u => rw [hd] at h; exact ordr_L2 files l r h
theorem ordr_L4 (files : List Fil) : ∀ (l : List Fil) i r, M_link_order_L4 files l i = .inr r → r.1 = []
  | [], _, _, h => by cases h
  | x :: l, i, r, h => by
    rw [M_link_order_L4] at h
    cases hd : M_link_reaches files i with
    | true => rw [hd] at h; cases h; rfl
    | false => rw [hd] at h; exact ordr_L4 files l _ r h
theorem order_len (files : List Fil) : (M_link_Order files).1.length ≤ 16 := by
  rw [M_link_Order, M_link_order]
  cases hc : (decide (((files.length : Nat) : Int) < (1 : Int)) || decide ((16 : Int) < ((files.length : Nat) : Int))) with
  | true => exact Nat.zero_le _
  | false =>
    simp only [qd6, qd2] at hc
    rw [cond_false]
    cases h1 : M_link_order_L1 files files 0 with
    | inr r => simp only [Sum.elim_inr, ordr_L1 files _ _ _ h1]; exact Nat.zero_le _
    | inl u =>
      rw [Sum.elim_inl]
      cases h2 : M_link_order_L2 files files with
      | inr r => simp only [Sum.elim_inr, ordr_L2 files _ _ h2]; exact Nat.zero_le _
      | inl u =>
        rw [Sum.elim_inl]
        cases hd : decide ((((M_link_chosen files).length : Nat) : Int) = ((files.length : Nat) : Int)) with
        | true => have := of_decide_eq_true hd; simp only [cond_true]; omega
        | false =>
          rw [cond_false]
          cases h4 : M_link_order_L4 files files 0 with
          | inr r => simp only [Sum.elim_inr, ordr_L4 files _ _ _ h4]; exact Nat.zero_le _
          | inl u => exact Nat.zero_le _
end Go.Proofs.Ythagpbkmakocjaa
