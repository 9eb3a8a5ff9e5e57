/-
  Walks and models of functions of this seat; by program (gen.py, seat.py), laws of the models by hand.
-/
import Derived.Test.YthagpbkmakocjaaTab
import Derived.Test.YthagpbkmakocjaaEngZh
namespace Go.Proofs.Ythagpbkmakocjaa
set_option linter.all false
open Go Go.Eng
def M_wireschemaref11_file_L1 (name : ByteArray) : List Fil → Nat → (Unit) ⊕ (Int)
  | [], i => .inl ()
  | e0 :: suf0, i => cond (decide (e0.name = name)) (.inr (((i : Nat) : Int))) (M_wireschemaref11_file_L1 name suf0 (i + 1) )
def M_wireschemaref11_file (files : List Fil) (name : ByteArray) : Int := Sum.elim (fun _ => (-1)) (fun v => v) (M_wireschemaref11_file_L1 name files 0)
set_option maxRecDepth 100000 in
theorem K_wireschemaref11_file_L1 (C : Cx) (hC : CxOk C) (hO : C.outs = 0) (hF : C.fx = []) (files : List Fil) (name : ByteArray) (hf_files : Fit (.list (files.map eFil)))   : ∀ (suf0 : List Fil) (i : Nat) , files.drop i = suf0 → i ≤ files.length →  ∀ Q : Exit → St → Prop, (∀ rslt, M_wireschemaref11_file_L1 name suf0 i = .inl rslt →  Q (.exit 0) (mkS [] [])) →
    (∀ τ, FQ (lkT tl) [.tmp 4] 0 (fun y bs => ∃ v, M_wireschemaref11_file_L1 name suf0 i = .inr v ∧ y = .d (.int .i64 v) ∧ bs = []) .ret τ → Q .ret τ) → LL Try.prog 20 C (cAt [1, 0, 1, 0, 0] (bodyOf Try.f66)) (mkS [(0, .d (.list (files.map eFil))), (1, .d (.str name)), (5, nI i)] []) Q := by
  have hlen : files.length < 2147483648 := hf_files.len
  intro suf0
  induction suf0 with
  | nil =>
    intro i  hs hi  Q hx hr
    have hge := drop_nil hs
    refine LL_round ?_
    refine LW_mid2 hC tok tmo hO hF (.nu files.length (.br (.ds (eFil (files.getD i zFil)) (.br (.nil) (.nu (i + 1) (.nil)))) (.nil))) ⟨[0, 1, 5], [], [], []⟩ ⟨[], [], [], []⟩ [.tmp 4] (fun r Q Post => EqI ((files.map eFil).length : Nat) ((files.length : Nat) : Int) ∧ ((decide (((i : Nat) : Int) < ((files.length : Nat) : Int))) = true → IdxS (files.map eFil) ((i : Nat) : Int) (eFil (files.getD i zFil)) ∧ ((decide ((files.getD i zFil).name = name)) = true → (Post (nI i) [])) ∧ ((decide ((files.getD i zFil).name = name)) = false → WrapS .i64 (((i : Nat) : Int) + 1) ((i + 1 : Nat) : Int) ∧ (Q .normal (mkS [(0, .d (.list (files.map eFil))), (1, .d (.str name)), (5, nI (i + 1))] [])))) ∧ ((decide (((i : Nat) : Int) < ((files.length : Nat) : Int))) = false → (Q (.exit 0) (mkS [] [])))) (fun r Q Post => by kernel_rfl) hr (fun r hθ hH hκ hN => ⟨(eqI_len _ _), (fun h0 => absurd ((dec_f (by omega) : decide (((i : Nat) : Int) < ((files.length : Nat) : Int)) = false).symm.trans h0) (by decide)), fun _ => ?_⟩)
    · exact hx () (by simp only [M_wireschemaref11_file_L1, cond_true, cond_false, Sum.elim_inl, Sum.elim_inr]) 
  | cons e0 suf0 ih =>
    intro i  hs hi  Q hx hr
    obtain ⟨hx0, hlt0, hs'⟩ := drop_get hs
    refine LL_round ?_
    refine LW_mid2 hC tok tmo hO hF (.nu files.length (.br (.ds (eFil e0) (.br (.nil) (.nu (i + 1) (.nil)))) (.nil))) ⟨[0, 1, 5], [], [], []⟩ ⟨[], [], [], []⟩ [.tmp 4] (fun r Q Post => EqI ((files.map eFil).length : Nat) ((files.length : Nat) : Int) ∧ ((decide (((i : Nat) : Int) < ((files.length : Nat) : Int))) = true → IdxS (files.map eFil) ((i : Nat) : Int) (eFil e0) ∧ ((decide (e0.name = name)) = true → (Post (nI i) [])) ∧ ((decide (e0.name = name)) = false → WrapS .i64 (((i : Nat) : Int) + 1) ((i + 1 : Nat) : Int) ∧ (Q .normal (mkS [(0, .d (.list (files.map eFil))), (1, .d (.str name)), (5, nI (i + 1))] [])))) ∧ ((decide (((i : Nat) : Int) < ((files.length : Nat) : Int))) = false → (Q (.exit 0) (mkS [] [])))) (fun r Q Post => by kernel_rfl) hr (fun r hθ hH hκ hN => ⟨(eqI_len _ _), fun _ => ⟨(idxS_at hx0 (fun _ => rfl)), fun h2 => ?_, fun h2 => ⟨(wrap64 (by first | omega | (simp only [ql1] <;> omega) | (simp only [ql1, qd1, qd2, qd3, qd4, qd5, qd6, qd7] at *; omega)) (by first | omega | (simp only [ql1] <;> omega) | (simp only [ql1, qd1, qd2, qd3, qd4, qd5, qd6, qd7] at *; omega)) (by first | omega | (simp only [ql1] <;> omega) | (simp only [ql1, qd1, qd2, qd3, qd4, qd5, qd6, qd7] at *; omega))), ?_⟩⟩, (fun h0 => absurd ((dec_t (by omega) : decide (((i : Nat) : Int) < ((files.length : Nat) : Int)) = true).symm.trans h0) (by decide))⟩)
    · exact ⟨((i : Nat) : Int), by simp only [M_wireschemaref11_file_L1, h2, cond_true, cond_false, Sum.elim_inl, Sum.elim_inr], rfl, rfl⟩
    · exact ih (i + 1)  hs' (by omega)   Q (fun a ha => hx a (by simp only [M_wireschemaref11_file_L1, h2, cond_true, cond_false, Sum.elim_inl, Sum.elim_inr]; exact ha)) (fun τ hτ => hr τ (FQ_mono (fun y bs ⟨v, e1, e2⟩ => ⟨v, by simp only [M_wireschemaref11_file_L1, h2, cond_true, cond_false, Sum.elim_inl, Sum.elim_inr]; exact e1, e2⟩) hτ))
set_option maxRecDepth 100000 in
theorem K_wireschemaref11_file_b (C : Cx) (hC : CxOk C) (hO : C.outs = 0) (hF : C.fx = []) (files : List Fil) (name : ByteArray) (hf_files : Fit (.list (files.map eFil))) (Post : AV → List Blk → Prop) (h : Post (.d (.int .i64 (M_wireschemaref11_file files name))) []) : LW Try.prog 20 C (bodyOf Try.f66) (mkS (zipS 0 [.d (.list (files.map eFil)), .d (.str name)]) []) (FQ (lkT tl) [.tmp 4] 0 Post) := by
  refine LW_seq' (cAt [0] (bodyOf Try.f66)) (cAt [1] (bodyOf Try.f66)) (by kernel_rfl) ?_
  refine LW_mid2 hC tok tmo hO hF (.nil) ⟨[0, 1], [], [], []⟩ ⟨[], [], [], []⟩ [.tmp 4] (fun r Q Post => (Q .normal (mkS [(0, .d (.list (files.map eFil))), (1, .d (.str name))] []))) (fun r Q Post => by kernel_rfl) (fun _ h => h) (fun r hθ hH hκ hN => ?_)
  · refine LW_seq' (cAt [1, 0] (bodyOf Try.f66)) (cAt [1, 1] (bodyOf Try.f66)) (by kernel_rfl) ?_
    refine LW_seq' (cAt [1, 0, 0] (bodyOf Try.f66)) (cAt [1, 0, 1] (bodyOf Try.f66)) (by kernel_rfl) ?_
    refine LW_mid2 hC tok tmo hO hF (.nil) ⟨[0, 1, 5], [], [], []⟩ ⟨[], [], [], []⟩ [.tmp 4] (fun r Q Post => (Q .normal (mkS [(0, .d (.list (files.map eFil))), (1, .d (.str name)), (5, .d (.int .i64 0))] []))) (fun r Q Post => by kernel_rfl) (fun _ h => h) (fun r hθ hH hκ hN => ?_)
    · refine LW_block' 0 (cAt [1, 0, 1, 0] (bodyOf Try.f66)) (by kernel_rfl) ?_
      refine LW_loop' (cAt [1, 0, 1, 0, 0] (bodyOf Try.f66)) (by kernel_rfl) ?_
      refine K_wireschemaref11_file_L1 C hC hO hF files name hf_files   files 0  rfl (Nat.zero_le _)  _ ?_ ?_
      · intro a0 ha0  
        have hlen0 : files.length < 2147483648 := hf_files.len
        refine LW_fin2 hC tok tmo hO (.nil) [.tmp 4] (fun r Post => (Post (.d (.int .i64 (-1))) [])) (fun r Post => by kernel_rfl) (fun r hθ hH hκ hN => ?_)
        · have hh := h
          simp only [M_wireschemaref11_file, ha0, cond_true, cond_false, Sum.elim_inl, Sum.elim_inr] at hh
          exact hh
      · exact fun τ hτ => FQ_mono (fun y bs ⟨v, e1, e2⟩ => by obtain ⟨e2, e3⟩ := e2; subst e2; subst e3; have hh := h; simp only [M_wireschemaref11_file, cond_true, cond_false, Sum.elim_inl, Sum.elim_inr, e1] at hh; exact hh) hτ
theorem K_wireschemaref11_file (ℓ : Nat) (ℋ : Hp)  (files : List Fil) (name : ByteArray)  (hf_files : Fit (.list (files.map eFil))) (Post : AV → Hp → Prop) (h : Post (.d (.int .i64 (M_wireschemaref11_file files name))) ℋ) : ACall Try.prog 66 ℓ [.d (.list (files.map eFil)), .d (.str name)] ℋ Post :=
  acall_pure (n := 20) [.tmp 4] (bodyOf Try.f66) (fun _ => .top) [.d (.list (files.map eFil)), .d (.str name)] Try.func66 (by kernel_rfl) (by kernel_rfl) Try.ntmps66 (by kernel_rfl) (by simp) tok (by kernel_rfl) (fun B => K_wireschemaref11_file_b (cxP ℓ (fun _ => .top) ℋ B) (cxOk_pure ℓ B _ ℋ) rfl rfl files name hf_files (fun y _ => Post y ℋ) h)
def M_wireschemaref11_has_L1 (s : ByteArray) : List ByteArray → (Unit) ⊕ (Bool)
  | [] => .inl ()
  | e0 :: suf0 => cond (decide (e0 = s)) (.inr (true)) (M_wireschemaref11_has_L1 s suf0  )
def M_wireschemaref11_has (l : List ByteArray) (s : ByteArray) : Bool := Sum.elim (fun _ => false) (fun v => v) (M_wireschemaref11_has_L1 s l)
set_option maxRecDepth 100000 in
theorem K_wireschemaref11_has_L1 (C : Cx) (hC : CxOk C) (hO : C.outs = 0) (hF : C.fx = []) (l : List ByteArray) (s : ByteArray) (hf_l : Fit (.list (l.map eStr)))   : ∀ (suf0 : List ByteArray) (i : Nat) , l.drop i = suf0 → i ≤ l.length →  ∀ Q : Exit → St → Prop, (∀ rslt, M_wireschemaref11_has_L1 s suf0 = .inl rslt →  Q (.exit 0) (mkS [] [])) →
    (∀ τ, FQ (lkT tl) [.tmp 4] 0 (fun y bs => ∃ v, M_wireschemaref11_has_L1 s suf0 = .inr v ∧ y = .d (.bool v) ∧ bs = []) .ret τ → Q .ret τ) → LL Try.prog 18 C (cAt [1, 0, 1, 0, 0] (bodyOf Try.f45)) (mkS [(0, .d (.list (l.map eStr))), (1, .d (.str s)), (5, nI i)] []) Q := by
  have hlen : l.length < 2147483648 := hf_l.len
  intro suf0
  induction suf0 with
  | nil =>
    intro i  hs hi  Q hx hr
    have hge := drop_nil hs
    refine LL_round ?_
    refine LW_mid2 hC tok tmo hO hF (.nu l.length (.br (.ds (eStr (l.getD i ⟨#[]⟩)) (.br (.nil) (.nu (i + 1) (.nil)))) (.nil))) ⟨[0, 1, 5], [], [], []⟩ ⟨[], [], [], []⟩ [.tmp 4] (fun r Q Post => EqI ((l.map eStr).length : Nat) ((l.length : Nat) : Int) ∧ ((decide (((i : Nat) : Int) < ((l.length : Nat) : Int))) = true → IdxS (l.map eStr) ((i : Nat) : Int) (eStr (l.getD i ⟨#[]⟩)) ∧ ((decide ((l.getD i ⟨#[]⟩) = s)) = true → (Post (.d (.bool true)) [])) ∧ ((decide ((l.getD i ⟨#[]⟩) = s)) = false → WrapS .i64 (((i : Nat) : Int) + 1) ((i + 1 : Nat) : Int) ∧ (Q .normal (mkS [(0, .d (.list (l.map eStr))), (1, .d (.str s)), (5, nI (i + 1))] [])))) ∧ ((decide (((i : Nat) : Int) < ((l.length : Nat) : Int))) = false → (Q (.exit 0) (mkS [] [])))) (fun r Q Post => by kernel_rfl) hr (fun r hθ hH hκ hN => ⟨(eqI_len _ _), (fun h0 => absurd ((dec_f (by omega) : decide (((i : Nat) : Int) < ((l.length : Nat) : Int)) = false).symm.trans h0) (by decide)), fun _ => ?_⟩)
    · exact hx () (by simp only [M_wireschemaref11_has_L1, cond_true, cond_false, Sum.elim_inl, Sum.elim_inr]) 
  | cons e0 suf0 ih =>
    intro i  hs hi  Q hx hr
    obtain ⟨hx0, hlt0, hs'⟩ := drop_get hs
    refine LL_round ?_
    refine LW_mid2 hC tok tmo hO hF (.nu l.length (.br (.ds (eStr e0) (.br (.nil) (.nu (i + 1) (.nil)))) (.nil))) ⟨[0, 1, 5], [], [], []⟩ ⟨[], [], [], []⟩ [.tmp 4] (fun r Q Post => EqI ((l.map eStr).length : Nat) ((l.length : Nat) : Int) ∧ ((decide (((i : Nat) : Int) < ((l.length : Nat) : Int))) = true → IdxS (l.map eStr) ((i : Nat) : Int) (eStr e0) ∧ ((decide (e0 = s)) = true → (Post (.d (.bool true)) [])) ∧ ((decide (e0 = s)) = false → WrapS .i64 (((i : Nat) : Int) + 1) ((i + 1 : Nat) : Int) ∧ (Q .normal (mkS [(0, .d (.list (l.map eStr))), (1, .d (.str s)), (5, nI (i + 1))] [])))) ∧ ((decide (((i : Nat) : Int) < ((l.length : Nat) : Int))) = false → (Q (.exit 0) (mkS [] [])))) (fun r Q Post => by kernel_rfl) hr (fun r hθ hH hκ hN => ⟨(eqI_len _ _), fun _ => ⟨(idxS_at hx0 (fun _ => rfl)), fun h2 => ?_, fun h2 => ⟨(wrap64 (by first | omega | (simp only [ql1] <;> omega) | (simp only [ql1, qd1, qd2, qd3, qd4, qd5, qd6, qd7] at *; omega)) (by first | omega | (simp only [ql1] <;> omega) | (simp only [ql1, qd1, qd2, qd3, qd4, qd5, qd6, qd7] at *; omega)) (by first | omega | (simp only [ql1] <;> omega) | (simp only [ql1, qd1, qd2, qd3, qd4, qd5, qd6, qd7] at *; omega))), ?_⟩⟩, (fun h0 => absurd ((dec_t (by omega) : decide (((i : Nat) : Int) < ((l.length : Nat) : Int)) = true).symm.trans h0) (by decide))⟩)
    · exact ⟨true, by simp only [M_wireschemaref11_has_L1, h2, cond_true, cond_false, Sum.elim_inl, Sum.elim_inr], rfl, rfl⟩
    · exact ih (i + 1)  hs' (by omega)   Q (fun a ha => hx a (by simp only [M_wireschemaref11_has_L1, h2, cond_true, cond_false, Sum.elim_inl, Sum.elim_inr]; exact ha)) (fun τ hτ => hr τ (FQ_mono (fun y bs ⟨v, e1, e2⟩ => ⟨v, by simp only [M_wireschemaref11_has_L1, h2, cond_true, cond_false, Sum.elim_inl, Sum.elim_inr]; exact e1, e2⟩) hτ))
set_option maxRecDepth 100000 in
theorem K_wireschemaref11_has_b (C : Cx) (hC : CxOk C) (hO : C.outs = 0) (hF : C.fx = []) (l : List ByteArray) (s : ByteArray) (hf_l : Fit (.list (l.map eStr))) (Post : AV → List Blk → Prop) (h : Post (.d (.bool (M_wireschemaref11_has l s))) []) : LW Try.prog 18 C (bodyOf Try.f45) (mkS (zipS 0 [.d (.list (l.map eStr)), .d (.str s)]) []) (FQ (lkT tl) [.tmp 4] 0 Post) := by
  refine LW_seq' (cAt [0] (bodyOf Try.f45)) (cAt [1] (bodyOf Try.f45)) (by kernel_rfl) ?_
  refine LW_mid2 hC tok tmo hO hF (.nil) ⟨[0, 1], [], [], []⟩ ⟨[], [], [], []⟩ [.tmp 4] (fun r Q Post => (Q .normal (mkS [(0, .d (.list (l.map eStr))), (1, .d (.str s))] []))) (fun r Q Post => by kernel_rfl) (fun _ h => h) (fun r hθ hH hκ hN => ?_)
  · refine LW_seq' (cAt [1, 0] (bodyOf Try.f45)) (cAt [1, 1] (bodyOf Try.f45)) (by kernel_rfl) ?_
    refine LW_seq' (cAt [1, 0, 0] (bodyOf Try.f45)) (cAt [1, 0, 1] (bodyOf Try.f45)) (by kernel_rfl) ?_
    refine LW_mid2 hC tok tmo hO hF (.nil) ⟨[0, 1, 5], [], [], []⟩ ⟨[], [], [], []⟩ [.tmp 4] (fun r Q Post => (Q .normal (mkS [(0, .d (.list (l.map eStr))), (1, .d (.str s)), (5, .d (.int .i64 0))] []))) (fun r Q Post => by kernel_rfl) (fun _ h => h) (fun r hθ hH hκ hN => ?_)
    · refine LW_block' 0 (cAt [1, 0, 1, 0] (bodyOf Try.f45)) (by kernel_rfl) ?_
      refine LW_loop' (cAt [1, 0, 1, 0, 0] (bodyOf Try.f45)) (by kernel_rfl) ?_
      refine K_wireschemaref11_has_L1 C hC hO hF l s hf_l   l 0  rfl (Nat.zero_le _)  _ ?_ ?_
      · intro a0 ha0  
        have hlen0 : l.length < 2147483648 := hf_l.len
        refine LW_fin2 hC tok tmo hO (.nil) [.tmp 4] (fun r Post => (Post (.d (.bool false)) [])) (fun r Post => by kernel_rfl) (fun r hθ hH hκ hN => ?_)
        · have hh := h
          simp only [M_wireschemaref11_has, ha0, cond_true, cond_false, Sum.elim_inl, Sum.elim_inr] at hh
          exact hh
      · exact fun τ hτ => FQ_mono (fun y bs ⟨v, e1, e2⟩ => by obtain ⟨e2, e3⟩ := e2; subst e2; subst e3; have hh := h; simp only [M_wireschemaref11_has, cond_true, cond_false, Sum.elim_inl, Sum.elim_inr, e1] at hh; exact hh) hτ
theorem K_wireschemaref11_has (ℓ : Nat) (ℋ : Hp)  (l : List ByteArray) (s : ByteArray)  (hf_l : Fit (.list (l.map eStr))) (Post : AV → Hp → Prop) (h : Post (.d (.bool (M_wireschemaref11_has l s))) ℋ) : ACall Try.prog 45 ℓ [.d (.list (l.map eStr)), .d (.str s)] ℋ Post :=
  acall_pure (n := 18) [.tmp 4] (bodyOf Try.f45) (fun _ => .top) [.d (.list (l.map eStr)), .d (.str s)] Try.func45 (by kernel_rfl) (by kernel_rfl) Try.ntmps45 (by kernel_rfl) (by simp) tok (by kernel_rfl) (fun B => K_wireschemaref11_has_b (cxP ℓ (fun _ => .top) ℋ B) (cxOk_pure ℓ B _ ℋ) rfl rfl l s hf_l (fun y _ => Post y ℋ) h)
def M_wireschemalaw11_has_L1 (s : ByteArray) : List ByteArray → (Unit) ⊕ (Bool)
  | [] => .inl ()
  | e0 :: suf0 => cond (decide (e0 = s)) (.inr (true)) (M_wireschemalaw11_has_L1 s suf0  )
def M_wireschemalaw11_has (l : List ByteArray) (s : ByteArray) : Bool := Sum.elim (fun _ => false) (fun v => v) (M_wireschemalaw11_has_L1 s l)
set_option maxRecDepth 100000 in
theorem K_wireschemalaw11_has_L1 (C : Cx) (hC : CxOk C) (hO : C.outs = 0) (hF : C.fx = []) (l : List ByteArray) (s : ByteArray) (hf_l : Fit (.list (l.map eStr)))   : ∀ (suf0 : List ByteArray) (i : Nat) , l.drop i = suf0 → i ≤ l.length →  ∀ Q : Exit → St → Prop, (∀ rslt, M_wireschemalaw11_has_L1 s suf0 = .inl rslt →  Q (.exit 0) (mkS [] [])) →
    (∀ τ, FQ (lkT tl) [.tmp 4] 0 (fun y bs => ∃ v, M_wireschemalaw11_has_L1 s suf0 = .inr v ∧ y = .d (.bool v) ∧ bs = []) .ret τ → Q .ret τ) → LL Try.prog 18 C (cAt [1, 0, 1, 0, 0] (bodyOf Try.f14)) (mkS [(0, .d (.list (l.map eStr))), (1, .d (.str s)), (5, nI i)] []) Q := by
  have hlen : l.length < 2147483648 := hf_l.len
  intro suf0
  induction suf0 with
  | nil =>
    intro i  hs hi  Q hx hr
    have hge := drop_nil hs
    refine LL_round ?_
    refine LW_mid2 hC tok tmo hO hF (.nu l.length (.br (.ds (eStr (l.getD i ⟨#[]⟩)) (.br (.nil) (.nu (i + 1) (.nil)))) (.nil))) ⟨[0, 1, 5], [], [], []⟩ ⟨[], [], [], []⟩ [.tmp 4] (fun r Q Post => EqI ((l.map eStr).length : Nat) ((l.length : Nat) : Int) ∧ ((decide (((i : Nat) : Int) < ((l.length : Nat) : Int))) = true → IdxS (l.map eStr) ((i : Nat) : Int) (eStr (l.getD i ⟨#[]⟩)) ∧ ((decide ((l.getD i ⟨#[]⟩) = s)) = true → (Post (.d (.bool true)) [])) ∧ ((decide ((l.getD i ⟨#[]⟩) = s)) = false → WrapS .i64 (((i : Nat) : Int) + 1) ((i + 1 : Nat) : Int) ∧ (Q .normal (mkS [(0, .d (.list (l.map eStr))), (1, .d (.str s)), (5, nI (i + 1))] [])))) ∧ ((decide (((i : Nat) : Int) < ((l.length : Nat) : Int))) = false → (Q (.exit 0) (mkS [] [])))) (fun r Q Post => by kernel_rfl) hr (fun r hθ hH hκ hN => ⟨(eqI_len _ _), (fun h0 => absurd ((dec_f (by omega) : decide (((i : Nat) : Int) < ((l.length : Nat) : Int)) = false).symm.trans h0) (by decide)), fun _ => ?_⟩)
    · exact hx () (by simp only [M_wireschemalaw11_has_L1, cond_true, cond_false, Sum.elim_inl, Sum.elim_inr]) 
  | cons e0 suf0 ih =>
    intro i  hs hi  Q hx hr
    obtain ⟨hx0, hlt0, hs'⟩ := drop_get hs
    refine LL_round ?_
    refine LW_mid2 hC tok tmo hO hF (.nu l.length (.br (.ds (eStr e0) (.br (.nil) (.nu (i + 1) (.nil)))) (.nil))) ⟨[0, 1, 5], [], [], []⟩ ⟨[], [], [], []⟩ [.tmp 4] (fun r Q Post => EqI ((l.map eStr).length : Nat) ((l.length : Nat) : Int) ∧ ((decide (((i : Nat) : Int) < ((l.length : Nat) : Int))) = true → IdxS (l.map eStr) ((i : Nat) : Int) (eStr e0) ∧ ((decide (e0 = s)) = true → (Post (.d (.bool true)) [])) ∧ ((decide (e0 = s)) = false → WrapS .i64 (((i : Nat) : Int) + 1) ((i + 1 : Nat) : Int) ∧ (Q .normal (mkS [(0, .d (.list (l.map eStr))), (1, .d (.str s)), (5, nI (i + 1))] [])))) ∧ ((decide (((i : Nat) : Int) < ((l.length : Nat) : Int))) = false → (Q (.exit 0) (mkS [] [])))) (fun r Q Post => by kernel_rfl) hr (fun r hθ hH hκ hN => ⟨(eqI_len _ _), fun _ => ⟨(idxS_at hx0 (fun _ => rfl)), fun h2 => ?_, fun h2 => ⟨(wrap64 (by first | omega | (simp only [ql1] <;> omega) | (simp only [ql1, qd1, qd2, qd3, qd4, qd5, qd6, qd7] at *; omega)) (by first | omega | (simp only [ql1] <;> omega) | (simp only [ql1, qd1, qd2, qd3, qd4, qd5, qd6, qd7] at *; omega)) (by first | omega | (simp only [ql1] <;> omega) | (simp only [ql1, qd1, qd2, qd3, qd4, qd5, qd6, qd7] at *; omega))), ?_⟩⟩, (fun h0 => absurd ((dec_t (by omega) : decide (((i : Nat) : Int) < ((l.length : Nat) : Int)) = true).symm.trans h0) (by decide))⟩)
    · exact ⟨true, by simp only [M_wireschemalaw11_has_L1, h2, cond_true, cond_false, Sum.elim_inl, Sum.elim_inr], rfl, rfl⟩
    · exact ih (i + 1)  hs' (by omega)   Q (fun a ha => hx a (by simp only [M_wireschemalaw11_has_L1, h2, cond_true, cond_false, Sum.elim_inl, Sum.elim_inr]; exact ha)) (fun τ hτ => hr τ (FQ_mono (fun y bs ⟨v, e1, e2⟩ => ⟨v, by simp only [M_wireschemalaw11_has_L1, h2, cond_true, cond_false, Sum.elim_inl, Sum.elim_inr]; exact e1, e2⟩) hτ))
set_option maxRecDepth 100000 in
theorem K_wireschemalaw11_has_b (C : Cx) (hC : CxOk C) (hO : C.outs = 0) (hF : C.fx = []) (l : List ByteArray) (s : ByteArray) (hf_l : Fit (.list (l.map eStr))) (Post : AV → List Blk → Prop) (h : Post (.d (.bool (M_wireschemalaw11_has l s))) []) : LW Try.prog 18 C (bodyOf Try.f14) (mkS (zipS 0 [.d (.list (l.map eStr)), .d (.str s)]) []) (FQ (lkT tl) [.tmp 4] 0 Post) := by
  refine LW_seq' (cAt [0] (bodyOf Try.f14)) (cAt [1] (bodyOf Try.f14)) (by kernel_rfl) ?_
  refine LW_mid2 hC tok tmo hO hF (.nil) ⟨[0, 1], [], [], []⟩ ⟨[], [], [], []⟩ [.tmp 4] (fun r Q Post => (Q .normal (mkS [(0, .d (.list (l.map eStr))), (1, .d (.str s))] []))) (fun r Q Post => by kernel_rfl) (fun _ h => h) (fun r hθ hH hκ hN => ?_)
  · refine LW_seq' (cAt [1, 0] (bodyOf Try.f14)) (cAt [1, 1] (bodyOf Try.f14)) (by kernel_rfl) ?_
    refine LW_seq' (cAt [1, 0, 0] (bodyOf Try.f14)) (cAt [1, 0, 1] (bodyOf Try.f14)) (by kernel_rfl) ?_
    refine LW_mid2 hC tok tmo hO hF (.nil) ⟨[0, 1, 5], [], [], []⟩ ⟨[], [], [], []⟩ [.tmp 4] (fun r Q Post => (Q .normal (mkS [(0, .d (.list (l.map eStr))), (1, .d (.str s)), (5, .d (.int .i64 0))] []))) (fun r Q Post => by kernel_rfl) (fun _ h => h) (fun r hθ hH hκ hN => ?_)
    · refine LW_block' 0 (cAt [1, 0, 1, 0] (bodyOf Try.f14)) (by kernel_rfl) ?_
      refine LW_loop' (cAt [1, 0, 1, 0, 0] (bodyOf Try.f14)) (by kernel_rfl) ?_
      refine K_wireschemalaw11_has_L1 C hC hO hF l s hf_l   l 0  rfl (Nat.zero_le _)  _ ?_ ?_
      · intro a0 ha0  
        have hlen0 : l.length < 2147483648 := hf_l.len
        refine LW_fin2 hC tok tmo hO (.nil) [.tmp 4] (fun r Post => (Post (.d (.bool false)) [])) (fun r Post => by kernel_rfl) (fun r hθ hH hκ hN => ?_)
        · have hh := h
          simp only [M_wireschemalaw11_has, ha0, cond_true, cond_false, Sum.elim_inl, Sum.elim_inr] at hh
          exact hh
      · exact fun τ hτ => FQ_mono (fun y bs ⟨v, e1, e2⟩ => by obtain ⟨e2, e3⟩ := e2; subst e2; subst e3; have hh := h; simp only [M_wireschemalaw11_has, cond_true, cond_false, Sum.elim_inl, Sum.elim_inr, e1] at hh; exact hh) hτ
theorem K_wireschemalaw11_has (ℓ : Nat) (ℋ : Hp)  (l : List ByteArray) (s : ByteArray)  (hf_l : Fit (.list (l.map eStr))) (Post : AV → Hp → Prop) (h : Post (.d (.bool (M_wireschemalaw11_has l s))) ℋ) : ACall Try.prog 14 ℓ [.d (.list (l.map eStr)), .d (.str s)] ℋ Post :=
  acall_pure (n := 18) [.tmp 4] (bodyOf Try.f14) (fun _ => .top) [.d (.list (l.map eStr)), .d (.str s)] Try.func14 (by kernel_rfl) (by kernel_rfl) Try.ntmps14 (by kernel_rfl) (by simp) tok (by kernel_rfl) (fun B => K_wireschemalaw11_has_b (cxP ℓ (fun _ => .top) ℋ B) (cxOk_pure ℓ B _ ℋ) rfl rfl l s hf_l (fun y _ => Post y ℋ) h)
def M_wireschemalaw11_ints_L1 (b : List Int) : List Int → Nat → (Unit) ⊕ (Bool)
  | [], i => .inl ()
  | e0 :: suf0, i => cond ((!decide (e0 = (b.getD i 0)))) (.inr (false)) (M_wireschemalaw11_ints_L1 b suf0 (i + 1) )
def M_wireschemalaw11_ints (a : List Int) (b : List Int) : Bool := cond ((!decide (((a.length : Nat) : Int) = ((b.length : Nat) : Int)))) (false) (Sum.elim (fun _ => true) (fun v => v) (M_wireschemalaw11_ints_L1 b a 0))
set_option maxRecDepth 100000 in
theorem K_wireschemalaw11_ints_L1 (C : Cx) (hC : CxOk C) (hO : C.outs = 0) (hF : C.fx = []) (a : List Int) (b : List Int) (hf_a : Fit (.list (a.map eInt))) (h1 : (!decide (((a.length : Nat) : Int) = ((b.length : Nat) : Int))) = false)  : ∀ (suf0 : List Int) (i : Nat) , a.drop i = suf0 → i ≤ a.length →  ∀ Q : Exit → St → Prop, (∀ rslt, M_wireschemalaw11_ints_L1 b suf0 i = .inl rslt →  Q (.exit 0) (mkS [] [])) →
    (∀ τ, FQ (lkT tl) [.tmp 4] 0 (fun y bs => ∃ v, M_wireschemalaw11_ints_L1 b suf0 i = .inr v ∧ y = .d (.bool v) ∧ bs = []) .ret τ → Q .ret τ) → LL Try.prog 26 C (cAt [1, 1, 0, 1, 0, 0] (bodyOf Try.f17)) (mkS [(0, .d (.list (a.map eInt))), (1, .d (.list (b.map eInt))), (5, nI i)] []) Q := by
  have hlen : a.length < 2147483648 := hf_a.len
  intro suf0
  induction suf0 with
  | nil =>
    intro i  hs hi  Q hx hr
    have hge := drop_nil hs
    refine LL_round ?_
    refine LW_mid2 hC tok tmo hO hF (.nu a.length (.br (.ds (eInt (a.getD i 0)) (.ds (eInt (b.getD i 0)) (.br (.nil) (.nu (i + 1) (.nil))))) (.nil))) ⟨[0, 1, 5], [], [], []⟩ ⟨[], [], [], []⟩ [.tmp 4] (fun r Q Post => EqI ((a.map eInt).length : Nat) ((a.length : Nat) : Int) ∧ ((decide (((i : Nat) : Int) < ((a.length : Nat) : Int))) = true → IdxS (a.map eInt) ((i : Nat) : Int) (eInt (a.getD i 0)) ∧ IdxS (b.map eInt) ((i : Nat) : Int) (eInt (b.getD i 0)) ∧ ((!decide ((a.getD i 0) = (b.getD i 0))) = true → (Post (.d (.bool false)) [])) ∧ ((!decide ((a.getD i 0) = (b.getD i 0))) = false → WrapS .i64 (((i : Nat) : Int) + 1) ((i + 1 : Nat) : Int) ∧ (Q .normal (mkS [(0, .d (.list (a.map eInt))), (1, .d (.list (b.map eInt))), (5, nI (i + 1))] [])))) ∧ ((decide (((i : Nat) : Int) < ((a.length : Nat) : Int))) = false → (Q (.exit 0) (mkS [] [])))) (fun r Q Post => by kernel_rfl) hr (fun r hθ hH hκ hN => ⟨(eqI_len _ _), (fun h0 => absurd ((dec_f (by omega) : decide (((i : Nat) : Int) < ((a.length : Nat) : Int)) = false).symm.trans h0) (by decide)), fun _ => ?_⟩)
    · exact hx () (by simp only [M_wireschemalaw11_ints_L1, cond_true, cond_false, Sum.elim_inl, Sum.elim_inr]) 
  | cons e0 suf0 ih =>
    intro i  hs hi  Q hx hr
    obtain ⟨hx0, hlt0, hs'⟩ := drop_get hs
    refine LL_round ?_
    refine LW_mid2 hC tok tmo hO hF (.nu a.length (.br (.ds (eInt e0) (.ds (eInt (b.getD i 0)) (.br (.nil) (.nu (i + 1) (.nil))))) (.nil))) ⟨[0, 1, 5], [], [], []⟩ ⟨[], [], [], []⟩ [.tmp 4] (fun r Q Post => EqI ((a.map eInt).length : Nat) ((a.length : Nat) : Int) ∧ ((decide (((i : Nat) : Int) < ((a.length : Nat) : Int))) = true → IdxS (a.map eInt) ((i : Nat) : Int) (eInt e0) ∧ IdxS (b.map eInt) ((i : Nat) : Int) (eInt (b.getD i 0)) ∧ ((!decide (e0 = (b.getD i 0))) = true → (Post (.d (.bool false)) [])) ∧ ((!decide (e0 = (b.getD i 0))) = false → WrapS .i64 (((i : Nat) : Int) + 1) ((i + 1 : Nat) : Int) ∧ (Q .normal (mkS [(0, .d (.list (a.map eInt))), (1, .d (.list (b.map eInt))), (5, nI (i + 1))] [])))) ∧ ((decide (((i : Nat) : Int) < ((a.length : Nat) : Int))) = false → (Q (.exit 0) (mkS [] [])))) (fun r Q Post => by kernel_rfl) hr (fun r hθ hH hκ hN => ⟨(eqI_len _ _), fun _ => ⟨(idxS_at hx0 (fun _ => rfl)), (idxS_lt (by first | omega | (simp only [ql1] <;> omega) | (simp only [ql1, qd1, qd2, qd3, qd4, qd5, qd6, qd7] at *; omega)) (fun _ => rfl)), fun h3 => ?_, fun h3 => ⟨(wrap64 (by first | omega | (simp only [ql1] <;> omega) | (simp only [ql1, qd1, qd2, qd3, qd4, qd5, qd6, qd7] at *; omega)) (by first | omega | (simp only [ql1] <;> omega) | (simp only [ql1, qd1, qd2, qd3, qd4, qd5, qd6, qd7] at *; omega)) (by first | omega | (simp only [ql1] <;> omega) | (simp only [ql1, qd1, qd2, qd3, qd4, qd5, qd6, qd7] at *; omega))), ?_⟩⟩, (fun h0 => absurd ((dec_t (by omega) : decide (((i : Nat) : Int) < ((a.length : Nat) : Int)) = true).symm.trans h0) (by decide))⟩)
    · exact ⟨false, by simp only [M_wireschemalaw11_ints_L1, h3, cond_true, cond_false, Sum.elim_inl, Sum.elim_inr], rfl, rfl⟩
    · exact ih (i + 1)  hs' (by omega)   Q (fun a ha => hx a (by simp only [M_wireschemalaw11_ints_L1, h3, cond_true, cond_false, Sum.elim_inl, Sum.elim_inr]; exact ha)) (fun τ hτ => hr τ (FQ_mono (fun y bs ⟨v, e1, e2⟩ => ⟨v, by simp only [M_wireschemalaw11_ints_L1, h3, cond_true, cond_false, Sum.elim_inl, Sum.elim_inr]; exact e1, e2⟩) hτ))
set_option maxRecDepth 100000 in
theorem K_wireschemalaw11_ints_b (C : Cx) (hC : CxOk C) (hO : C.outs = 0) (hF : C.fx = []) (a : List Int) (b : List Int) (hf_a : Fit (.list (a.map eInt))) (Post : AV → List Blk → Prop) (h : Post (.d (.bool (M_wireschemalaw11_ints a b))) []) : LW Try.prog 26 C (bodyOf Try.f17) (mkS (zipS 0 [.d (.list (a.map eInt)), .d (.list (b.map eInt))]) []) (FQ (lkT tl) [.tmp 4] 0 Post) := by
  refine LW_seq' (cAt [0] (bodyOf Try.f17)) (cAt [1] (bodyOf Try.f17)) (by kernel_rfl) ?_
  refine LW_mid2 hC tok tmo hO hF (.nil) ⟨[0, 1], [], [], []⟩ ⟨[], [], [], []⟩ [.tmp 4] (fun r Q Post => (Q .normal (mkS [(0, .d (.list (a.map eInt))), (1, .d (.list (b.map eInt)))] []))) (fun r Q Post => by kernel_rfl) (fun _ h => h) (fun r hθ hH hκ hN => ?_)
  · refine LW_seq' (cAt [1, 0] (bodyOf Try.f17)) (cAt [1, 1] (bodyOf Try.f17)) (by kernel_rfl) ?_
    refine LW_mid2 hC tok tmo hO hF (.nu a.length (.nu b.length (.br (.nil) (.nil)))) ⟨[0, 1], [], [], []⟩ ⟨[], [], [], []⟩ [.tmp 4] (fun r Q Post => EqI ((a.map eInt).length : Nat) ((a.length : Nat) : Int) ∧ EqI ((b.map eInt).length : Nat) ((b.length : Nat) : Int) ∧ ((!decide (((a.length : Nat) : Int) = ((b.length : Nat) : Int))) = true → (Post (.d (.bool false)) [])) ∧ ((!decide (((a.length : Nat) : Int) = ((b.length : Nat) : Int))) = false → (Q .normal (mkS [(0, .d (.list (a.map eInt))), (1, .d (.list (b.map eInt)))] [])))) (fun r Q Post => by kernel_rfl) (fun _ h => h) (fun r hθ hH hκ hN => ⟨(eqI_len _ _), (eqI_len _ _), fun h1 => ?_, fun h1 => ?_⟩)
    · have hh := h
      simp only [M_wireschemalaw11_ints, h1, cond_true, cond_false, Sum.elim_inl, Sum.elim_inr] at hh
      exact hh
    · refine LW_seq' (cAt [1, 1, 0] (bodyOf Try.f17)) (cAt [1, 1, 1] (bodyOf Try.f17)) (by kernel_rfl) ?_
      refine LW_seq' (cAt [1, 1, 0, 0] (bodyOf Try.f17)) (cAt [1, 1, 0, 1] (bodyOf Try.f17)) (by kernel_rfl) ?_
      refine LW_mid2 hC tok tmo hO hF (.nil) ⟨[0, 1, 5], [], [], []⟩ ⟨[], [], [], []⟩ [.tmp 4] (fun r Q Post => (Q .normal (mkS [(0, .d (.list (a.map eInt))), (1, .d (.list (b.map eInt))), (5, .d (.int .i64 0))] []))) (fun r Q Post => by kernel_rfl) (fun _ h => h) (fun r hθ hH hκ hN => ?_)
      · refine LW_block' 0 (cAt [1, 1, 0, 1, 0] (bodyOf Try.f17)) (by kernel_rfl) ?_
        refine LW_loop' (cAt [1, 1, 0, 1, 0, 0] (bodyOf Try.f17)) (by kernel_rfl) ?_
        refine K_wireschemalaw11_ints_L1 C hC hO hF a b hf_a h1  a 0  rfl (Nat.zero_le _)  _ ?_ ?_
        · intro a0 ha0  
          have hlen0 : a.length < 2147483648 := hf_a.len
          refine LW_fin2 hC tok tmo hO (.nil) [.tmp 4] (fun r Post => (Post (.d (.bool true)) [])) (fun r Post => by kernel_rfl) (fun r hθ hH hκ hN => ?_)
          · have hh := h
            simp only [M_wireschemalaw11_ints, h1, ha0, cond_true, cond_false, Sum.elim_inl, Sum.elim_inr] at hh
            exact hh
        · exact fun τ hτ => FQ_mono (fun y bs ⟨v, e1, e2⟩ => by obtain ⟨e2, e3⟩ := e2; subst e2; subst e3; have hh := h; simp only [M_wireschemalaw11_ints, h1, cond_true, cond_false, Sum.elim_inl, Sum.elim_inr, e1] at hh; exact hh) hτ
theorem K_wireschemalaw11_ints (ℓ : Nat) (ℋ : Hp)  (a : List Int) (b : List Int)  (hf_a : Fit (.list (a.map eInt))) (Post : AV → Hp → Prop) (h : Post (.d (.bool (M_wireschemalaw11_ints a b))) ℋ) : ACall Try.prog 17 ℓ [.d (.list (a.map eInt)), .d (.list (b.map eInt))] ℋ Post :=
  acall_pure (n := 26) [.tmp 4] (bodyOf Try.f17) (fun _ => .top) [.d (.list (a.map eInt)), .d (.list (b.map eInt))] Try.func17 (by kernel_rfl) (by kernel_rfl) Try.ntmps17 (by kernel_rfl) (by simp) tok (by kernel_rfl) (fun B => K_wireschemalaw11_ints_b (cxP ℓ (fun _ => .top) ℋ B) (cxOk_pure ℓ B _ ℋ) rfl rfl a b hf_a (fun y _ => Post y ℋ) h)
def M_IndexFunc_Fil_L1 (p : Fil → Bool) : List Fil → Nat → (Unit) ⊕ (Int)
  | [], i => .inl ()
  | e0 :: suf0, i => cond ((p e0)) (.inr (((i : Nat) : Int))) (M_IndexFunc_Fil_L1 p suf0 (i + 1) )
def M_IndexFunc_Fil (l : List Fil) (p : Fil → Bool) : Int := Sum.elim (fun _ => (-1)) (fun v => v) (M_IndexFunc_Fil_L1 p l 0)
set_option maxRecDepth 100000 in
theorem K_IndexFunc_Fil_L1 (C : Cx) (hC : CxOk C) (hO : C.outs = 0) (hF : C.fx = []) (l : List Fil) (p : Fil → Bool) (hp : ∀ x ∈ l, CloP Try.prog C.l C.no C.H0 (C.θ 1) [.agg ((eFil x).map .d)] (.d (.bool (p x)))) (hf_l : Fit (.list (l.map eFil)))   : ∀ (suf0 : List Fil) (i : Nat) , l.drop i = suf0 → i ≤ l.length →  ∀ Q : Exit → St → Prop, (∀ rslt, M_IndexFunc_Fil_L1 p suf0 i = .inl rslt →  Q (.exit 0) (mkS [] [])) →
    (∀ τ, FQ (lkT tl) [.tmp 4] 0 (fun y bs => ∃ v, M_IndexFunc_Fil_L1 p suf0 i = .inr v ∧ y = .d (.int .i64 v) ∧ bs = []) .ret τ → Q .ret τ) → LL Try.prog 19 C (cAt [1, 0, 1, 0, 0] (bodyOf Try.f85)) (mkS [(0, .d (.list (l.map eFil))), (1, .fn (.yield 1) [] []), (7, nI l.length), (8, nI i)] []) Q := by
  have hlen : l.length < 2147483648 := hf_l.len
  intro suf0
  induction suf0 with
  | nil =>
    intro i  hs hi  Q hx hr
    have hge := drop_nil hs
    refine LL_round ?_
    refine LW_mid2 hC tok tmo hO hF (.br (.ds (eFil (l.getD i zFil)) (.call (.d (.bool (p (l.getD i zFil)))) [] (.br (.nil) (.nu (i + 1) (.nil))))) (.nil)) ⟨[0, 1, 7, 8], [], [], []⟩ ⟨[], [], [], []⟩ [.tmp 4] (fun r Q Post => ((decide (((i : Nat) : Int) < ((l.length : Nat) : Int))) = true → IdxS (l.map eFil) ((i : Nat) : Int) (eFil (l.getD i zFil)) ∧ CallF Try.prog C.l r 1 [.agg ((eFil (l.getD i zFil)).map .d)] [] (.d (.bool (p (l.getD i zFil)))) ∧ ((p (l.getD i zFil)) = true → (Post (nI i) [])) ∧ ((p (l.getD i zFil)) = false → WrapS .i64 (((i : Nat) : Int) + 1) ((i + 1 : Nat) : Int) ∧ (Q .normal (mkS [(0, .d (.list (l.map eFil))), (1, .fn (.yield 1) [] []), (7, nI l.length), (8, nI (i + 1))] [])))) ∧ ((decide (((i : Nat) : Int) < ((l.length : Nat) : Int))) = false → (Q (.exit 0) (mkS [] [])))) (fun r Q Post => by kernel_rfl) hr (fun r hθ hH hκ hN => ⟨(fun h0 => absurd ((dec_f (by omega) : decide (((i : Nat) : Int) < ((l.length : Nat) : Int)) = false).symm.trans h0) (by decide)), fun _ => ?_⟩)
    · exact hx () (by simp only [M_IndexFunc_Fil_L1, cond_true, cond_false, Sum.elim_inl, Sum.elim_inr]) 
  | cons e0 suf0 ih =>
    intro i  hs hi  Q hx hr
    obtain ⟨hx0, hlt0, hs'⟩ := drop_get hs
    refine LL_round ?_
    refine LW_mid2 hC tok tmo hO hF (.br (.ds (eFil e0) (.call (.d (.bool (p e0))) [] (.br (.nil) (.nu (i + 1) (.nil))))) (.nil)) ⟨[0, 1, 7, 8], [], [], []⟩ ⟨[], [], [], []⟩ [.tmp 4] (fun r Q Post => ((decide (((i : Nat) : Int) < ((l.length : Nat) : Int))) = true → IdxS (l.map eFil) ((i : Nat) : Int) (eFil e0) ∧ CallF Try.prog C.l r 1 [.agg ((eFil e0).map .d)] [] (.d (.bool (p e0))) ∧ ((p e0) = true → (Post (nI i) [])) ∧ ((p e0) = false → WrapS .i64 (((i : Nat) : Int) + 1) ((i + 1 : Nat) : Int) ∧ (Q .normal (mkS [(0, .d (.list (l.map eFil))), (1, .fn (.yield 1) [] []), (7, nI l.length), (8, nI (i + 1))] [])))) ∧ ((decide (((i : Nat) : Int) < ((l.length : Nat) : Int))) = false → (Q (.exit 0) (mkS [] [])))) (fun r Q Post => by kernel_rfl) hr (fun r hθ hH hκ hN => ⟨fun _ => ⟨(idxS_at hx0 (fun _ => rfl)), (callF_of (congrFun hθ 1) (by rw [hN, hH]; exact hp e0 (List.mem_of_getElem? hx0)) (by kernel_rfl) (by kernel_rfl)), fun h2 => ?_, fun h2 => ⟨(wrap64 (by first | omega | (simp only [ql1] <;> omega) | (simp only [ql1, qd1, qd2, qd3, qd4, qd5, qd6, qd7] at *; omega)) (by first | omega | (simp only [ql1] <;> omega) | (simp only [ql1, qd1, qd2, qd3, qd4, qd5, qd6, qd7] at *; omega)) (by first | omega | (simp only [ql1] <;> omega) | (simp only [ql1, qd1, qd2, qd3, qd4, qd5, qd6, qd7] at *; omega))), ?_⟩⟩, (fun h0 => absurd ((dec_t (by omega) : decide (((i : Nat) : Int) < ((l.length : Nat) : Int)) = true).symm.trans h0) (by decide))⟩)
    · exact ⟨((i : Nat) : Int), by simp only [M_IndexFunc_Fil_L1, h2, cond_true, cond_false, Sum.elim_inl, Sum.elim_inr], rfl, rfl⟩
    · exact ih (i + 1)  hs' (by omega)   Q (fun a ha => hx a (by simp only [M_IndexFunc_Fil_L1, h2, cond_true, cond_false, Sum.elim_inl, Sum.elim_inr]; exact ha)) (fun τ hτ => hr τ (FQ_mono (fun y bs ⟨v, e1, e2⟩ => ⟨v, by simp only [M_IndexFunc_Fil_L1, h2, cond_true, cond_false, Sum.elim_inl, Sum.elim_inr]; exact e1, e2⟩) hτ))
set_option maxRecDepth 100000 in
theorem K_IndexFunc_Fil_b (C : Cx) (hC : CxOk C) (hO : C.outs = 0) (hF : C.fx = []) (l : List Fil) (p : Fil → Bool) (hp : ∀ x ∈ l, CloP Try.prog C.l C.no C.H0 (C.θ 1) [.agg ((eFil x).map .d)] (.d (.bool (p x)))) (hf_l : Fit (.list (l.map eFil))) (Post : AV → List Blk → Prop) (h : Post (.d (.int .i64 (M_IndexFunc_Fil l p))) []) : LW Try.prog 19 C (bodyOf Try.f85) (mkS (zipS 0 [.d (.list (l.map eFil)), .fn (.yield 1) [] []]) []) (FQ (lkT tl) [.tmp 4] 0 Post) := by
  refine LW_seq' (cAt [0] (bodyOf Try.f85)) (cAt [1] (bodyOf Try.f85)) (by kernel_rfl) ?_
  refine LW_mid2 hC tok tmo hO hF (.nil) ⟨[0, 1], [], [], []⟩ ⟨[], [], [], []⟩ [.tmp 4] (fun r Q Post => (Q .normal (mkS [(0, .d (.list (l.map eFil))), (1, .fn (.yield 1) [] [])] []))) (fun r Q Post => by kernel_rfl) (fun _ h => h) (fun r hθ hH hκ hN => ?_)
  · refine LW_seq' (cAt [1, 0] (bodyOf Try.f85)) (cAt [1, 1] (bodyOf Try.f85)) (by kernel_rfl) ?_
    refine LW_seq' (cAt [1, 0, 0] (bodyOf Try.f85)) (cAt [1, 0, 1] (bodyOf Try.f85)) (by kernel_rfl) ?_
    refine LW_mid2 hC tok tmo hO hF (.nu l.length (.nil)) ⟨[0, 1, 7, 8], [], [], []⟩ ⟨[], [], [], []⟩ [.tmp 4] (fun r Q Post => EqI ((l.map eFil).length : Nat) ((l.length : Nat) : Int) ∧ (Q .normal (mkS [(0, .d (.list (l.map eFil))), (1, .fn (.yield 1) [] []), (7, nI l.length), (8, .d (.int .i64 0))] []))) (fun r Q Post => by kernel_rfl) (fun _ h => h) (fun r hθ hH hκ hN => ⟨(eqI_len _ _), ?_⟩)
    · refine LW_block' 0 (cAt [1, 0, 1, 0] (bodyOf Try.f85)) (by kernel_rfl) ?_
      refine LW_loop' (cAt [1, 0, 1, 0, 0] (bodyOf Try.f85)) (by kernel_rfl) ?_
      refine K_IndexFunc_Fil_L1 C hC hO hF l p hp hf_l   l 0  rfl (Nat.zero_le _)  _ ?_ ?_
      · intro a0 ha0  
        have hlen0 : l.length < 2147483648 := hf_l.len
        refine LW_fin2 hC tok tmo hO (.nil) [.tmp 4] (fun r Post => (Post (.d (.int .i64 (-1))) [])) (fun r Post => by kernel_rfl) (fun r hθ hH hκ hN => ?_)
        · have hh := h
          simp only [M_IndexFunc_Fil, ha0, cond_true, cond_false, Sum.elim_inl, Sum.elim_inr] at hh
          exact hh
      · exact fun τ hτ => FQ_mono (fun y bs ⟨v, e1, e2⟩ => by obtain ⟨e2, e3⟩ := e2; subst e2; subst e3; have hh := h; simp only [M_IndexFunc_Fil, cond_true, cond_false, Sum.elim_inl, Sum.elim_inr, e1] at hh; exact hh) hτ
theorem K_IndexFunc_Fil (ℓ : Nat) (ℋ : Hp) (c1 : AV) (l : List Fil) (p : Fil → Bool) (hp : ∀ x ∈ l, CloP Try.prog ℓ (fun _ => False) ℋ c1 [.agg ((eFil x).map .d)] (.d (.bool (p x)))) (hf_l : Fit (.list (l.map eFil))) (Post : AV → Hp → Prop) (h : Post (.d (.int .i64 (M_IndexFunc_Fil l p))) ℋ) : ACall Try.prog 85 ℓ [.d (.list (l.map eFil)), c1] ℋ Post :=
  acall_pure (n := 19) [.tmp 4] (bodyOf Try.f85) (fun j => if j = 1 then c1 else .top) [.d (.list (l.map eFil)), .fn (.yield 1) [] []] Try.func85 (by kernel_rfl) (by kernel_rfl) Try.ntmps85 (by kernel_rfl) (by simp) tok (by kernel_rfl) (fun B => K_IndexFunc_Fil_b (cxP ℓ (fun j => if j = 1 then c1 else .top) ℋ B) (cxOk_pure ℓ B _ ℋ) rfl rfl l p hp hf_l (fun y _ => Post y ℋ) h)
theorem indexFunc_Fil (l : List Fil) (p : Fil → Bool) : M_IndexFunc_Fil l p = (match l.findIdx? p with | some k => (k : Int) | none => -1) := by
  rw [M_IndexFunc_Fil, indexFunc_L M_IndexFunc_Fil_L1 (fun _ _ => rfl) (fun _ _ _ _ => rfl)]
  cases l.findIdx? p <;> simp
theorem indexFunc_Fil_lt (l : List Fil) (p : Fil → Bool) : M_IndexFunc_Fil l p < l.length ∧ -1 ≤ M_IndexFunc_Fil l p := by
  rw [indexFunc_Fil]
  split
  · rename_i k h; have := (List.findIdx?_eq_some_iff_getElem.1 h).1; omega
  · omega
def M_link_fileAt_1 (x : Fil) (name : ByteArray) : Bool := decide (x.name = name)
set_option maxRecDepth 100000 in
theorem K_link_fileAt_1_b (C : Cx) (hC : CxOk C) (hO : C.outs = 1) (hF : C.fx = []) (x : Fil) (name : ByteArray)  (Post : AV → List Blk → Prop) (h : Post (.d (.bool (M_link_fileAt_1 x name))) [⟨0, true, 9, 1, [.d (.str name)]⟩]) : LW Try.prog 8 C (bodyOf Try.f86) (mkS (zipS 0 [.agg ((eFil x).map .d), .ptr (0, 0) 0 0]) [((0, 0), ⟨0, true, 9, 1, [.d (.str name)]⟩)]) (FQ (lkT tl) [.tmp 3] 1 Post) := by
  refine LW_fin2 hC tok tmo hO (.go (.go (.nil))) [.tmp 3] (fun r Post => (Post (.d (.bool (decide (x.name = name)))) [⟨0, true, 9, 1, [.d (.str name)]⟩])) (fun r Post => by kernel_rfl) (fun r hθ hH hκ hN => ?_)
  · have hh := h
    simp only [M_link_fileAt_1, cond_true, cond_false, Sum.elim_inl, Sum.elim_inr] at hh
    exact hh
theorem K_link_fileAt_1 (ℓ : Nat) (ℋ : Hp) (k : Key) (g : Nat) (hk : k.1 ≤ ℓ) (x : Fil) (name : ByteArray) (hc : ℋ k = ⟨g, true, 9, 1, [.d (.str name)]⟩)  (Post : AV → Hp → Prop) (h : Post (.d (.bool (M_link_fileAt_1 x name))) ℋ) : ACall Try.prog 86 ℓ [.agg ((eFil x).map .d), .ptr k g 0] ℋ Post :=
  acall_cap1 (n := 8) [.tmp 3] (bodyOf Try.f86) k g 9 1 [.d (.str name)] [.agg ((eFil x).map .d), .ptr (0, 0) 0 0] Try.func86 (by kernel_rfl) (by kernel_rfl) Try.ntmps86 (by kernel_rfl) (by simp) tok hk hc (fun r => by kernel_rfl) (fun κ γ h1 h2 => by subst h1; subst h2; kernel_rfl) (fun C hC hO hF hl hH => K_link_fileAt_1_b C hC hO hF x name  (fun y _ => Post y ℋ ∧ ∀ r, ren r y = y) ⟨h, fun r => by kernel_rfl⟩)
def M_link_fileAt (files : List Fil) (name : ByteArray) : Int := (M_IndexFunc_Fil files (fun z => M_link_fileAt_1 z name))
set_option maxRecDepth 100000 in
theorem K_link_fileAt_b (C : Cx) (hC : CxOk C) (hO : C.outs = 0) (hF : C.fx = []) (files : List Fil) (name : ByteArray) (hf_files : Fit (.list (files.map eFil))) (Post : AV → List Blk → Prop) (h : Post (.d (.int .i64 (M_link_fileAt files name))) []) : LW Try.prog 8 C (bodyOf Try.f51) (mkS (zipS 0 [.d (.list (files.map eFil)), .d (.str name)]) []) (FQ (lkT tl) [.tmp 4] 0 Post) := by
  refine LW_fin2 hC tok tmo hO (.call (.d (.int .i64 (M_IndexFunc_Fil files (fun z => M_link_fileAt_1 z name)))) [(1, 3)] (.nil)) [.tmp 4] (fun r Post => CallS Try.prog C.l r 85 ([] ++ [.d (.list (files.map eFil)), .fn (.func 86) [] [.ptr (1, 3) 1 0]] ++ []) [((1, 3), ⟨1, true, 9, 1, [.d (.str name)]⟩)] (.d (.int .i64 (M_IndexFunc_Fil files (fun z => M_link_fileAt_1 z name)))) ∧ (Post (.d (.int .i64 (M_IndexFunc_Fil files (fun z => M_link_fileAt_1 z name)))) [])) (fun r Post => by kernel_rfl) (fun r hθ hH hκ hN => ⟨(callS_H (xs' := [.d (.list (files.map eFil)), .fn (.func 86) [] [.ptr (r.κ (1, 3)) (r.γ (1, 3) + 1) 0]]) (by kernel_rfl) (by kernel_rfl) (fun H' hb ho => K_IndexFunc_Fil _ H' (.fn (.func 86) [] [.ptr (r.κ (1, 3)) (r.γ (1, 3) + 1) 0]) files (fun z => M_link_fileAt_1 z name) (fun z hz => clo_cap (b := ⟨r.γ (1, 3) + 1, true, 9, 1, [.d (.str name)]⟩) (by rw [hκ, hC.own]; exact Nat.le_refl _) id ((hb ((1, 3), ⟨1, true, 9, 1, [.d (.str name)]⟩) (by simp) rfl).trans (by kernel_rfl)) (fun l' H'' hk hc => K_link_fileAt_1 l' H'' _ _ hk z name hc  _ ⟨rfl, rfl⟩)) hf_files _ ⟨rfl, rfl⟩)), ?_⟩)
  · have hh := h
    simp only [M_link_fileAt, cond_true, cond_false, Sum.elim_inl, Sum.elim_inr] at hh
    exact hh
theorem K_link_fileAt (ℓ : Nat) (ℋ : Hp)  (files : List Fil) (name : ByteArray)  (hf_files : Fit (.list (files.map eFil))) (Post : AV → Hp → Prop) (h : Post (.d (.int .i64 (M_link_fileAt files name))) ℋ) : ACall Try.prog 51 ℓ [.d (.list (files.map eFil)), .d (.str name)] ℋ Post :=
  acall_pure (n := 8) [.tmp 4] (bodyOf Try.f51) (fun _ => .top) [.d (.list (files.map eFil)), .d (.str name)] Try.func51 (by kernel_rfl) (by kernel_rfl) Try.ntmps51 (by kernel_rfl) (by simp) tok (by kernel_rfl) (fun B => K_link_fileAt_b (cxP ℓ (fun _ => .top) ℋ B) (cxOk_pure ℓ B _ ℋ) rfl rfl files name hf_files (fun y _ => Post y ℋ) h)
def M_Index_int_L1 (x : Int) : List Int → Nat → (Unit) ⊕ (Int)
  | [], i => .inl ()
  | e0 :: suf0, i => cond (decide (x = e0)) (.inr (((i : Nat) : Int))) (M_Index_int_L1 x suf0 (i + 1) )
def M_Index_int (l : List Int) (x : Int) : Int := Sum.elim (fun _ => (-1)) (fun v => v) (M_Index_int_L1 x l 0)
set_option maxRecDepth 100000 in
theorem K_Index_intR_L1 (C : Cx) (hC : CxOk C) (hO : C.outs = 1) (hF : C.fx = [0]) (hW0 : C.no (C.κ (0, 0))) (l : List Int) (x : Int) (hf_l : Fit (.list (l.map eInt)))   : ∀ (suf0 : List Int) (i : Nat) , l.drop i = suf0 → i ≤ l.length →  ∀ Q : Exit → St → Prop, (∀ rslt, M_Index_int_L1 x suf0 i = .inl rslt →  Q (.exit 0) (mkS [] [((0, 0), ⟨0, true, 3, 1, vecC eInt l⟩)])) →
    (∀ τ, FQ (lkT tl) [.tmp 4] 1 (fun y bs => ∃ v, M_Index_int_L1 x suf0 i = .inr v ∧ y = .d (.int .i64 v) ∧ bs = [⟨0, true, 3, 1, vecC eInt l⟩]) .ret τ → Q .ret τ) → LL Try.prog 19 C (cAt [1, 0, 1, 0, 0] (bodyOf Try.f116)) (mkS [(0, .ref (0, 0) 0 0 l.length), (1, .d (.int .i64 x)), (7, nI l.length), (8, nI i)] [((0, 0), ⟨0, true, 3, 1, vecC eInt l⟩)]) Q := by
  have hlen : l.length < 2147483648 := hf_l.len
  intro suf0
  induction suf0 with
  | nil =>
    intro i  hs hi  Q hx hr
    have hge := drop_nil hs
    refine LL_round ?_
    refine LW_mid2 hC tok tmo hO hF (.br (.nat (i * 1) (.cs ([.d (.int .i64 (l.getD i 0))]) (.br (.nil) (.nu (i + 1) (.nil))))) (.nil)) ⟨[0, 1, 7, 8], [((0, 0), true)], [], []⟩ ⟨[], [((0, 0), true)], [], []⟩ [.tmp 4] (fun r Q Post => ((decide (((i : Nat) : Int) < ((l.length : Nat) : Int))) = true → IdxR ((i : Nat) : Int) l.length 0 1 (i * 1) ∧ CellsAt (vecC eInt l) (i * 1) ([.d (.int .i64 (l.getD i 0))]) ∧ ((decide (x = (l.getD i 0))) = true → (Post (nI i) [⟨0, true, 3, 1, vecC eInt l⟩])) ∧ ((decide (x = (l.getD i 0))) = false → WrapS .i64 (((i : Nat) : Int) + 1) ((i + 1 : Nat) : Int) ∧ FlatC (vecC eInt l) ∧ (Q .normal (mkS [(0, .ref (0, 0) 0 0 l.length), (1, .d (.int .i64 x)), (7, nI l.length), (8, nI (i + 1))] [((0, 0), ⟨0, true, 3, 1, vecC eInt l⟩)])))) ∧ ((decide (((i : Nat) : Int) < ((l.length : Nat) : Int))) = false → FlatC (vecC eInt l) ∧ (Q (.exit 0) (mkS [] [((0, 0), ⟨0, true, 3, 1, vecC eInt l⟩)])))) (fun r Q Post => by kernel_rfl) hr (fun r hθ hH hκ hN => ⟨(fun h0 => absurd ((dec_f (by omega) : decide (((i : Nat) : Int) < ((l.length : Nat) : Int)) = false).symm.trans h0) (by decide)), fun _ => ⟨(flatC_vec _ _), ?_⟩⟩)
    · exact hx () (by simp only [M_Index_int_L1, cond_true, cond_false, Sum.elim_inl, Sum.elim_inr]) 
  | cons e0 suf0 ih =>
    intro i  hs hi  Q hx hr
    obtain ⟨hx0, hlt0, hs'⟩ := drop_get hs
    refine LL_round ?_
    refine LW_mid2 hC tok tmo hO hF (.br (.nat (i * 1) (.cs ([.d (.int .i64 e0)]) (.br (.nil) (.nu (i + 1) (.nil))))) (.nil)) ⟨[0, 1, 7, 8], [((0, 0), true)], [], []⟩ ⟨[], [((0, 0), true)], [], []⟩ [.tmp 4] (fun r Q Post => ((decide (((i : Nat) : Int) < ((l.length : Nat) : Int))) = true → IdxR ((i : Nat) : Int) l.length 0 1 (i * 1) ∧ CellsAt (vecC eInt l) (i * 1) ([.d (.int .i64 e0)]) ∧ ((decide (x = e0)) = true → (Post (nI i) [⟨0, true, 3, 1, vecC eInt l⟩])) ∧ ((decide (x = e0)) = false → WrapS .i64 (((i : Nat) : Int) + 1) ((i + 1 : Nat) : Int) ∧ FlatC (vecC eInt l) ∧ (Q .normal (mkS [(0, .ref (0, 0) 0 0 l.length), (1, .d (.int .i64 x)), (7, nI l.length), (8, nI (i + 1))] [((0, 0), ⟨0, true, 3, 1, vecC eInt l⟩)])))) ∧ ((decide (((i : Nat) : Int) < ((l.length : Nat) : Int))) = false → FlatC (vecC eInt l) ∧ (Q (.exit 0) (mkS [] [((0, 0), ⟨0, true, 3, 1, vecC eInt l⟩)])))) (fun r Q Post => by kernel_rfl) hr (fun r hθ hH hκ hN => ⟨fun _ => ⟨(idxR0 (by first | omega | (simp only [ql1] <;> omega) | (simp only [ql1, qd1, qd2, qd3, qd4, qd5, qd6, qd7] at *; omega))), (cellsAt_hx (e := eInt) (e' := eInt) hx0 (fun _ => rfl) (fun _ => rfl)), fun h2 => ?_, fun h2 => ⟨(wrap64 (by first | omega | (simp only [ql1] <;> omega) | (simp only [ql1, qd1, qd2, qd3, qd4, qd5, qd6, qd7] at *; omega)) (by first | omega | (simp only [ql1] <;> omega) | (simp only [ql1, qd1, qd2, qd3, qd4, qd5, qd6, qd7] at *; omega)) (by first | omega | (simp only [ql1] <;> omega) | (simp only [ql1, qd1, qd2, qd3, qd4, qd5, qd6, qd7] at *; omega))), (flatC_vec _ _), ?_⟩⟩, (fun h0 => absurd ((dec_t (by omega) : decide (((i : Nat) : Int) < ((l.length : Nat) : Int)) = true).symm.trans h0) (by decide))⟩)
    · exact ⟨((i : Nat) : Int), by simp only [M_Index_int_L1, h2, cond_true, cond_false, Sum.elim_inl, Sum.elim_inr], rfl, rfl⟩
    · exact ih (i + 1)  hs' (by omega)   Q (fun a ha => hx a (by simp only [M_Index_int_L1, h2, cond_true, cond_false, Sum.elim_inl, Sum.elim_inr]; exact ha)) (fun τ hτ => hr τ (FQ_mono (fun y bs ⟨v, e1, e2⟩ => ⟨v, by simp only [M_Index_int_L1, h2, cond_true, cond_false, Sum.elim_inl, Sum.elim_inr]; exact e1, e2⟩) hτ))
set_option maxRecDepth 100000 in
theorem K_Index_intR_b (C : Cx) (hC : CxOk C) (hO : C.outs = 1) (hF : C.fx = [0]) (hW0 : C.no (C.κ (0, 0))) (l : List Int) (x : Int) (hf_l : Fit (.list (l.map eInt))) (Post : AV → List Blk → Prop) (h : Post (.d (.int .i64 (M_Index_int l x))) [⟨0, true, 3, 1, vecC eInt l⟩]) : LW Try.prog 19 C (bodyOf Try.f116) (mkS (zipS 0 [.ref (0, 0) 0 0 l.length, .d (.int .i64 x)]) [((0, 0), ⟨0, true, 3, 1, vecC eInt l⟩)]) (FQ (lkT tl) [.tmp 4] 1 Post) := by
  refine LW_seq' (cAt [0] (bodyOf Try.f116)) (cAt [1] (bodyOf Try.f116)) (by kernel_rfl) ?_
  refine LW_mid2 hC tok tmo hO hF (.nil) ⟨[0, 1], [((0, 0), true)], [], []⟩ ⟨[], [], [], []⟩ [.tmp 4] (fun r Q Post => FlatC (vecC eInt l) ∧ (Q .normal (mkS [(0, .ref (0, 0) 0 0 l.length), (1, .d (.int .i64 x))] [((0, 0), ⟨0, true, 3, 1, vecC eInt l⟩)]))) (fun r Q Post => by kernel_rfl) (fun _ h => h) (fun r hθ hH hκ hN => ⟨(flatC_vec _ _), ?_⟩)
  · refine LW_seq' (cAt [1, 0] (bodyOf Try.f116)) (cAt [1, 1] (bodyOf Try.f116)) (by kernel_rfl) ?_
    refine LW_seq' (cAt [1, 0, 0] (bodyOf Try.f116)) (cAt [1, 0, 1] (bodyOf Try.f116)) (by kernel_rfl) ?_
    refine LW_mid2 hC tok tmo hO hF (.nu l.length (.nil)) ⟨[0, 1, 7, 8], [((0, 0), true)], [], []⟩ ⟨[], [], [], []⟩ [.tmp 4] (fun r Q Post => EqI (l.length : Nat) ((l.length : Nat) : Int) ∧ FlatC (vecC eInt l) ∧ (Q .normal (mkS [(0, .ref (0, 0) 0 0 l.length), (1, .d (.int .i64 x)), (7, nI l.length), (8, .d (.int .i64 0))] [((0, 0), ⟨0, true, 3, 1, vecC eInt l⟩)]))) (fun r Q Post => by kernel_rfl) (fun _ h => h) (fun r hθ hH hκ hN => ⟨rfl, (flatC_vec _ _), ?_⟩)
    · refine LW_block' 0 (cAt [1, 0, 1, 0] (bodyOf Try.f116)) (by kernel_rfl) ?_
      refine LW_loop' (cAt [1, 0, 1, 0, 0] (bodyOf Try.f116)) (by kernel_rfl) ?_
      refine K_Index_intR_L1 C hC hO hF hW0 l x hf_l   l 0  rfl (Nat.zero_le _)  _ ?_ ?_
      · intro a0 ha0  
        have hlen0 : l.length < 2147483648 := hf_l.len
        refine LW_fin2 hC tok tmo hO (.nil) [.tmp 4] (fun r Post => (Post (.d (.int .i64 (-1))) [⟨0, true, 3, 1, vecC eInt l⟩])) (fun r Post => by kernel_rfl) (fun r hθ hH hκ hN => ?_)
        · have hh := h
          simp only [M_Index_int, ha0, cond_true, cond_false, Sum.elim_inl, Sum.elim_inr] at hh
          exact hh
      · exact fun τ hτ => FQ_mono (fun y bs ⟨v, e1, e2⟩ => by obtain ⟨e2, e3⟩ := e2; subst e2; subst e3; have hh := h; simp only [M_Index_int, cond_true, cond_false, Sum.elim_inl, Sum.elim_inr, e1] at hh; exact hh) hτ
theorem K_Index_intR (ℓ : Nat) (ℋ : Hp) (k0 : Key) (g0 : Nat) (hk0 : k0.1 ≤ ℓ)   (l : List Int) (x : Int)  (hc0 : ℋ k0 = ⟨g0, true, 3, 1, vecC eInt l⟩) (hf_l : Fit (.list (l.map eInt))) (Post : AV → Hp → Prop) (h : Post (.d (.int .i64 (M_Index_int l x))) ℋ) : ACall Try.prog 116 ℓ [.ref k0 g0 0 (l.length), .d (.int .i64 x)] ℋ Post :=
  acall_outs' (n := 19) (Y' := .d (.int .i64 (M_Index_int l x))) (bs' := [⟨g0, true, 3, 1, vecC eInt l⟩]) [.tmp 4] (bodyOf Try.f116) [k0] [g0] 1 (fun _ => .top) [.ref (0, 0) 0 0 l.length, .d (.int .i64 x)] [((0, 0), ⟨0, true, 3, 1, vecC eInt l⟩)] (.d (.int .i64 (M_Index_int l x))) [⟨0, true, 3, 1, vecC eInt l⟩] Try.func116 (by kernel_rfl) (by kernel_rfl) Try.ntmps116 (by kernel_rfl) (by simp) tok rfl ⟨hk0, trivial⟩ (by simp) (by kernel_rfl) ⟨⟨by rw [hc0]; rfl, fun _ => hc0.trans (flat_renB (r := rOf ℓ [k0] [g0] (fun _ => .top) ℋ) (k := (0, 0)) (g := 0) (flatC_vec _ _)).symm⟩, trivial⟩ (by kernel_rfl) (by kernel_rfl) (by simp) (fun r ⟨h1, h2⟩ => by simp only [ren, rens, renBs, renB, h1, h2 0 (by simp), flatC_rens (flatC_vec _ _)]; try kernel_rfl) (fun r ⟨h1, h2⟩ => by simp only [ren, rens, renBs, renB, h1, h2 0 (by simp), flatC_rens (flatC_vec _ _)]; try kernel_rfl) (fun C hC hO hF hl hH hθ hκ hN => K_Index_intR_b C hC hO hF (by rw [hN, hκ]; simp [kOf, nth]) l x  hf_l (fun y b => y = _ ∧ b = _) ⟨rfl, rfl⟩) (by simp only [updP]; rw [updH_id _ _ _ hc0.symm]; exact h)
set_option maxRecDepth 100000 in
theorem K_Index_int_L1 (C : Cx) (hC : CxOk C) (hO : C.outs = 0) (hF : C.fx = []) (l : List Int) (x : Int) (hf_l : Fit (.list (l.map eInt)))   : ∀ (suf0 : List Int) (i : Nat) , l.drop i = suf0 → i ≤ l.length →  ∀ Q : Exit → St → Prop, (∀ rslt, M_Index_int_L1 x suf0 i = .inl rslt →  Q (.exit 0) (mkS [] [])) →
    (∀ τ, FQ (lkT tl) [.tmp 4] 0 (fun y bs => ∃ v, M_Index_int_L1 x suf0 i = .inr v ∧ y = .d (.int .i64 v) ∧ bs = []) .ret τ → Q .ret τ) → LL Try.prog 19 C (cAt [1, 0, 1, 0, 0] (bodyOf Try.f116)) (mkS [(0, .d (.list (l.map eInt))), (1, .d (.int .i64 x)), (7, nI l.length), (8, nI i)] []) Q := by
  have hlen : l.length < 2147483648 := hf_l.len
  intro suf0
  induction suf0 with
  | nil =>
    intro i  hs hi  Q hx hr
    have hge := drop_nil hs
    refine LL_round ?_
    refine LW_mid2 hC tok tmo hO hF (.br (.ds (eInt (l.getD i 0)) (.br (.nil) (.nu (i + 1) (.nil)))) (.nil)) ⟨[0, 1, 7, 8], [], [], []⟩ ⟨[], [], [], []⟩ [.tmp 4] (fun r Q Post => ((decide (((i : Nat) : Int) < ((l.length : Nat) : Int))) = true → IdxS (l.map eInt) ((i : Nat) : Int) (eInt (l.getD i 0)) ∧ ((decide (x = (l.getD i 0))) = true → (Post (nI i) [])) ∧ ((decide (x = (l.getD i 0))) = false → WrapS .i64 (((i : Nat) : Int) + 1) ((i + 1 : Nat) : Int) ∧ (Q .normal (mkS [(0, .d (.list (l.map eInt))), (1, .d (.int .i64 x)), (7, nI l.length), (8, nI (i + 1))] [])))) ∧ ((decide (((i : Nat) : Int) < ((l.length : Nat) : Int))) = false → (Q (.exit 0) (mkS [] [])))) (fun r Q Post => by kernel_rfl) hr (fun r hθ hH hκ hN => ⟨(fun h0 => absurd ((dec_f (by omega) : decide (((i : Nat) : Int) < ((l.length : Nat) : Int)) = false).symm.trans h0) (by decide)), fun _ => ?_⟩)
    · exact hx () (by simp only [M_Index_int_L1, cond_true, cond_false, Sum.elim_inl, Sum.elim_inr]) 
  | cons e0 suf0 ih =>
    intro i  hs hi  Q hx hr
    obtain ⟨hx0, hlt0, hs'⟩ := drop_get hs
    refine LL_round ?_
    refine LW_mid2 hC tok tmo hO hF (.br (.ds (eInt e0) (.br (.nil) (.nu (i + 1) (.nil)))) (.nil)) ⟨[0, 1, 7, 8], [], [], []⟩ ⟨[], [], [], []⟩ [.tmp 4] (fun r Q Post => ((decide (((i : Nat) : Int) < ((l.length : Nat) : Int))) = true → IdxS (l.map eInt) ((i : Nat) : Int) (eInt e0) ∧ ((decide (x = e0)) = true → (Post (nI i) [])) ∧ ((decide (x = e0)) = false → WrapS .i64 (((i : Nat) : Int) + 1) ((i + 1 : Nat) : Int) ∧ (Q .normal (mkS [(0, .d (.list (l.map eInt))), (1, .d (.int .i64 x)), (7, nI l.length), (8, nI (i + 1))] [])))) ∧ ((decide (((i : Nat) : Int) < ((l.length : Nat) : Int))) = false → (Q (.exit 0) (mkS [] [])))) (fun r Q Post => by kernel_rfl) hr (fun r hθ hH hκ hN => ⟨fun _ => ⟨(idxS_at hx0 (fun _ => rfl)), fun h2 => ?_, fun h2 => ⟨(wrap64 (by first | omega | (simp only [ql1] <;> omega) | (simp only [ql1, qd1, qd2, qd3, qd4, qd5, qd6, qd7] at *; omega)) (by first | omega | (simp only [ql1] <;> omega) | (simp only [ql1, qd1, qd2, qd3, qd4, qd5, qd6, qd7] at *; omega)) (by first | omega | (simp only [ql1] <;> omega) | (simp only [ql1, qd1, qd2, qd3, qd4, qd5, qd6, qd7] at *; omega))), ?_⟩⟩, (fun h0 => absurd ((dec_t (by omega) : decide (((i : Nat) : Int) < ((l.length : Nat) : Int)) = true).symm.trans h0) (by decide))⟩)
    · exact ⟨((i : Nat) : Int), by simp only [M_Index_int_L1, h2, cond_true, cond_false, Sum.elim_inl, Sum.elim_inr], rfl, rfl⟩
    · exact ih (i + 1)  hs' (by omega)   Q (fun a ha => hx a (by simp only [M_Index_int_L1, h2, cond_true, cond_false, Sum.elim_inl, Sum.elim_inr]; exact ha)) (fun τ hτ => hr τ (FQ_mono (fun y bs ⟨v, e1, e2⟩ => ⟨v, by simp only [M_Index_int_L1, h2, cond_true, cond_false, Sum.elim_inl, Sum.elim_inr]; exact e1, e2⟩) hτ))
set_option maxRecDepth 100000 in
theorem K_Index_int_b (C : Cx) (hC : CxOk C) (hO : C.outs = 0) (hF : C.fx = []) (l : List Int) (x : Int) (hf_l : Fit (.list (l.map eInt))) (Post : AV → List Blk → Prop) (h : Post (.d (.int .i64 (M_Index_int l x))) []) : LW Try.prog 19 C (bodyOf Try.f116) (mkS (zipS 0 [.d (.list (l.map eInt)), .d (.int .i64 x)]) []) (FQ (lkT tl) [.tmp 4] 0 Post) := by
  refine LW_seq' (cAt [0] (bodyOf Try.f116)) (cAt [1] (bodyOf Try.f116)) (by kernel_rfl) ?_
  refine LW_mid2 hC tok tmo hO hF (.nil) ⟨[0, 1], [], [], []⟩ ⟨[], [], [], []⟩ [.tmp 4] (fun r Q Post => (Q .normal (mkS [(0, .d (.list (l.map eInt))), (1, .d (.int .i64 x))] []))) (fun r Q Post => by kernel_rfl) (fun _ h => h) (fun r hθ hH hκ hN => ?_)
  · refine LW_seq' (cAt [1, 0] (bodyOf Try.f116)) (cAt [1, 1] (bodyOf Try.f116)) (by kernel_rfl) ?_
    refine LW_seq' (cAt [1, 0, 0] (bodyOf Try.f116)) (cAt [1, 0, 1] (bodyOf Try.f116)) (by kernel_rfl) ?_
    refine LW_mid2 hC tok tmo hO hF (.nu l.length (.nil)) ⟨[0, 1, 7, 8], [], [], []⟩ ⟨[], [], [], []⟩ [.tmp 4] (fun r Q Post => EqI ((l.map eInt).length : Nat) ((l.length : Nat) : Int) ∧ (Q .normal (mkS [(0, .d (.list (l.map eInt))), (1, .d (.int .i64 x)), (7, nI l.length), (8, .d (.int .i64 0))] []))) (fun r Q Post => by kernel_rfl) (fun _ h => h) (fun r hθ hH hκ hN => ⟨(eqI_len _ _), ?_⟩)
    · refine LW_block' 0 (cAt [1, 0, 1, 0] (bodyOf Try.f116)) (by kernel_rfl) ?_
      refine LW_loop' (cAt [1, 0, 1, 0, 0] (bodyOf Try.f116)) (by kernel_rfl) ?_
      refine K_Index_int_L1 C hC hO hF l x hf_l   l 0  rfl (Nat.zero_le _)  _ ?_ ?_
      · intro a0 ha0  
        have hlen0 : l.length < 2147483648 := hf_l.len
        refine LW_fin2 hC tok tmo hO (.nil) [.tmp 4] (fun r Post => (Post (.d (.int .i64 (-1))) [])) (fun r Post => by kernel_rfl) (fun r hθ hH hκ hN => ?_)
        · have hh := h
          simp only [M_Index_int, ha0, cond_true, cond_false, Sum.elim_inl, Sum.elim_inr] at hh
          exact hh
      · exact fun τ hτ => FQ_mono (fun y bs ⟨v, e1, e2⟩ => by obtain ⟨e2, e3⟩ := e2; subst e2; subst e3; have hh := h; simp only [M_Index_int, cond_true, cond_false, Sum.elim_inl, Sum.elim_inr, e1] at hh; exact hh) hτ
theorem K_Index_int (ℓ : Nat) (ℋ : Hp)  (l : List Int) (x : Int)  (hf_l : Fit (.list (l.map eInt))) (Post : AV → Hp → Prop) (h : Post (.d (.int .i64 (M_Index_int l x))) ℋ) : ACall Try.prog 116 ℓ [.d (.list (l.map eInt)), .d (.int .i64 x)] ℋ Post :=
  acall_pure (n := 19) [.tmp 4] (bodyOf Try.f116) (fun _ => .top) [.d (.list (l.map eInt)), .d (.int .i64 x)] Try.func116 (by kernel_rfl) (by kernel_rfl) Try.ntmps116 (by kernel_rfl) (by simp) tok (by kernel_rfl) (fun B => K_Index_int_b (cxP ℓ (fun _ => .top) ℋ B) (cxOk_pure ℓ B _ ℋ) rfl rfl l x hf_l (fun y _ => Post y ℋ) h)
def M_Contains_int (l : List Int) (x : Int) : Bool := decide ((0 : Int) ≤ (M_Index_int l x))
set_option maxRecDepth 100000 in
theorem K_Contains_intR_b (C : Cx) (hC : CxOk C) (hO : C.outs = 1) (hF : C.fx = [0]) (hW0 : C.no (C.κ (0, 0))) (l : List Int) (x : Int) (hf_l : Fit (.list (l.map eInt))) (Post : AV → List Blk → Prop) (h : Post (.d (.bool (M_Contains_int l x))) [⟨0, true, 3, 1, vecC eInt l⟩]) : LW Try.prog 9 C (bodyOf Try.f88) (mkS (zipS 0 [.ref (0, 0) 0 0 l.length, .d (.int .i64 x)]) [((0, 0), ⟨0, true, 3, 1, vecC eInt l⟩)]) (FQ (lkT tl) [.tmp 4] 1 Post) := by
  refine LW_fin2 hC tok tmo hO (.call (.d (.int .i64 (M_Index_int l x))) [(0, 0)] (.nil)) [.tmp 4] (fun r Post => CallS Try.prog C.l r 116 ([] ++ [.ref (0, 0) 0 0 l.length, .d (.int .i64 x)] ++ []) [((0, 0), ⟨0, true, 3, 1, vecC eInt l⟩)] (.d (.int .i64 (M_Index_int l x))) ∧ (Post (.d (.bool (decide ((0 : Int) ≤ (M_Index_int l x))))) [⟨0, true, 3, 1, vecC eInt l⟩])) (fun r Post => by kernel_rfl) (fun r hθ hH hκ hN => ⟨(callS_H (xs' := [.ref (r.κ (0, 0)) (r.γ (0, 0) + 0) 0 (l.length), .d (.int .i64 x)]) (by kernel_rfl) (by kernel_rfl) (fun H' hb ho => K_Index_intR _ H' (r.κ (0, 0)) (r.γ (0, 0) + 0) (by rw [hκ]; exact Nat.le_succ_of_le (hC.out 0 (by rw [hO]; decide)))   l x  ((hb ((0, 0), ⟨0, true, 3, 1, vecC eInt l⟩) (by simp) rfl).trans (flat_renB (flatC_vec _ _))) hf_l _ ⟨rfl, rfl⟩)), ?_⟩)
  · have hh := h
    simp only [M_Contains_int, cond_true, cond_false, Sum.elim_inl, Sum.elim_inr] at hh
    exact hh
theorem K_Contains_intR (ℓ : Nat) (ℋ : Hp) (k0 : Key) (g0 : Nat) (hk0 : k0.1 ≤ ℓ)   (l : List Int) (x : Int)  (hc0 : ℋ k0 = ⟨g0, true, 3, 1, vecC eInt l⟩) (hf_l : Fit (.list (l.map eInt))) (Post : AV → Hp → Prop) (h : Post (.d (.bool (M_Contains_int l x))) ℋ) : ACall Try.prog 88 ℓ [.ref k0 g0 0 (l.length), .d (.int .i64 x)] ℋ Post :=
  acall_outs' (n := 9) (Y' := .d (.bool (M_Contains_int l x))) (bs' := [⟨g0, true, 3, 1, vecC eInt l⟩]) [.tmp 4] (bodyOf Try.f88) [k0] [g0] 1 (fun _ => .top) [.ref (0, 0) 0 0 l.length, .d (.int .i64 x)] [((0, 0), ⟨0, true, 3, 1, vecC eInt l⟩)] (.d (.bool (M_Contains_int l x))) [⟨0, true, 3, 1, vecC eInt l⟩] Try.func88 (by kernel_rfl) (by kernel_rfl) Try.ntmps88 (by kernel_rfl) (by simp) tok rfl ⟨hk0, trivial⟩ (by simp) (by kernel_rfl) ⟨⟨by rw [hc0]; rfl, fun _ => hc0.trans (flat_renB (r := rOf ℓ [k0] [g0] (fun _ => .top) ℋ) (k := (0, 0)) (g := 0) (flatC_vec _ _)).symm⟩, trivial⟩ (by kernel_rfl) (by kernel_rfl) (by simp) (fun r ⟨h1, h2⟩ => by simp only [ren, rens, renBs, renB, h1, h2 0 (by simp), flatC_rens (flatC_vec _ _)]; try kernel_rfl) (fun r ⟨h1, h2⟩ => by simp only [ren, rens, renBs, renB, h1, h2 0 (by simp), flatC_rens (flatC_vec _ _)]; try kernel_rfl) (fun C hC hO hF hl hH hθ hκ hN => K_Contains_intR_b C hC hO hF (by rw [hN, hκ]; simp [kOf, nth]) l x  hf_l (fun y b => y = _ ∧ b = _) ⟨rfl, rfl⟩) (by simp only [updP]; rw [updH_id _ _ _ hc0.symm]; exact h)
set_option maxRecDepth 100000 in
theorem K_Contains_int_b (C : Cx) (hC : CxOk C) (hO : C.outs = 0) (hF : C.fx = []) (l : List Int) (x : Int) (hf_l : Fit (.list (l.map eInt))) (Post : AV → List Blk → Prop) (h : Post (.d (.bool (M_Contains_int l x))) []) : LW Try.prog 9 C (bodyOf Try.f88) (mkS (zipS 0 [.d (.list (l.map eInt)), .d (.int .i64 x)]) []) (FQ (lkT tl) [.tmp 4] 0 Post) := by
  refine LW_fin2 hC tok tmo hO (.call (.d (.int .i64 (M_Index_int l x))) [] (.nil)) [.tmp 4] (fun r Post => CallS Try.prog C.l r 116 ([] ++ [.d (.list (l.map eInt)), .d (.int .i64 x)] ++ []) [] (.d (.int .i64 (M_Index_int l x))) ∧ (Post (.d (.bool (decide ((0 : Int) ≤ (M_Index_int l x))))) [])) (fun r Post => by kernel_rfl) (fun r hθ hH hκ hN => ⟨(callS_of (fun H' => K_Index_int _ H' l x hf_l _ ⟨rfl, rfl⟩) (by kernel_rfl) (by kernel_rfl)), ?_⟩)
  · have hh := h
    simp only [M_Contains_int, cond_true, cond_false, Sum.elim_inl, Sum.elim_inr] at hh
    exact hh
theorem K_Contains_int (ℓ : Nat) (ℋ : Hp)  (l : List Int) (x : Int)  (hf_l : Fit (.list (l.map eInt))) (Post : AV → Hp → Prop) (h : Post (.d (.bool (M_Contains_int l x))) ℋ) : ACall Try.prog 88 ℓ [.d (.list (l.map eInt)), .d (.int .i64 x)] ℋ Post :=
  acall_pure (n := 9) [.tmp 4] (bodyOf Try.f88) (fun _ => .top) [.d (.list (l.map eInt)), .d (.int .i64 x)] Try.func88 (by kernel_rfl) (by kernel_rfl) Try.ntmps88 (by kernel_rfl) (by simp) tok (by kernel_rfl) (fun B => K_Contains_int_b (cxP ℓ (fun _ => .top) ℋ B) (cxOk_pure ℓ B _ ℋ) rfl rfl l x hf_l (fun y _ => Post y ℋ) h)
def lays4_str : Go.Shelf.Ren := ⟨fun | 4 => 82 | n => n, fun | 22 => 34 | 25 => 9 | n => n, fun n => n⟩
set_option maxRecDepth 100000 in
theorem lays4L_str : Go.Proofs.Lays8.n4 Try.prog lays4_str := {
  mixed := by kernel_rfl,
  f4 := ⟨Try.f82.name, by decide +kernel, Try.func82.trans (congrArg some (by kernel_rfl))⟩,
  t0 := Try.underlying0,
  a0 := Try.isAgg0,
  z0 := Try.sizeOf0,
  v0 := Try.zeroValue0,
  t3 := Try.underlying3,
  a3 := Try.isAgg3,
  z3 := Try.sizeOf3,
  v3 := Try.zeroValue3,
  t4 := Try.underlying4,
  a4 := Try.isAgg4,
  z4 := Try.sizeOf4,
  v4 := Try.zeroValue4,
  t9 := Try.underlying9,
  a9 := Try.isAgg9,
  z9 := Try.sizeOf9,
  v9 := Try.zeroValue9,
  t20 := Try.underlying20,
  a20 := Try.isAgg20,
  z20 := Try.sizeOf20,
  v20 := Try.zeroValue20,
  t22 := Try.underlying34,
  a22 := Try.isAgg34,
  z22 := Try.sizeOf34,
  v22 := Try.zeroValue34 }
def M_Grow_str (_ : Nat) : List ByteArray := []
set_option maxRecDepth 100000 in
theorem K_Grow_str (ℓ : Nat) (ℋ : Hp) (k0 : Key) (g0 : Nat) (hk0 : k0.1 ≤ ℓ) (n : Nat) (hg0 : (ℋ k0).g = g0) (ha_1 : n < 2147483648) (Post : AV → Hp → Prop) (h : Post (.ref k0 (g0 + 1) 0 ((M_Grow_str n).length)) (updP ℋ [k0] [⟨g0 + 1, true, 9, 1, vecC eStr (M_Grow_str n)⟩])) : ACall Try.prog 82 ℓ [.e0, nI n] ℋ Post :=
  have hi : ∃ i0 z, (Try.prog).info? 9 = some i0 ∧ i0.zero = some z ∧ i0.size = 1 ∧ z.cells.size = i0.size ∧ i0.bytes ≤ 4096 := ⟨_, _, rfl, rfl, rfl, by decide +kernel, by decide +kernel⟩
  let ⟨i0, z, h1, h2, h3, h4, h5⟩ := hi
  acall_grow lays4L_str i0 z h1 h2 (by rw [h3]; decide) h4 h5 ⟨_, bodyOf Try.f82, Try.func82, by kernel_rfl, by kernel_rfl⟩ hk0 hg0 n ha_1 (by rw [h3]; exact h)
theorem r11file_L (q : ByteArray) : ∀ (suf : List Fil) (i : Nat), M_wireschemaref11_file_L1 q suf i = (match suf.findIdx? (fun x => decide (x.name = q)) with | some k => .inr ((i + k : Nat) : Int) | none => .inl ())
  | [], i => by simp [M_wireschemaref11_file_L1]
  | x :: suf, i => by
    rw [M_wireschemaref11_file_L1, List.findIdx?_cons]
    cases h : decide (x.name = q) with
    | true => simp
    | false =>
      simp only [cond_false, r11file_L q suf (i + 1)]
      cases suf.findIdx? (fun x => decide (x.name = q)) with
      | none => rfl
      | some k => simp; omega
theorem file_eq (files : List Fil) (q : ByteArray) : M_wireschemaref11_file files q = (match files.findIdx? (fun x => decide (x.name = q)) with | some k => (k : Int) | none => -1) := by
  rw [M_wireschemaref11_file, r11file_L]
  cases files.findIdx? (fun x => decide (x.name = q)) <;> simp
theorem file_lt (files : List Fil) (q : ByteArray) : M_wireschemaref11_file files q < files.length ∧ -1 ≤ M_wireschemaref11_file files q := by
  rw [file_eq]
  split
  · rename_i k h; have := (List.findIdx?_eq_some_iff_getElem.1 h).1; omega
  · omega
theorem fileAt_eq (files : List Fil) (q : ByteArray) : M_link_fileAt files q = M_wireschemaref11_file files q := by
  rw [M_link_fileAt, indexFunc_Fil, file_eq]; rfl
theorem fileAt_lt (files : List Fil) (q : ByteArray) : M_link_fileAt files q < files.length ∧ -1 ≤ M_link_fileAt files q := by rw [fileAt_eq]; exact file_lt files q
/-- all imports are there -/
def Found (files : List Fil) : Prop := ∀ f ∈ files, ∀ q ∈ f.imports, 0 ≤ M_wireschemaref11_file files q
theorem found_at {files : List Fil} (h : Found files) {i j : Nat} (hi : i < files.length) (hj : j < (files.getD i zFil).imports.length) : 0 ≤ M_wireschemaref11_file files ((files.getD i zFil).imports.getD j ⟨#[]⟩) := by
  have e : files.getD i zFil = files[i] := by rw [List.getD_eq_getElem?_getD, List.getElem?_eq_getElem hi]; rfl
  rw [e] at hj ⊢
  have e2 : files[i].imports.getD j ⟨#[]⟩ = files[i].imports[j] := by rw [List.getD_eq_getElem?_getD, List.getElem?_eq_getElem hj]; rfl
  rw [e2]
  exact h _ (List.getElem_mem hi) _ (List.getElem_mem hj)
end Go.Proofs.Ythagpbkmakocjaa
