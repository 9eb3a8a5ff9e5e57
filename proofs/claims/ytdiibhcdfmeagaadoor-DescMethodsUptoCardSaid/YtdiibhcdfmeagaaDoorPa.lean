/-
  Walks and models of functions of this seat; by program (gen.py, seat.py), laws of the models by hand.
-/
import Derived.Test.YtdiibhcdfmeagaaDoorTab
import Derived.Test.YtdiibhcdfmeagaaDoorEngZa
namespace Go.Proofs.YtdiibhcdfmeagaaDoor
set_option linter.all false
open Go Go.Eng
def M_note_index_1 (x : Nt) (name : ByteArray) : Bool := decide (x.name = name)
set_option maxRecDepth 100000 in
theorem K_note_index_1_b (C : Cx) (hC : CxOk C) (hO : C.outs = 1) (hF : C.fx = []) (x : Nt) (name : ByteArray)  (Post : AV → List Blk → Prop) (h : Post (.d (.bool (M_note_index_1 x name))) [⟨0, true, 9, 1, [.d (.str name)]⟩]) : LW Tryd.prog 8 C (bodyOf Tryd.f101) (mkS (zipS 0 [.agg ((eNt x).map .d), .ptr (0, 0) 0 0]) [((0, 0), ⟨0, true, 9, 1, [.d (.str name)]⟩)]) (FQ (lkT tl) [.tmp 3] 1 Post) := by
  refine LW_fin2 hC tok tmo hO (.go (.go (.nil))) [.tmp 3] (fun r Post => (Post (.d (.bool (decide (x.name = name)))) [⟨0, true, 9, 1, [.d (.str name)]⟩])) (fun r Post => by kernel_rfl) (fun r hθ hH hκ hN => ?_)
  · have hh := h
    simp only [M_note_index_1, cond_true, cond_false, Sum.elim_inl, Sum.elim_inr] at hh
    exact hh
theorem K_note_index_1 (ℓ : Nat) (ℋ : Hp) (k : Key) (g : Nat) (hk : k.1 ≤ ℓ) (x : Nt) (name : ByteArray) (hc : ℋ k = ⟨g, true, 9, 1, [.d (.str name)]⟩)  (Post : AV → Hp → Prop) (h : Post (.d (.bool (M_note_index_1 x name))) ℋ) : ACall Tryd.prog 101 ℓ [.agg ((eNt x).map .d), .ptr k g 0] ℋ Post :=
  acall_cap1 (n := 8) [.tmp 3] (bodyOf Tryd.f101) k g 9 1 [.d (.str name)] [.agg ((eNt x).map .d), .ptr (0, 0) 0 0] Tryd.func101 (by kernel_rfl) (by kernel_rfl) Tryd.ntmps101 (by kernel_rfl) (by simp) tok hk hc (fun r => by kernel_rfl) (fun κ γ h1 h2 => by subst h1; subst h2; kernel_rfl) (fun C hC hO hF hl hH => K_note_index_1_b C hC hO hF x name  (fun y _ => Post y ℋ ∧ ∀ r, ren r y = y) ⟨h, fun r => by kernel_rfl⟩)
def M_IndexFunc_Nt_L1 (p : Nt → Bool) : List Nt → Nat → (Unit) ⊕ (Int)
  | [], i => .inl ()
  | e0 :: suf0, i => cond ((p e0)) (.inr (((i : Nat) : Int))) (M_IndexFunc_Nt_L1 p suf0 (i + 1) )
def M_IndexFunc_Nt (l : List Nt) (p : Nt → Bool) : Int := Sum.elim (fun _ => (-1)) (fun v => v) (M_IndexFunc_Nt_L1 p l 0)
set_option maxRecDepth 100000 in
theorem K_IndexFunc_Nt_L1 (C : Cx) (hC : CxOk C) (hO : C.outs = 0) (hF : C.fx = []) (l : List Nt) (p : Nt → Bool) (hp : ∀ x ∈ l, CloP Tryd.prog C.l C.no C.H0 (C.θ 1) [.agg ((eNt x).map .d)] (.d (.bool (p x)))) (hf_l : Fit (.list (l.map eNt)))   : ∀ (suf0 : List Nt) (i : Nat) , l.drop i = suf0 → i ≤ l.length →  ∀ Q : Exit → St → Prop, (∀ rslt, M_IndexFunc_Nt_L1 p suf0 i = .inl rslt →  Q (.exit 0) (mkS [] [])) →
    (∀ τ, FQ (lkT tl) [.tmp 4] 0 (fun y bs => ∃ v, M_IndexFunc_Nt_L1 p suf0 i = .inr v ∧ y = .d (.int .i64 v) ∧ bs = []) .ret τ → Q .ret τ) → LL Tryd.prog 19 C (cAt [1, 0, 1, 0, 0] (bodyOf Tryd.f100)) (mkS [(0, .d (.list (l.map eNt))), (1, .fn (.yield 1) [] []), (7, .d (.int .i64 ((l.length : Nat) : Int))), (8, .d (.int .i64 ((i : Nat) : Int)))] []) Q := by
  have hlen : l.length < 2147483648 := hf_l.len
  intro suf0
  induction suf0 with
  | nil =>
    intro i  hs hi  Q hx hr
    have hge := drop_nil hs
    refine LL_round ?_
    refine LW_mid2 hC tok tmo hO hF (.br (.ds (eNt (l.getD i zNt)) (.call (.d (.bool (p (l.getD i zNt)))) [] (.br (.nil) (.num ((i + 1 : Nat) : Int) (.nil))))) (.nil)) ⟨[0, 1, 7, 8], [], [], []⟩ ⟨[], [], [], []⟩ [.tmp 4] (fun r Q Post => ((decide (((i : Nat) : Int) < ((l.length : Nat) : Int))) = true → IdxS (l.map eNt) ((i : Nat) : Int) (eNt (l.getD i zNt)) ∧ CallF Tryd.prog C.l r 1 [.agg ((eNt (l.getD i zNt)).map .d)] [] (.d (.bool (p (l.getD i zNt)))) ∧ ((p (l.getD i zNt)) = true → (Post (.d (.int .i64 ((i : Nat) : Int))) [])) ∧ ((p (l.getD i zNt)) = false → WrapS .i64 (((i : Nat) : Int) + 1) ((i + 1 : Nat) : Int) ∧ (Q .normal (mkS [(0, .d (.list (l.map eNt))), (1, .fn (.yield 1) [] []), (7, .d (.int .i64 ((l.length : Nat) : Int))), (8, .d (.int .i64 ((i + 1 : Nat) : Int)))] [])))) ∧ ((decide (((i : Nat) : Int) < ((l.length : Nat) : Int))) = false → (Q (.exit 0) (mkS [] [])))) (fun r Q Post => by kernel_rfl) hr (fun r hθ hH hκ hN => ⟨(fun h0 => absurd ((dec_f (by omega) : decide (((i : Nat) : Int) < ((l.length : Nat) : Int)) = false).symm.trans h0) (by decide)), fun _ => ?_⟩)
    · exact hx () (by simp only [M_IndexFunc_Nt_L1, cond_true, cond_false, Sum.elim_inl, Sum.elim_inr]) 
  | cons e0 suf0 ih =>
    intro i  hs hi  Q hx hr
    obtain ⟨hx0, hlt0, hs'⟩ := drop_get hs
    refine LL_round ?_
    refine LW_mid2 hC tok tmo hO hF (.br (.ds (eNt e0) (.call (.d (.bool (p e0))) [] (.br (.nil) (.num ((i + 1 : Nat) : Int) (.nil))))) (.nil)) ⟨[0, 1, 7, 8], [], [], []⟩ ⟨[], [], [], []⟩ [.tmp 4] (fun r Q Post => ((decide (((i : Nat) : Int) < ((l.length : Nat) : Int))) = true → IdxS (l.map eNt) ((i : Nat) : Int) (eNt e0) ∧ CallF Tryd.prog C.l r 1 [.agg ((eNt e0).map .d)] [] (.d (.bool (p e0))) ∧ ((p e0) = true → (Post (.d (.int .i64 ((i : Nat) : Int))) [])) ∧ ((p e0) = false → WrapS .i64 (((i : Nat) : Int) + 1) ((i + 1 : Nat) : Int) ∧ (Q .normal (mkS [(0, .d (.list (l.map eNt))), (1, .fn (.yield 1) [] []), (7, .d (.int .i64 ((l.length : Nat) : Int))), (8, .d (.int .i64 ((i + 1 : Nat) : Int)))] [])))) ∧ ((decide (((i : Nat) : Int) < ((l.length : Nat) : Int))) = false → (Q (.exit 0) (mkS [] [])))) (fun r Q Post => by kernel_rfl) hr (fun r hθ hH hκ hN => ⟨fun _ => ⟨(idxS_at hx0 (fun _ => rfl)), (callF_of (congrFun hθ 1) (by rw [hN, hH]; exact hp e0 (List.mem_of_getElem? hx0)) (by kernel_rfl) (by kernel_rfl)), fun h2 => ?_, fun h2 => ⟨(wrap64 (by first | omega | (simp only [decide_eq_true_eq, decide_eq_false_iff_not, Bool.not_eq_true', Bool.not_eq_false', Decidable.not_not, Bool.or_eq_false_iff, Bool.and_eq_true] at *; omega)) (by first | omega | (simp only [decide_eq_true_eq, decide_eq_false_iff_not, Bool.not_eq_true', Bool.not_eq_false', Decidable.not_not, Bool.or_eq_false_iff, Bool.and_eq_true] at *; omega)) (by first | omega | (simp only [decide_eq_true_eq, decide_eq_false_iff_not, Bool.not_eq_true', Bool.not_eq_false', Decidable.not_not, Bool.or_eq_false_iff, Bool.and_eq_true] at *; omega))), ?_⟩⟩, (fun h0 => absurd ((dec_t (by omega) : decide (((i : Nat) : Int) < ((l.length : Nat) : Int)) = true).symm.trans h0) (by decide))⟩)
    · exact ⟨((i : Nat) : Int), by simp only [M_IndexFunc_Nt_L1, h2, cond_true, cond_false, Sum.elim_inl, Sum.elim_inr], rfl, rfl⟩
    · exact ih (i + 1)  hs' (by omega)  Q (fun a ha => hx a (by simp only [M_IndexFunc_Nt_L1, h2, cond_true, cond_false, Sum.elim_inl, Sum.elim_inr]; exact ha)) (fun τ hτ => hr τ (FQ_mono (fun y bs ⟨v, e1, e2⟩ => ⟨v, by simp only [M_IndexFunc_Nt_L1, h2, cond_true, cond_false, Sum.elim_inl, Sum.elim_inr]; exact e1, e2⟩) hτ))
set_option maxRecDepth 100000 in
theorem K_IndexFunc_Nt_b (C : Cx) (hC : CxOk C) (hO : C.outs = 0) (hF : C.fx = []) (l : List Nt) (p : Nt → Bool) (hp : ∀ x ∈ l, CloP Tryd.prog C.l C.no C.H0 (C.θ 1) [.agg ((eNt x).map .d)] (.d (.bool (p x)))) (hf_l : Fit (.list (l.map eNt))) (Post : AV → List Blk → Prop) (h : Post (.d (.int .i64 (M_IndexFunc_Nt l p))) []) : LW Tryd.prog 19 C (bodyOf Tryd.f100) (mkS (zipS 0 [.d (.list (l.map eNt)), .fn (.yield 1) [] []]) []) (FQ (lkT tl) [.tmp 4] 0 Post) := by
  refine LW_seq' (cAt [0] (bodyOf Tryd.f100)) (cAt [1] (bodyOf Tryd.f100)) (by kernel_rfl) ?_
  refine LW_mid2 hC tok tmo hO hF (.nil) ⟨[0, 1], [], [], []⟩ ⟨[], [], [], []⟩ [.tmp 4] (fun r Q Post => (Q .normal (mkS [(0, .d (.list (l.map eNt))), (1, .fn (.yield 1) [] [])] []))) (fun r Q Post => by kernel_rfl) (fun _ h => h) (fun r hθ hH hκ hN => ?_)
  · refine LW_seq' (cAt [1, 0] (bodyOf Tryd.f100)) (cAt [1, 1] (bodyOf Tryd.f100)) (by kernel_rfl) ?_
    refine LW_seq' (cAt [1, 0, 0] (bodyOf Tryd.f100)) (cAt [1, 0, 1] (bodyOf Tryd.f100)) (by kernel_rfl) ?_
    refine LW_mid2 hC tok tmo hO hF (.num ((l.length : Nat) : Int) (.nil)) ⟨[0, 1, 7, 8], [], [], []⟩ ⟨[], [], [], []⟩ [.tmp 4] (fun r Q Post => EqI ((l.map eNt).length : Nat) ((l.length : Nat) : Int) ∧ (Q .normal (mkS [(0, .d (.list (l.map eNt))), (1, .fn (.yield 1) [] []), (7, .d (.int .i64 ((l.length : Nat) : Int))), (8, .d (.int .i64 0))] []))) (fun r Q Post => by kernel_rfl) (fun _ h => h) (fun r hθ hH hκ hN => ⟨(eqI_len _ _), ?_⟩)
    · refine LW_block' 0 (cAt [1, 0, 1, 0] (bodyOf Tryd.f100)) (by kernel_rfl) ?_
      refine LW_loop' (cAt [1, 0, 1, 0, 0] (bodyOf Tryd.f100)) (by kernel_rfl) ?_
      refine K_IndexFunc_Nt_L1 C hC hO hF l p hp hf_l   l 0  rfl (Nat.zero_le _)  _ ?_ ?_
      · intro a0 ha0  
        have hlen0 : l.length < 2147483648 := hf_l.len
        refine LW_fin2 hC tok tmo hO (.nil) [.tmp 4] (fun r Post => (Post (.d (.int .i64 (-1))) [])) (fun r Post => by kernel_rfl) (fun r hθ hH hκ hN => ?_)
        · have hh := h
          simp only [M_IndexFunc_Nt, ha0, cond_true, cond_false, Sum.elim_inl, Sum.elim_inr] at hh
          exact hh
      · exact fun τ hτ => FQ_mono (fun y bs ⟨v, e1, e2⟩ => by obtain ⟨e2, e3⟩ := e2; subst e2; subst e3; have hh := h; simp only [M_IndexFunc_Nt, cond_true, cond_false, Sum.elim_inl, Sum.elim_inr, e1] at hh; exact hh) hτ
theorem K_IndexFunc_Nt (ℓ : Nat) (ℋ : Hp) (c1 : AV) (l : List Nt) (p : Nt → Bool) (hp : ∀ x ∈ l, CloP Tryd.prog ℓ (fun _ => False) ℋ c1 [.agg ((eNt x).map .d)] (.d (.bool (p x)))) (hf_l : Fit (.list (l.map eNt))) (Post : AV → Hp → Prop) (h : Post (.d (.int .i64 (M_IndexFunc_Nt l p))) ℋ) : ACall Tryd.prog 100 ℓ [.d (.list (l.map eNt)), c1] ℋ Post :=
  acall_pure (n := 19) [.tmp 4] (bodyOf Tryd.f100) (fun j => if j = 1 then c1 else .top) [.d (.list (l.map eNt)), .fn (.yield 1) [] []] Tryd.func100 (by kernel_rfl) (by kernel_rfl) Tryd.ntmps100 (by kernel_rfl) (by simp) tok (by kernel_rfl) (fun B => K_IndexFunc_Nt_b (cxP ℓ (fun j => if j = 1 then c1 else .top) ℋ B) (cxOk_pure ℓ B _ ℋ) rfl rfl l p hp hf_l (fun y _ => Post y ℋ) h)
def M_note_index (l : List Nt) (name : ByteArray) : Int := (M_IndexFunc_Nt l (fun z => M_note_index_1 z name))
set_option maxRecDepth 100000 in
theorem K_note_index_b (C : Cx) (hC : CxOk C) (hO : C.outs = 0) (hF : C.fx = []) (l : List Nt) (name : ByteArray) (hf_l : Fit (.list (l.map eNt))) (Post : AV → List Blk → Prop) (h : Post (.d (.int .i64 (M_note_index l name))) []) : LW Tryd.prog 8 C (bodyOf Tryd.f83) (mkS (zipS 0 [.d (.list (l.map eNt)), .d (.str name)]) []) (FQ (lkT tl) [.tmp 4] 0 Post) := by
  refine LW_fin2 hC tok tmo hO (.call (.d (.int .i64 (M_IndexFunc_Nt l (fun z => M_note_index_1 z name)))) [(1, 3)] (.nil)) [.tmp 4] (fun r Post => CallS Tryd.prog C.l r 100 ([] ++ [.d (.list (l.map eNt)), .fn (.func 101) [] [.ptr (1, 3) 1 0]] ++ []) [((1, 3), ⟨1, true, 9, 1, [.d (.str name)]⟩)] (.d (.int .i64 (M_IndexFunc_Nt l (fun z => M_note_index_1 z name)))) ∧ (Post (.d (.int .i64 (M_IndexFunc_Nt l (fun z => M_note_index_1 z name)))) [])) (fun r Post => by kernel_rfl) (fun r hθ hH hκ hN => ⟨(callS_H (xs' := [.d (.list (l.map eNt)), .fn (.func 101) [] [.ptr (r.κ (1, 3)) (r.γ (1, 3) + 1) 0]]) (by kernel_rfl) (by kernel_rfl) (fun H' hb ho => K_IndexFunc_Nt _ H' (.fn (.func 101) [] [.ptr (r.κ (1, 3)) (r.γ (1, 3) + 1) 0]) l (fun z => M_note_index_1 z name) (fun z hz => clo_cap (b := ⟨r.γ (1, 3) + 1, true, 9, 1, [.d (.str name)]⟩) (by rw [hκ, hC.own]; exact Nat.le_refl _) id ((hb ((1, 3), ⟨1, true, 9, 1, [.d (.str name)]⟩) (by simp) rfl).trans (by kernel_rfl)) (fun l' H'' hk hc => K_note_index_1 l' H'' _ _ hk z name hc  _ ⟨rfl, rfl⟩)) hf_l _ ⟨rfl, rfl⟩)), ?_⟩)
  · have hh := h
    simp only [M_note_index, cond_true, cond_false, Sum.elim_inl, Sum.elim_inr] at hh
    exact hh
theorem K_note_index (ℓ : Nat) (ℋ : Hp)  (l : List Nt) (name : ByteArray)  (hf_l : Fit (.list (l.map eNt))) (Post : AV → Hp → Prop) (h : Post (.d (.int .i64 (M_note_index l name))) ℋ) : ACall Tryd.prog 83 ℓ [.d (.list (l.map eNt)), .d (.str name)] ℋ Post :=
  acall_pure (n := 8) [.tmp 4] (bodyOf Tryd.f83) (fun _ => .top) [.d (.list (l.map eNt)), .d (.str name)] Tryd.func83 (by kernel_rfl) (by kernel_rfl) Tryd.ntmps83 (by kernel_rfl) (by simp) tok (by kernel_rfl) (fun B => K_note_index_b (cxP ℓ (fun _ => .top) ℋ B) (cxOk_pure ℓ B _ ℋ) rfl rfl l name hf_l (fun y _ => Post y ℋ) h)
end Go.Proofs.YtdiibhcdfmeagaaDoor
