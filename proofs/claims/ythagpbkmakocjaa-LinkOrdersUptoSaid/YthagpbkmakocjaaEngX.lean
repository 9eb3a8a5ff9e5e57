/-
  Reckoning by the kernel, part X: control and leaves, sound.
-/
import Derived.Test.YthagpbkmakocjaaEngW
namespace Go.Eng
set_option linter.all false
open Go Go.RowKit

section
variable {P : Program} {T : Nat → Option TI} {n : Nat} {C : Cx} {τ σ : St} {Q : Exit → St → Prop}

theorem Wk.refl (σ : St) : Wk n C σ σ := fun _ _ h => h
theorem Wk.trans {σ σ' σ'' : St} (h : Wk n C σ σ') (k : Wk n C σ' σ'') : Wk n C σ σ'' := fun a w hR => k a w (h a w hR)
theorem R.weaken {l : Nat} {B : Base} {s s' : Nat → AV} {H : Hp} {act : Act} {w : World} (h : R l n B ⟨s, H⟩ act w) (hs : ∀ j, s' j = s j ∨ s' j = .top) : R l n B ⟨s', H⟩ act w := by
  obtain ⟨m, S, hO, hn, hdf, hS, hex⟩ := h.un
  refine ⟨m, S, hO, hn, hdf, fun i => ?_, hex⟩
  show RepA w S H m (l + 1) (s' i) _
  rcases hs i with e | e
  · rw [e]; exact hS i
  · rw [e]; exact .top _

theorem Is.mono {Φ Ψ : St → Prop} (h : Is n C Φ σ) (hk : ∀ τ, Φ τ → Ψ τ) : Is n C Ψ σ := by
  obtain ⟨γ, τ, σ', h0, h1, h2, h3⟩ := h; exact ⟨γ, τ, σ', h0, hk _ h1, h2, h3⟩
theorem AWp.weak {c : Code} {QQ : Exit → St → Prop} {σ' : St} (h : AWp P C.l n C.B c QQ σ') (hw : Wk n C σ σ') : AWp P C.l n C.B c QQ σ := fun a w hR => h a w (hw a w hR)
theorem ALoop.weak {c : Code} {QQ : Exit → St → Prop} {σ' : St} (h : ALoop P C.l n C.B c QQ σ') (hw : Wk n C σ σ') : ALoop P C.l n C.B c QQ σ := fun a w hR => h a w (hw a w hR)

theorem LW.mono {c : Code} {Q' : Exit → St → Prop} (h : LW P n C c τ Q) (hk : ∀ e τ, Q e τ → Q' e τ) : LW P n C c τ Q' := fun γ σ hg hG => awp_mono (h γ σ hg hG) fun e σ' hi => hi.mono (hk e)

theorem LW_seq {x y : Code} (h : LW P n C x τ (fun e τ' => match e with | .normal => LW P n C y τ' Q | e => Q e τ')) : LW P n C (.seq x y) τ Q := by
  intro γ σ hg hG
  refine awp_seq' (awp_mono (h γ σ hg hG) fun e σ' hi => ?_)
  cases e with
  | normal =>
    obtain ⟨γ', τ', σ'', h0, h1, h2, h3⟩ := hi
    exact AWp.weak (h1 γ' σ'' h0 h2) h3
  | _ => exact hi
theorem LW_block {id : Nat} {c : Code} (h : LW P n C c τ (fun e τ' => match e with | .exit i => if i = id then Q .normal τ' else Q (.exit i) τ' | e => Q e τ')) : LW P n C (.block id c) τ Q := by
  intro γ σ hg hG
  refine awp_block (awp_mono (h γ σ hg hG) fun e σ' hi => ?_)
  cases e with
  | exit i =>
    unfold blockQ
    simp only at hi ⊢
    split
    · rename_i he; exact hi.mono fun τ' h => by rw [if_pos he] at h; exact h
    · rename_i he; exact hi.mono fun τ' h => by rw [if_neg he] at h; exact h
  | _ => exact hi
theorem LW_cond {c : Operand} {x y : Code} {b : Bool} (hc : ev τ.s c = .d (.bool b)) (h1 : b = true → LW P n C x τ Q) (h2 : b = false → LW P n C y τ Q) : LW P n C (.cond c x y) τ Q := by
  intro γ σ hg hG
  have he : ev σ.s c = .d (.bool b) := by
    rw [ev_ren (c := []) hG satC_nil (by cases c <;> rfl), hc]; simp [ren]
  exact awp_cond he (fun e => h1 e γ σ hg hG) (fun e => h2 e γ σ hg hG)
theorem LW_loop {c : Code} (h : LL P n C c τ Q) : LW P n C (.loop c) τ Q := by
  intro γ σ hg hG a w hR b k cs
  obtain ⟨e, a', w', h1, h2⟩ := h γ σ hg hG a w hR b k cs
  exact ⟨e, a', w', h1, .of_steps (.one step_loop) h2⟩
theorem LL_round {c : Code} (h : LW P n C c τ (fun e τ' => match e with | .normal => LL P n C c τ' Q | e => Q e τ')) : LL P n C c τ Q := by
  intro γ σ hg hG a w hR b k cs
  obtain ⟨e, a₁, w₁, ⟨σ₁, hq, hR₁⟩, harr⟩ := h γ σ hg hG a w hR b (.inLoop c :: k) cs
  cases e with
  | normal =>
    obtain ⟨γ', τ', σ'', h0, h1, h2, h3⟩ := hq
    obtain ⟨e₂, a₂, w₂, hq₂, harr₂⟩ := h1 γ' σ'' h0 h2 a₁ w₁ (h3 _ _ hR₁) b k cs
    exact ⟨e₂, a₂, w₂, hq₂, .of_steps (Steps.trans harr (.one step_inLoop)) harr₂⟩
  | exit id => exact ⟨_, a₁, w₁, ⟨σ₁, hq, hR₁⟩, .pass (x := .inLoop c) rfl (fun _ _ => .inl (by simp)) harr⟩
  | goto id => exact ⟨_, a₁, w₁, ⟨σ₁, hq, hR₁⟩, .pass (x := .inLoop c) rfl (fun _ _ => .inl (by simp)) harr⟩
  | ret => exact ⟨_, a₁, w₁, ⟨σ₁, hq, hR₁⟩, .pass (x := .inLoop c) rfl (fun _ _ => .inl (by simp)) harr⟩
  | panic ch => exact ⟨_, a₁, w₁, ⟨σ₁, hq, hR₁⟩, .pass (x := .inLoop c) rfl (fun _ _ => .inl (by simp)) harr⟩
  | outgrown => exact ⟨_, a₁, w₁, ⟨σ₁, hq, hR₁⟩, .pass (x := .inLoop c) rfl (fun _ _ => .inl (by simp)) harr⟩

/-! ### Leaves -/
theorem Is.of {γ : Key → Nat} {Φ : St → Prop} (hg : C.G γ) (hG : RG (C.r γ) C.l C.outs [] τ σ) (h : Φ τ) : Is n C Φ σ := ⟨γ, τ, σ, hg, h, hG, Wk.refl σ⟩

theorem keyB_eq {a b : Key} : keyB a b = true ↔ a = b := by
  obtain ⟨a1, a2⟩ := a
  obtain ⟨b1, b2⟩ := b
  simp [keyB]
theorem lkS_slots {H : Hp} {s : Nat → AV} : ∀ (ls : List Nat) (j : Nat), lkS (slotsOf H s ls) j = nzX H (s j) ∨ lkS (slotsOf H s ls) j = .top
  | [], j => .inr rfl
  | i :: r, j => by
    simp only [slotsOf, lkS]
    split
    · rename_i h; rw [Nat.eq_of_beq_eq_true h]; exact .inl rfl
    · exact lkS_slots r j

/-- generations counted from here on -/
def rebase (γ : Key → Nat) (H : Hp) : Key → Nat := fun k => γ k + (H k).g

mutual
theorem nzO_ren {γ : Key → Nat} {H : Hp} : ∀ {x y : AV}, nzO H x = some y → ren (C.r (rebase γ H)) y = ren (C.r γ) x
  | .ref k g off m, y, h => by
    simp only [nzO] at h
    split at h
    · rename_i hl; cases h; obtain ⟨h1, _⟩ := liveB_eq hl; subst h1; simp [ren, Cx.r, rebase]
    · cases h
  | .ptr k g off, y, h => by
    simp only [nzO] at h
    split at h
    · rename_i hl; cases h; obtain ⟨h1, _⟩ := liveB_eq hl; subst h1; simp [ren, Cx.r, rebase]
    · cases h
  | .fn f xs ys, y, h => by
    simp only [nzO] at h
    split at h
    · rename_i xs' ys' h1 h2
      cases h
      have e1 := nzOs_ren (γ := γ) h1
      have e2 := nzOs_ren (γ := γ) h2
      cases f <;> simp only [ren, e1, e2] <;> rfl
    · cases h
  | .agg xs, y, h => by
    simp only [nzO] at h
    split at h
    · rename_i xs' h1; cases h; simp only [ren, nzOs_ren (γ := γ) h1]
    · cases h
  | .tup xs, y, h => by
    simp only [nzO] at h
    split at h
    · rename_i xs' h1; cases h; simp only [ren, nzOs_ren (γ := γ) h1]
    · cases h
  | .top, y, h => by simp only [nzO] at h; cases h; simp [ren]
  | .d x, y, h => by simp only [nzO] at h; cases h; simp [ren]
  | .e0, y, h => by simp only [nzO] at h; cases h; simp [ren]
  | .p x, y, h => by simp only [nzO] at h; cases h; simp [ren]
  | .iptr cs off, y, h => by simp only [nzO] at h; cases h; simp [ren]
theorem nzOs_ren {γ : Key → Nat} {H : Hp} : ∀ {xs ys : List AV}, nzOs H xs = some ys → rens (C.r (rebase γ H)) ys = rens (C.r γ) xs
  | [], ys, h => by simp only [nzOs] at h; cases h; simp [rens]
  | x :: xs, ys, h => by
    simp only [nzOs] at h
    split at h
    · rename_i x' xs' h1 h2; cases h; simp only [rens, nzO_ren (γ := γ) h1, nzOs_ren (γ := γ) h2]
    · cases h
end

/-- what is known of the blocks that are kept -/
def BOk (C : Cx) (γ : Key → Nat) (H : Hp) (hs : List (Key × Blk)) : Prop :=
  (∀ k, (lkH hs k).g = 0) ∧ ∀ k, (lkH hs k).live = true → (H k).live = true ∧ (lkH hs k).e = (H k).e ∧ (lkH hs k).sz = (H k).sz ∧ rens (C.r (rebase γ H)) (lkH hs k).cells = rens (C.r γ) (H k).cells
theorem flatC_rens {r : Ren} {cs : List AV} (h : FlatC cs) : rens r cs = cs := rens_flat (List.all_eq_true.2 h)
theorem BOk.cons {γ : Key → Nat} {H : Hp} {hs : List (Key × Blk)} (h : BOk C γ H hs) {k : Key} {cs : List AV} (hl : (H k).live = true) (hc : rens (C.r (rebase γ H)) cs = rens (C.r γ) (H k).cells) : BOk C γ H ((k, ⟨0, true, (H k).e, (H k).sz, cs⟩) :: hs) := by
  refine ⟨fun q => ?_, fun q hq => ?_⟩
  · simp only [lkH]
    split
    · rfl
    · exact h.1 q
  · simp only [lkH] at hq ⊢
    split at hq
    · rename_i he
      have he := keyB_eq.1 he
      subst he
      exact ⟨hl, rfl, rfl, hc⟩
    · exact h.2 q hq
theorem blks_sound {γ : Key → Nat} {H : Hp} : ∀ (ks : List (Key × Bool)) {K : List (Key × Blk) → Prop}, blksOf H ks K → ∃ hs, K hs ∧ BOk C γ H hs
  | [], K, h => ⟨[], h, fun k => rfl, fun k hk => by simp [lkH, dead] at hk⟩
  | (k, fl) :: r, K, h => by
    simp only [blksOf] at h
    split at h
    · exact blks_sound r h
    · rename_i hl
      split at h
      · obtain ⟨hs, h1, h2⟩ := blks_sound (γ := γ) r h.2
        exact ⟨_, h1, h2.cons hl (by rw [flatC_rens h.1, flatC_rens h.1])⟩
      · split at h
        · rename_i cs hcs
          obtain ⟨hs, h1, h2⟩ := blks_sound (γ := γ) r h
          exact ⟨_, h1, h2.cons hl (nzOs_ren hcs)⟩
        · exact h.elim

theorem gz_at {H : Hp} : ∀ {fx : List Nat}, gz H fx = true → ∀ i ∈ fx, (H (0, i)).g = 0
  | i :: r, h, j, hj => by
    simp only [gz, Bool.and_eq_true] at h
    rcases List.mem_cons.1 hj with rfl | hj
    · exact Nat.eq_of_beq_eq_true h.1
    · exact gz_at h.2 j hj
theorem isE0_eq {x : AV} (h : isE0 x = true) : x = .e0 := by cases x <;> first | rfl | cases h

theorem adopt_sound (hC : CxOk C) {Φ : St → Prop} {γ : Key → Nat} : ∀ (ad : List (Nat × Nat × TypeId × Nat)) (τ σ : St), adoptT ad τ Φ → RG (C.r γ) C.l C.outs [] τ σ → ∃ τ' σ', Φ τ' ∧ RG (C.r γ) C.l C.outs [] τ' σ' ∧ Wk n C σ σ'
  | [], τ, σ, h, hG => ⟨τ, σ, h, hG, Wk.refl σ⟩
  | (j, d, e, sz) :: r, τ, σ, h, hG => by
    simp only [adoptT] at h
    split at h
    · rename_i he hl
      have hsj : σ.s j = .e0 := by rw [(hG.s j).1 satC_nil, isE0_eq he]; simp [ren]
      have h1 := hG.put (e := j) (ch := []) rfl rfl (v := .ref (1, d) ((τ.H (1, d)).g + 1) 0 0) (y := .ref (C.l + 1, d) ((σ.H (C.l + 1, d)).g + 1) 0 0) (fun _ => by rw [hG.g]; simp only [ren]; rw [show (C.r γ).κ (1, d) = (C.l + 1, d) from hC.own d, Nat.add_assoc]) (fun hn => absurd satC_nil hn)
      have h2 := RG.updH (hC.ren γ) h1 (1, d) ⟨(τ.H (1, d)).g + 1, true, e, sz, []⟩ rfl (.inl rfl)
      have e1 : renB (C.r γ) (1, d) ⟨(τ.H (1, d)).g + 1, true, e, sz, []⟩ = ⟨(σ.H (C.l + 1, d)).g + 1, true, e, sz, []⟩ := by
        simp only [renB, hG.g, rens, Nat.add_assoc]
      rw [e1, show (C.r γ).κ (1, d) = (C.l + 1, d) from hC.own d] at h2
      have h3 : RG (C.r γ) C.l C.outs [] ⟨upd τ.s j (.ref (1, d) ((τ.H (1, d)).g + 1) 0 0), updH τ.H (1, d) ⟨(τ.H (1, d)).g + 1, true, e, sz, []⟩⟩ ⟨upd σ.s j (.ref (C.l + 1, d) ((σ.H (C.l + 1, d)).g + 1) 0 0), updH σ.H (C.l + 1, d) ⟨(σ.H (C.l + 1, d)).g + 1, true, e, sz, []⟩⟩ :=
        ⟨fun i => ⟨fun _ => (h2.s i).1 (by rw [lk_cons]; split <;> exact satC_nil), fun hn => absurd satC_nil hn⟩, h2.h, h2.g, h2.go, h2.k, h2.o⟩
      obtain ⟨τ', σ', k1, k2, k3⟩ := adopt_sound hC r _ _ h h3
      refine ⟨τ', σ', k1, k2, Wk.trans (fun act w hR => ?_) k3⟩
      obtain ⟨s, H⟩ := σ
      exact R.adopt (e := e) (sz := sz) hR (C.l + 1, d) rfl _ (Nat.lt_succ_self _) hsj
    · exact h.elim
    · exact adopt_sound hC r τ σ h hG

theorem ze_sound {γ : Key → Nat} : ∀ (ze : List Nat) (τ σ : St), RG (C.r γ) C.l C.outs [] τ σ → ∃ σ', RG (C.r γ) C.l C.outs [] (zeT ze τ) σ' ∧ Wk n C σ σ'
  | [], τ, σ, hG => ⟨σ, hG, Wk.refl σ⟩
  | j :: r, τ, σ, hG => by
    simp only [zeT]
    split
    · rename_i he
      have hsj : σ.s j = .e0 := by rw [(hG.s j).1 satC_nil, isE0_eq he]; simp [ren]
      have h1 := hG.put (e := j) (ch := []) rfl rfl (v := .d (.list [])) (y := .d (.list [])) (fun _ => by simp [ren]) (fun hn => absurd satC_nil hn)
      have h3 : RG (C.r γ) C.l C.outs [] ⟨upd τ.s j (.d (.list [])), τ.H⟩ ⟨upd σ.s j (.d (.list [])), σ.H⟩ :=
        ⟨fun i => ⟨fun _ => (h1.s i).1 (by rw [lk_cons]; split <;> exact satC_nil), fun hn => absurd satC_nil hn⟩, h1.h, h1.g, h1.go, h1.k, h1.o⟩
      obtain ⟨σ', k1, k2⟩ := ze_sound r _ _ h3
      refine ⟨σ', k1, Wk.trans (fun act w hR => ?_) k2⟩
      obtain ⟨s, H⟩ := σ
      obtain ⟨m, S, hO, hn, hdf, hS, hex⟩ := hR.un
      refine ⟨m, S, hO, hn, hdf, fun i => ?_, hex⟩
      show RepA w S H m (C.l + 1) (upd s j (.d (.list [])) i) _
      unfold upd
      by_cases hi : i = j
      · subst hi
        rw [if_pos rfl]
        have := hS i
        simp only at hsj
        rw [hsj] at this
        exact this.e0_d
      · rw [if_neg hi]; exact hS i
    · exact ze_sound r τ σ hG

theorem leaf_sound (hC : CxOk C) {Φ : St → Prop} {γ : Key → Nat} {f : Lf} (h : leafP C.fx f τ Φ) (hg : C.G γ) (hG : RG (C.r γ) C.l C.outs [] τ σ) : Is n C Φ σ := by
  obtain ⟨σ₀, hG0, hw0⟩ := ze_sound (n := n) f.ze τ σ hG
  obtain ⟨τ₁, σ₁, h1, h2, h3⟩ := adopt_sound (n := n) hC f.ad (zeT f.ze τ) σ₀ h hG0
  replace h3 := Wk.trans hw0 h3
  split at h1
  case h_2 => exact h1.elim
  rename_i hgz
  obtain ⟨hs, k1, k2⟩ := blks_sound (C := C) (γ := γ) f.ks h1
  refine ⟨rebase γ τ₁.H, _, ⟨fun j => ren (C.r (rebase γ τ₁.H)) (lkS (slotsOf τ₁.H τ₁.s f.ls) j), σ₁.H⟩, hC.G γ _ (fun i hi => by unfold rebase; rw [gz_at hgz i hi]; rfl) hg, k1, ⟨fun j => ⟨fun _ => rfl, fun hn => absurd satC_nil hn⟩, fun k hk => ?_, fun d => ?_, fun i hi => ?_, fun k hk => ?_, h2.o⟩, h3.trans fun act w hR => ?_⟩
  · obtain ⟨b1, b3, b4, b5⟩ := k2.2 k hk
    have b2 := k2.1 k
    show σ₁.H (C.κ k) = _
    have := h2.h k b1
    rw [show (C.r γ).κ k = C.κ k from rfl] at this
    rw [this]
    simp only [renB]
    show _ = Blk.mk (rebase γ τ₁.H k + (lkH hs k).g) true (lkH hs k).e (lkH hs k).sz (rens (C.r (rebase γ τ₁.H)) (lkH hs k).cells)
    rw [b2, b3, b4, b5]
    rfl
  · show (σ₁.H (C.l + 1, d)).g = rebase γ τ₁.H (1, d) + (lkH hs (1, d)).g
    have e0 : (lkH hs (1, d)).g = 0 := k2.1 _
    rw [e0, h2.g]
    rfl
  · show (σ₁.H (C.κ (0, i))).g = rebase γ τ₁.H (0, i) + (lkH hs (0, i)).g
    have e0 : (lkH hs (0, i)).g = 0 := k2.1 _
    rw [e0]
    exact h2.go i hi
  · exact h2.k k (k2.2 k hk).1
  · obtain ⟨s, H⟩ := σ₁
    refine R.weaken hR fun j => ?_
    rcases lkS_slots (H := τ₁.H) (s := τ₁.s) f.ls j with e | e
    · simp only [e]
      unfold nzX
      split
      · rename_i v hv
        left
        rw [nzO_ren (γ := γ) hv]
        exact ((h2.s j).1 satC_nil).symm
      · right; simp [ren]
    · right; simp only [e]; simp [ren]
end
end Go.Eng
