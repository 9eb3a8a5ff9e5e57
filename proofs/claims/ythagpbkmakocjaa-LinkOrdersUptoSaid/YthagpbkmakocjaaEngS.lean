/-
  Reckoning by the kernel, part S: one operation and regions, sound.
-/
import Derived.Test.YthagpbkmakocjaaEngR
namespace Go.Eng
set_option linter.all false
open Go Go.RowKit

section
variable {P : Program} {T : Nat → Option TI} {r : Ren} {l n outs : Nat} {B : Base} {env : Env} {τ σ : St} {a : AT} {o : Oper}

/-- a slice without room, as a block of its own -/
theorem R.adopt {act : Act} {w : World} {d : Nat} {e : TypeId} {sz : Nat} {s : Nat → AV} {H : Hp} (h : R l n B ⟨s, H⟩ act w) (k : Key) (hk : k.1 = l + 1) (g : Nat) (hgk : (H k).g < g) (hd : s d = .e0) : R l n B ⟨upd s d (.ref k g 0 0), updH H k ⟨g, true, e, sz, []⟩⟩ act w := by
  obtain ⟨m, S, hO, hn, hdf, hS, hex⟩ := h.un
  have hext : Ext (l + 1) H m S w (updH H k ⟨g, true, e, sz, []⟩) (updM m k ⟨0, 0, 0⟩) S w := by
    refine ⟨fun _ h => h, fun _ _ => rfl, fun q hq => ?_, fun q hq hg hl => ?_, rfl, rfl, rfl, Nat.le_refl _⟩
    · by_cases hqk : q = k
      · subst hqk; rw [updH_same]; simp only; omega
      · rw [updH_ne _ _ hqk]; exact Nat.le_refl _
    · by_cases hqk : q = k
      · subst hqk; rw [updH_same] at hg; simp only at hg; omega
      · rw [updH_ne _ _ hqk] at hl ⊢; rw [updM_ne _ _ hqk]; exact ⟨hl, rfl, rfl⟩
  have hO' : Ok (l + 1) (updH H k ⟨g, true, e, sz, []⟩) (updM m k ⟨0, 0, 0⟩) S w := by
    refine ⟨hO.sub, fun q hq hl hz => ?_, fun q hq hl hz => ?_, fun q q' hq hq' hl hl' hz hz' he => ?_, fun q hq hl hz => ?_⟩
    · by_cases hqk : q = k
      · subst hqk; rw [updH_same]
      · rw [updH_ne _ _ hqk] at hl ⊢; rw [updM_ne _ _ hqk] at hz; exact hO.empty q hq hl hz
    · by_cases hqk : q = k
      · subst hqk; rw [updM_same] at hz; exact absurd rfl hz
      · rw [updH_ne _ _ hqk] at hl; rw [updM_ne _ _ hqk] at hz ⊢; exact hO.fresh q hq hl hz
    · have h1 : q ≠ k := by rintro rfl; rw [updM_same] at hz; exact hz rfl
      have h2 : q' ≠ k := by rintro rfl; rw [updM_same] at hz'; exact hz' rfl
      rw [updH_ne _ _ h1] at hl; rw [updH_ne _ _ h2] at hl'
      rw [updM_ne _ _ h1] at hz he; rw [updM_ne _ _ h2] at hz' he
      exact hO.inj q q' hq hq' hl hl' hz hz' he
    · have h1 : q ≠ k := by rintro rfl; rw [updM_same] at hz; exact hz rfl
      rw [updH_ne _ _ h1] at hl ⊢; rw [updM_ne _ _ h1] at hz ⊢
      obtain ⟨C, g1, g2, g3, g4⟩ := hO.blk q hq hl hz
      exact ⟨C, g1, g2, g3, fun i x v hi hv => ⟨(g4 i x v hi hv).1, (g4 i x v hi hv).2.ext hext hq⟩⟩
  refine ⟨_, _, hO', hn, hdf, fun i => ?_, hex.trans (hext.mono (by omega))⟩
  simp only [upd]
  by_cases hi : i = d
  · subst hi
    rw [if_pos rfl]
    have := hS i
    rw [hd] at this
    generalize act.tmps.getD i Go.undef = v at this ⊢
    cases this with
    | e0 oa =>
      have := RepA.refL (w := w) (S := S) (H := updH H k ⟨g, true, e, sz, []⟩) (m := updM m k ⟨0, 0, 0⟩) (l := l + 1) k 0 0 oa (by omega) (by rw [updH_same]) (by rw [updM_same]; simp) (fun h => by rw [updM_same] at h; simp at h)
      rw [updH_same, updM_same] at this
      exact this
  · rw [if_neg hi]
    exact (hS i).ext hext (Nat.le_refl _)

/-- a key of the frame's own, or one that came in and may be written -/
def OutK (r : Ren) (outs : Nat) (k : Key) : Prop := k.1 = 1 ∨ (k.1 = 0 ∧ k.2 < outs ∧ r.no (r.κ k))
theorem RenOk.ne (hr : RenOk r l outs) {q k : Key} (hq : q.1 = 1 ∨ (q.1 = 0 ∧ q.2 < outs)) (hk : k.1 = 1 ∨ (k.1 = 0 ∧ k.2 < outs)) (hqk : q ≠ k) : r.κ q ≠ r.κ k := fun he => by
  obtain ⟨q1, q2⟩ := q
  obtain ⟨k1, k2⟩ := k
  simp only at hq hk
  rcases hq with rfl | ⟨rfl, h1⟩ <;> rcases hk with rfl | ⟨rfl, h2⟩
  · rw [hr.own, hr.own] at he; simp at he; exact hqk (by rw [he])
  · rw [hr.own] at he; have := hr.out _ h2; rw [← he] at this; simp at this; omega
  · rw [hr.own] at he; have := hr.out _ h1; rw [he] at this; simp at this; omega
  · exact hqk (by rw [hr.inj _ _ h1 h2 he])
theorem OutK.lk {k : Key} (h : OutK r outs k) : k.1 = 1 ∨ (k.1 = 0 ∧ k.2 < outs) := by
  rcases h with h | ⟨h1, h2, _⟩
  · exact .inl h
  · exact .inr ⟨h1, h2⟩
/-- a block is written, or let go of -/
theorem RG.updK (hr : RenOk r l outs) (h : RG r l outs env τ σ) (k : Key) (b b' : Blk) (hb : b.live = true → b' = renB r k b) (hg : b'.g = r.γ k + b.g) (hk : OutK r outs k) :
    RG r l outs env ⟨τ.s, Go.Eng.updH τ.H k b⟩ ⟨σ.s, Go.Eng.updH σ.H (r.κ k) b'⟩ := by
  have hlk := hk.lk
  refine ⟨h.s, fun q hq => ?_, fun d => ?_, fun i hi => ?_, fun q hq => ?_, fun q hq hn => ?_⟩
  · simp only at hq ⊢
    by_cases hqk : q = k
    · subst hqk; rw [updH_same] at hq ⊢; rw [updH_same]; exact hb hq
    · rw [updH_ne _ _ hqk] at hq ⊢; rw [updH_ne _ _ (hr.ne (h.k _ hq) hlk hqk)]; exact h.h q hq
  · simp only
    by_cases hdk : ((1, d) : Key) = k
    · subst hdk; rw [updH_same, hr.own, updH_same]; exact hg
    · have e2 : ((l + 1, d) : Key) ≠ r.κ k := by rw [← hr.own d]; exact hr.ne (.inl rfl) hlk hdk
      rw [updH_ne _ _ hdk, updH_ne _ _ e2]
      exact h.g d
  · simp only
    by_cases hdk : ((0, i) : Key) = k
    · subst hdk; rw [updH_same, updH_same]; exact hg
    · rw [updH_ne _ _ hdk, updH_ne _ _ (hr.ne (.inr ⟨rfl, hi⟩) hlk hdk)]
      exact h.go i hi
  · simp only at hq
    by_cases hqk : q = k
    · subst hqk; exact hlk
    · rw [updH_ne _ _ hqk] at hq; exact h.k q hq
  · simp only
    have e2 : q ≠ r.κ k := by
      rintro rfl
      rcases hk with hk | ⟨_, _, hk⟩
      · obtain ⟨k1, k2⟩ := k
        simp only at hk
        subst hk
        rw [hr.own] at hq
        simp at hq
        omega
      · exact hn hk
    rw [updH_ne _ _ e2]
    exact h.o q hq hn
theorem RG.updH (hr : RenOk r l outs) (h : RG r l outs env τ σ) (k : Key) (b : Blk) (hb : b.live = true) (hk : OutK r outs k) :
    RG r l outs env ⟨τ.s, Go.Eng.updH τ.H k b⟩ ⟨σ.s, Go.Eng.updH σ.H (r.κ k) (renB r k b)⟩ := RG.updK hr h k b _ (fun _ => rfl) rfl hk
theorem wrK_of (hr : RenOk r l outs) (h : RG r l outs env τ σ) {k : Key} (hl : (τ.H k).live = true) {vs : List AV} {A : Prop} (hw : wrK r k vs A) : A ∧ OutK r outs k ∧ ((r.κ k).1 = l + 1 ∨ (rens r vs).all (AV.low (r.κ k).1) = true) := by
  unfold wrK at hw
  split at hw
  · rename_i hk
    have hk := Nat.eq_of_beq_eq_true hk
    obtain ⟨k1, k2⟩ := k
    simp only at hk
    subst hk
    exact ⟨hw, .inl rfl, .inl (by rw [hr.own])⟩
  · obtain ⟨⟨h1, h2⟩, h3, h4⟩ := hw
    rcases h.k k hl with h5 | ⟨_, h5⟩
    · omega
    · exact ⟨h4, .inr ⟨h1, h5, h2⟩, .inr h3⟩

theorem satC_nil {s : Nat → AV} : satC s [] := fun q hq => by cases hq

theorem RG.put0 (h : RG r l outs env τ σ) {d : Nat} (hf : fresh d env = true) {v y : AV} (hy : y = ren r v) : RG r l outs ((d, []) :: env) ⟨upd τ.s d v, τ.H⟩ ⟨upd σ.s d y, σ.H⟩ :=
  h.put hf rfl (fun _ => hy) (fun hn => absurd satC_nil hn)

/-- what is reached, in the end -/
def After (r : Ren) (l outs : Nat) (env : Env) (K : St → AT → Prop) (σ : St) : Prop := ∃ τ a, K τ a ∧ RG r l outs env τ σ

theorem newT_newK (hr : RenOk r l outs) (h : RG r l outs env τ σ) {K : St → AT → Prop} {d : Nat} (hf : fresh d env = true) {e : TypeId} {sz : Nat} {cells : List AV} {x x' : Nat → AV} (hx : ∀ g, x' (r.γ (1, d) + g) = ren r (x g)) (hn : newT n d e sz cells x K τ a) :
    newK l n d e sz (rens r cells) x' (After r l outs ((d, []) :: env) K) σ := by
  unfold newT at hn
  split at hn
  · rename_i hd
    have hd := Nat.le_of_ble_eq_true hd
    refine ⟨by omega, _, _, hn, ?_⟩
    have h1 := h.put0 (v := x ((τ.H (1, d)).g + 1)) (y := x' ((σ.H (l + 1, d)).g + 1)) hf (by rw [h.g, Nat.add_assoc]; exact hx _)
    have h2 := RG.updH hr h1 (1, d) ⟨(τ.H (1, d)).g + 1, true, e, sz, cells⟩ rfl (.inl rfl)
    have e1 : renB r (1, d) ⟨(τ.H (1, d)).g + 1, true, e, sz, cells⟩ = ⟨(σ.H (l + 1, d)).g + 1, true, e, sz, rens r cells⟩ := by
      simp only [renB, h.g, Nat.add_assoc]
    rw [e1, hr.own] at h2
    exact h2
  · exact hn.elim

theorem put1_put {K : St → AT → Prop} (h : RG r l outs env τ σ) {d : Nat} (hf : fresh d env = true) {y : AV} (hy : KR r (put1 n d K τ) y) : d < n ∧ After r l outs ((d, []) :: env) K ⟨upd σ.s d y, σ.H⟩ := by
  obtain ⟨v, a', rfl, h1⟩ := hy
  unfold put1 at h1
  split at h1
  · rename_i hd
    have hd := Nat.le_of_ble_eq_true hd
    exact ⟨by omega, _, _, h1, h.put0 hf rfl⟩
  · exact h1.elim

section
variable {H : Hp} {K K' : AV → Prop} {t : TypeId} {x y : AV}
theorem vLoad_imp (hk : ∀ y, K y → K' y) (h : vLoad P H t x K) : vLoad P H t x K' := by
  unfold vLoad at h ⊢
  split at h
  · split at h
    · exact ⟨h.1, h.2.1, hk _ h.2.2⟩
    · split at h
      · exact hk _ h
      · exact h.elim
    · exact h.elim
  · obtain ⟨h1, h2, h⟩ := h
    refine ⟨h1, h2, ?_⟩
    split at h
    · exact ⟨h.1, h.2.1, hk _ h.2.2⟩
    · split at h
      · exact hk _ h
      · exact h.elim
    · exact h.elim
  · exact h.elim
theorem vFieldAddr_imp {i : Nat} (hk : ∀ y, K y → K' y) (h : vFieldAddr P H t i x K) : vFieldAddr P H t i x K' := by
  unfold vFieldAddr at h ⊢
  split at h
  · exact ⟨h.1, hk _ h.2⟩
  · exact ⟨h.1, h.2.1, h.2.2.1, hk _ h.2.2.2⟩
  · exact h.elim
theorem vField_imp {i : Nat} (hk : ∀ y, K y → K' y) (h : vField P t i x K) : vField P t i x K' := by
  unfold vField at h ⊢
  split at h
  · split at h
    · split at h
      · exact ⟨h.1, hk _ h.2⟩
      · split at h
        · exact hk _ h
        · exact h.elim
      · exact h.elim
    · exact h.elim
  · exact h.elim
theorem vIndexAddr_imp (hk : ∀ y, K y → K' y) (h : vIndexAddr P H t x y K) : vIndexAddr P H t x y K' := by
  unfold vIndexAddr at h ⊢
  split at h
  · obtain ⟨h0, h⟩ := h
    refine ⟨h0, ?_⟩
    split at h
    · exact ⟨h.1, h.2.1, hk _ h.2.2⟩
    · exact h.elim
  · obtain ⟨h1, h2, h3, h4, h5, h6, h7⟩ := h
    exact ⟨h1, h2, h3, h4, h5, h6, hk _ h7⟩
  · exact h.elim
theorem vIndex_imp (hk : ∀ y, K y → K' y) (h : vIndex P t x y K) : vIndex P t x y K' := by
  unfold vIndex at h ⊢
  split at h
  · obtain ⟨h0, h1, h⟩ := h
    refine ⟨h0, h1, ?_⟩
    split at h
    · exact hk _ h
    · exact h.elim
  · exact h.elim
theorem vNil_imp {neg : Bool} (hk : ∀ y, K y → K' y) (h : vNil H neg x K) : vNil H neg x K' := by
  unfold vNil at h ⊢
  split at h
  · exact fun b => hk _ (h b)
  · exact fun b => hk _ (h b)
  · exact hk _ h
  · exact ⟨h.1, fun e => hk _ (h.2.1 e), fun e b => hk _ (h.2.2 e b)⟩
  · exact h.elim
theorem vBin_imp {op : BinOp} {ny : Bool} (hk : ∀ y, K y → K' y) (h : vBin P H op t ny x y K) : vBin P H op t ny x y K' := by
  unfold vBin at h ⊢
  split at h
  · exact ⟨h.1, vInt_mono hk h.2⟩
  · exact vStr_mono hk h
  · refine ⟨h.1, ?_⟩
    replace h := h.2
    split at h
    · exact hk _ h
    · exact hk _ h
    · exact h.elim
  · unfold vAgg at h ⊢
    split at h
    · split at h
      · split at h
        · exact hk _ h
        · exact hk _ h
        · exact h.elim
      · exact h.elim
    · exact h.elim
  · refine ⟨h.1, h.2.1, ?_⟩
    replace h := h.2.2
    split at h
    · exact vNil_imp hk h
    · exact vNil_imp hk h
    · exact h.elim
  · exact h.elim
theorem vUn_imp {op : UnOp} (hk : ∀ y, K y → K' y) (h : vUn op x K) : vUn op x K' := by
  unfold vUn at h ⊢
  split at h
  · exact hk _ h
  · exact hk _ h
  · exact h.elim
theorem vConv_imp {u : TypeId} (hk : ∀ y, K y → K' y) (h : vConv P t u x K) : vConv P t u x K' := by
  unfold vConv at h ⊢
  split at h
  · exact hk _ h
  · exact hk _ h
  · exact h.elim
theorem vSlice_imp {lo hi : Option AV} {mx : Bool} (hk : ∀ y, K y → K' y) (h : vSlice P H t x lo hi mx K) : vSlice P H t x lo hi mx K' := by
  unfold vSlice at h ⊢
  split at h
  · obtain ⟨h0, h1, h⟩ := h
    refine ⟨h0, h1, ?_⟩
    split at h
    · exact ⟨h.1, h.2.1, hk _ h.2.2⟩
    · exact h.elim
  · obtain ⟨h0, h⟩ := h
    refine ⟨h0, ?_⟩
    split at h
    · obtain ⟨h1, h2, h3, h4, h5⟩ := h; exact ⟨h1, h2, h3, h4, hk _ h5⟩
    · exact h.elim
  · obtain ⟨h0, h1, h2, h⟩ := h
    refine ⟨h0, h1, h2, ?_⟩
    split at h
    · obtain ⟨h3, h4, h5, h6, h7⟩ := h; exact ⟨h3, h4, h5, h6, hk _ h7⟩
    · exact h.elim
  · exact h.elim
theorem vLen_imp (hk : ∀ y, K y → K' y) (h : vLen P H t x K) : vLen P H t x K' := by
  unfold vLen at h ⊢
  split at h
  · exact ⟨h.1, hk _ h.2⟩
  · exact ⟨h.1, hk _ h.2⟩
  · exact ⟨h.1, hk _ h.2⟩
  · exact ⟨h.1, h.2.1, h.2.2.1, hk _ h.2.2.2⟩
  · exact h.elim
theorem vBuild_imp {ps : List (Nat × AV)} (hk : ∀ y, K y → K' y) (h : vBuild P t ps K) : vBuild P t ps K' := by
  unfold vBuild at h ⊢
  split at h
  · obtain ⟨h0, h⟩ := h
    refine ⟨h0, ?_⟩
    split at h
    · exact hk _ h
    · exact h.elim
  · exact h.2.elim
theorem vOp_imp {op : Op} {ρ : Operand → AV} (hk : ∀ y, K y → K' y) (h : vOp P H op ρ K) : vOp P H op ρ K' := by
  cases op <;> simp only [vOp] at h ⊢ <;> try exact h.elim
  case move x => exact hk _ h
  case assign x => exact hk _ h
  case pick c a b =>
    split at h
    · exact hk _ h
    · exact h.elim
  case load => exact vLoad_imp hk h
  case fieldAddr => exact vFieldAddr_imp hk h
  case field => exact vField_imp hk h
  case indexAddr => exact vIndexAddr_imp hk h
  case index => exact vIndex_imp hk h
  case extract =>
    split at h
    · split at h
      · exact hk _ h
      · exact h.elim
    · exact h.elim
  case binOp => exact vBin_imp hk h
  case unOp => exact vUn_imp hk h
  case convert => exact vConv_imp hk h
  case nilCheck =>
    unfold vChk at h ⊢
    split at h
    · exact ⟨h.1, h.2.1, hk _ h.2.2⟩
    · exact hk _ h
    · exact h.elim
  case makeFunc => exact hk _ h
  case slice => exact vSlice_imp hk h
  case build => exact vBuild_imp hk h
  case call c =>
    split at h
    · exact ⟨h.1, vLen_imp hk h.2⟩
    · split at h
      · unfold vMM at h ⊢
        split at h
        · exact hk _ h
        · exact h.elim
      · unfold vMM3 at h ⊢
        split at h
        · exact hk _ h
        · exact h.elim
      · exact h.elim
    · exact h.elim
end
end
end Go.Eng
