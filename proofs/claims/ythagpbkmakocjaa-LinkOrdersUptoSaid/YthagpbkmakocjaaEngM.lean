/-
  The abstract state of a walk, part M: regions that draw their order and only read: one walk in the text's order serves every order. After the plan of the kit's Derived.Deep.Quiet, over abstract slots.
-/
import Derived.Test.YthagpbkmakocjaaEngL
import Derived.Still
namespace Go.Eng
set_option linter.all false
open Go Go.RowKit

/-- an operation that only reads and yields one thing -/
def quietB (o : Oper) : Bool := o.dst.isSome && match o.op with
  | .call c => match c.callee with
    | .value _ => true
    | .builtin .len | .builtin .min | .builtin .max => true
    | _ => false
  | .binOp _ _ _ y _ => !isNilC y
  | .alloc _ | .box _ _ | .store _ _ _ | .buildSlice _ _ _ | .makeSlice _ _ _ => false
  | _ => true

def qV (P : Program) (l : Nat) (H : Hp) (o : Oper) (ρ : Operand → AV) (v : AV) : Prop :=
  match o.op with
  | .call c => match c.callee with
    | .value f => match ρ f with
      | .fn (.func g) first caps => ACall P g (l + 1) (first ++ c.args.toList.map ρ ++ caps) H (fun y H' => y = v ∧ H' = H)
      | _ => False
    | _ => vOp P H o.op ρ (fun y => y = v)
  | _ => vOp P H o.op ρ (fun y => y = v)

def qOp1 (P : Program) (l n : Nat) (o : Oper) (K : St → Prop) (σ : St) : Prop :=
  match o.op with
  | .call c => match c.callee with
    | .value f => match ev σ.s f with
      | .fn (.func g) first caps => ∃ r, ACall P g (l + 1) (first ++ c.args.toList.map (ev σ.s) ++ caps) σ.H (fun y H' => y = r ∧ H' = σ.H) ∧ putK n o.dst K σ r
      | _ => False
    | _ => rOp P l n o K σ
  | _ => rOp P l n o K σ

def qOps (P : Program) (l n : Nat) (ds : List (Option Nat)) : List Oper → (St → Prop) → St → Prop
  | [], K, σ => K σ
  | o :: rest, K, σ => match o.guard with
    | none => qOp1 P l n o (qOps P l n ds rest K) σ
    | some (i, b) => match grd σ.s ds i b with
      | some t => (t = true → qOp1 P l n o (qOps P l n ds rest K) σ) ∧ (t = false → match o.dst with | some d => d < n ∧ qOps P l n ds rest K ⟨upd σ.s d (.tup []), σ.H⟩ | none => False)
      | none => False

section
variable {P : Program} {l n : Nat} {B : Base} {H : Hp} {K K' : AV → Prop} {t : TypeId} {x y : AV} {ρ ρ' : Operand → AV}

theorem vInt_mono {op : BinOp} {k : IntKind} {a b : Int} (h : ∀ v, K v → K' v) (hh : vInt op k a b K) : vInt op k a b K' := by
  cases op <;> simp only [vInt] at hh ⊢ <;> first | exact h _ hh | exact ⟨hh.1, h _ hh.2⟩ | exact hh
theorem vStr_mono {op : BinOp} {a b : ByteArray} (h : ∀ v, K v → K' v) (hh : vStr op a b K) : vStr op a b K' := by
  cases op <;> simp only [vStr] at hh ⊢ <;> first | exact h _ hh | exact ⟨hh.1, h _ hh.2⟩ | exact hh

theorem vInt_det {op : BinOp} {k : IntKind} {a b : Int} (hh : vInt op k a b K) : ∃ v, vInt op k a b (fun y => y = v) ∧ K v := by
  cases op <;> simp only [vInt] at hh ⊢ <;> first | exact ⟨_, rfl, hh⟩ | exact ⟨_, ⟨hh.1, rfl⟩, hh.2⟩ | exact hh.elim
theorem vStr_det {op : BinOp} {a b : ByteArray} (hh : vStr op a b K) : ∃ v, vStr op a b (fun y => y = v) ∧ K v := by
  cases op <;> simp only [vStr] at hh ⊢ <;> first | exact ⟨_, rfl, hh⟩ | exact ⟨_, ⟨hh.1, rfl⟩, hh.2⟩ | exact hh.elim

theorem vLoad_det (h : vLoad P H t x K) : ∃ v, vLoad P H t x (fun y => y = v) ∧ K v := by
  unfold vLoad at h ⊢
  split at h
  · split at h
    · exact ⟨_, ⟨h.1, h.2.1, rfl⟩, h.2.2⟩
    · split at h
      · exact ⟨_, rfl, h⟩
      · exact h.elim
    · exact h.elim
  · obtain ⟨h1, h2, h⟩ := h
    split at h
    · exact ⟨_, ⟨h1, h2, h.1, h.2.1, rfl⟩, h.2.2⟩
    · split at h
      · exact ⟨_, ⟨h1, h2, rfl⟩, h⟩
      · exact h.elim
    · exact h.elim
  · exact h.elim
theorem vFieldAddr_det {i : Nat} (h : vFieldAddr P H t i x K) : ∃ v, vFieldAddr P H t i x (fun y => y = v) ∧ K v := by
  unfold vFieldAddr at h ⊢
  split at h
  · exact ⟨_, ⟨h.1, rfl⟩, h.2⟩
  · exact ⟨_, ⟨h.1, h.2.1, h.2.2.1, rfl⟩, h.2.2.2⟩
  · exact h.elim
theorem vField_det {i : Nat} (h : vField P t i x K) : ∃ v, vField P t i x (fun y => y = v) ∧ K v := by
  unfold vField at h ⊢
  split at h
  · split at h
    · split at h
      · exact ⟨_, ⟨h.1, rfl⟩, h.2⟩
      · split at h
        · exact ⟨_, rfl, h⟩
        · exact h.elim
      · exact h.elim
    · exact h.elim
  · exact h.elim
theorem vIndexAddr_det (h : vIndexAddr P H t x y K) : ∃ v, vIndexAddr P H t x y (fun y => y = v) ∧ K v := by
  unfold vIndexAddr at h ⊢
  split at h
  · obtain ⟨h0, h⟩ := h
    split at h
    · exact ⟨_, ⟨h0, h.1, h.2.1, rfl⟩, h.2.2⟩
    · exact h.elim
  · obtain ⟨h1, h2, h3, h4, h5, h6, h⟩ := h
    exact ⟨_, ⟨h1, h2, h3, h4, h5, h6, rfl⟩, h⟩
  · exact h.elim
theorem vIndex_det (h : vIndex P t x y K) : ∃ v, vIndex P t x y (fun y => y = v) ∧ K v := by
  unfold vIndex at h ⊢
  split at h
  · obtain ⟨h0, h1, h⟩ := h
    split at h
    · exact ⟨_, ⟨h0, h1, rfl⟩, h⟩
    · exact h.elim
  · exact h.elim
theorem vAgg_det {op : BinOp} {xs ys : List AV} (h : vAgg P op t xs ys K) : ∃ v, vAgg P op t xs ys (fun y => y = v) ∧ K v := by
  unfold vAgg at h ⊢
  split at h
  · split at h
    · split at h
      · exact ⟨_, rfl, h⟩
      · exact ⟨_, rfl, h⟩
      · exact h.elim
    · exact h.elim
  · exact h.elim
theorem vBin_det {op : BinOp} (h : vBin P H op t false x y K) : ∃ v, vBin P H op t false x y (fun y => y = v) ∧ K v := by
  unfold vBin at h ⊢
  split at h
  · obtain ⟨v, h1, h2⟩ := vInt_det h.2; exact ⟨v, ⟨h.1, h1⟩, h2⟩
  · exact vStr_det h
  · obtain ⟨h0, h⟩ := h
    split at h
    · exact ⟨_, ⟨h0, rfl⟩, h⟩
    · exact ⟨_, ⟨h0, rfl⟩, h⟩
    · exact h.elim
  · exact vAgg_det h
  · cases h.1
  · exact h.elim
theorem vUn_det {op : UnOp} (h : vUn op x K) : ∃ v, vUn op x (fun y => y = v) ∧ K v := by
  unfold vUn at h ⊢
  split at h
  · exact ⟨_, rfl, h⟩
  · exact ⟨_, rfl, h⟩
  · exact h.elim
theorem vConv_det {u : TypeId} (h : vConv P t u x K) : ∃ v, vConv P t u x (fun y => y = v) ∧ K v := by
  unfold vConv at h ⊢
  split at h
  · exact ⟨_, rfl, h⟩
  · exact ⟨_, rfl, h⟩
  · exact h.elim
theorem vSlice_det {lo hi : Option AV} {mx : Bool} (h : vSlice P H t x lo hi mx K) : ∃ v, vSlice P H t x lo hi mx (fun y => y = v) ∧ K v := by
  unfold vSlice at h ⊢
  split at h
  · obtain ⟨h0, h1, h⟩ := h
    split at h
    · exact ⟨_, ⟨h0, h1, h.1, h.2.1, rfl⟩, h.2.2⟩
    · exact h.elim
  · obtain ⟨h0, h⟩ := h
    split at h
    · obtain ⟨h1, h2, h3, h4, h5⟩ := h; exact ⟨_, ⟨h0, h1, h2, h3, h4, rfl⟩, h5⟩
    · exact h.elim
  · obtain ⟨h0, h1, h2, h⟩ := h
    split at h
    · obtain ⟨h3, h4, h5, h6, h7⟩ := h; exact ⟨_, ⟨h0, h1, h2, h3, h4, h5, h6, rfl⟩, h7⟩
    · exact h.elim
  · exact h.elim
theorem vLen_det (h : vLen P H t x K) : ∃ v, vLen P H t x (fun y => y = v) ∧ K v := by
  unfold vLen at h ⊢
  split at h
  · exact ⟨_, ⟨h.1, rfl⟩, h.2⟩
  · exact ⟨_, ⟨h.1, rfl⟩, h.2⟩
  · exact ⟨_, ⟨h.1, rfl⟩, h.2⟩
  · exact ⟨_, ⟨h.1, h.2.1, h.2.2.1, rfl⟩, h.2.2.2⟩
  · exact h.elim
theorem vBuild_det {ps : List (Nat × AV)} (h : vBuild P t ps K) : ∃ v, vBuild P t ps (fun y => y = v) ∧ K v := by
  unfold vBuild at h ⊢
  split at h
  · obtain ⟨h0, h⟩ := h
    split at h
    · exact ⟨_, ⟨h0, rfl⟩, h⟩
    · exact h.elim
  · exact h.2.elim

theorem vOp_det {op : Op} (hq : ∀ o t x y u, op = .binOp o t x y u → isNilC y = false) (h : vOp P H op ρ K) : ∃ v, vOp P H op ρ (fun y => y = v) ∧ K v := by
  cases op <;> simp only [vOp] at h ⊢ <;> try exact h.elim
  case move x => exact ⟨_, rfl, h⟩
  case assign x => exact ⟨_, rfl, h⟩
  case pick c a b =>
    split at h
    · exact ⟨_, rfl, h⟩
    · exact h.elim
  case load => exact vLoad_det h
  case fieldAddr => exact vFieldAddr_det h
  case field => exact vField_det h
  case indexAddr => exact vIndexAddr_det h
  case index => exact vIndex_det h
  case extract =>
    split at h
    · split at h
      · exact ⟨_, rfl, h⟩
      · exact h.elim
    · exact h.elim
  case binOp o t x y u =>
    rw [hq _ _ _ _ _ rfl] at h ⊢
    exact vBin_det h
  case unOp => exact vUn_det h
  case convert => exact vConv_det h
  case nilCheck =>
    unfold vChk at h ⊢
    split at h
    · exact ⟨_, ⟨h.1, h.2.1, rfl⟩, h.2.2⟩
    · exact ⟨_, rfl, h⟩
    · exact h.elim
  case makeFunc => exact ⟨_, rfl, h⟩
  case slice => exact vSlice_det h
  case build => exact vBuild_det h
  case call c =>
    split at h
    · obtain ⟨v, h1, h2⟩ := vLen_det h.2; exact ⟨v, ⟨h.1, h1⟩, h2⟩
    · split at h
      · unfold vMM at h ⊢
        split at h
        · exact ⟨_, rfl, h⟩
        · exact h.elim
      · unfold vMM3 at h ⊢
        split at h
        · exact ⟨_, rfl, h⟩
        · exact h.elim
      · exact h.elim
    · exact h.elim

theorem vOp_mono {op : Op} (hq : ∀ o t x y u, op = .binOp o t x y u → isNilC y = false) {v : AV} (hv : K v) (h : vOp P H op ρ (fun y => y = v)) : vOp P H op ρ K := by
  have : (fun y => y = v) = (fun y => y = v ∧ K v) := by funext y; simp [hv]
  rw [this] at h
  clear this hv
  cases op <;> simp only [vOp] at h ⊢ <;> try exact h.elim
  case move x => exact h.1 ▸ h.2
  case assign x => exact h.1 ▸ h.2
  case pick c a b =>
    split at h
    · exact h.1 ▸ h.2
    · exact h.elim
  case load t x =>
    unfold vLoad at h ⊢
    split at h
    · split at h
      · exact ⟨h.1, h.2.1, h.2.2.1 ▸ h.2.2.2⟩
      · split at h
        · exact h.1 ▸ h.2
        · exact h.elim
      · exact h.elim
    · obtain ⟨h1, h2, h⟩ := h
      refine ⟨h1, h2, ?_⟩
      split at h
      · exact ⟨h.1, h.2.1, h.2.2.1 ▸ h.2.2.2⟩
      · split at h
        · exact h.1 ▸ h.2
        · exact h.elim
      · exact h.elim
    · exact h.elim
  case fieldAddr =>
    unfold vFieldAddr at h ⊢
    split at h
    · exact ⟨h.1, h.2.1 ▸ h.2.2⟩
    · exact ⟨h.1, h.2.1, h.2.2.1, h.2.2.2.1 ▸ h.2.2.2.2⟩
    · exact h.elim
  case field =>
    unfold vField at h ⊢
    split at h
    · split at h
      · split at h
        · exact ⟨h.1, h.2.1 ▸ h.2.2⟩
        · split at h
          · exact h.1 ▸ h.2
          · exact h.elim
        · exact h.elim
      · exact h.elim
    · exact h.elim
  case indexAddr =>
    unfold vIndexAddr at h ⊢
    split at h
    · obtain ⟨h0, h⟩ := h
      refine ⟨h0, ?_⟩
      split at h
      · exact ⟨h.1, h.2.1, h.2.2.1 ▸ h.2.2.2⟩
      · exact h.elim
    · obtain ⟨h1, h2, h3, h4, h5, h6, h7, h8⟩ := h
      exact ⟨h1, h2, h3, h4, h5, h6, h7 ▸ h8⟩
    · exact h.elim
  case index =>
    unfold vIndex at h ⊢
    split at h
    · obtain ⟨h0, h1, h⟩ := h
      refine ⟨h0, h1, ?_⟩
      split at h
      · exact h.1 ▸ h.2
      · exact h.elim
    · exact h.elim
  case extract =>
    split at h
    · split at h
      · exact h.1 ▸ h.2
      · exact h.elim
    · exact h.elim
  case binOp o t x y u =>
    rw [hq _ _ _ _ _ rfl] at h ⊢
    unfold vBin at h ⊢
    split at h
    · exact ⟨h.1, vInt_mono (fun y (hy : y = v ∧ K v) => hy.1 ▸ hy.2) h.2⟩
    · exact vStr_mono (fun y (hy : y = v ∧ K v) => hy.1 ▸ hy.2) h
    · refine ⟨h.1, ?_⟩
      replace h := h.2
      split at h
      · exact h.1 ▸ h.2
      · exact h.1 ▸ h.2
      · exact h.elim
    · unfold vAgg at h ⊢
      split at h
      · split at h
        · split at h
          · exact h.1 ▸ h.2
          · exact h.1 ▸ h.2
          · exact h.elim
        · exact h.elim
      · exact h.elim
    · cases h.1
    · exact h.elim
  case unOp =>
    unfold vUn at h ⊢
    split at h
    · exact h.1 ▸ h.2
    · exact h.1 ▸ h.2
    · exact h.elim
  case nilCheck =>
    unfold vChk at h ⊢
    split at h
    · exact ⟨h.1, h.2.1, h.2.2.1 ▸ h.2.2.2⟩
    · exact h.1 ▸ h.2
    · exact h.elim
  case convert =>
    unfold vConv at h ⊢
    split at h
    · exact h.1 ▸ h.2
    · exact h.1 ▸ h.2
    · exact h.elim
  case makeFunc => exact h.1 ▸ h.2
  case slice =>
    unfold vSlice at h ⊢
    split at h
    · obtain ⟨h0, h1, h⟩ := h
      refine ⟨h0, h1, ?_⟩
      split at h
      · exact ⟨h.1, h.2.1, h.2.2.1 ▸ h.2.2.2⟩
      · exact h.elim
    · obtain ⟨h0, h⟩ := h
      refine ⟨h0, ?_⟩
      split at h
      · obtain ⟨h1, h2, h3, h4, h5, h6⟩ := h; exact ⟨h1, h2, h3, h4, h5 ▸ h6⟩
      · exact h.elim
    · obtain ⟨h0, h1, h2, h⟩ := h
      refine ⟨h0, h1, h2, ?_⟩
      split at h
      · obtain ⟨h3, h4, h5, h6, h7, h8⟩ := h; exact ⟨h3, h4, h5, h6, h7 ▸ h8⟩
      · exact h.elim
    · exact h.elim
  case build =>
    unfold vBuild at h ⊢
    split at h
    · refine ⟨h.1, ?_⟩
      replace h := h.2
      split at h
      · exact h.1 ▸ h.2
      · exact h.elim
    · exact h.2.elim
  case call c =>
    split at h
    · refine ⟨h.1, ?_⟩
      replace h := h.2
      unfold vLen at h ⊢
      split at h
      · exact ⟨h.1, h.2.1 ▸ h.2.2⟩
      · exact ⟨h.1, h.2.1 ▸ h.2.2⟩
      · exact ⟨h.1, h.2.1 ▸ h.2.2⟩
      · exact ⟨h.1, h.2.1, h.2.2.1, h.2.2.2.1 ▸ h.2.2.2.2⟩
      · exact h.elim
    · split at h
      · unfold vMM at h ⊢
        split at h
        · exact h.1 ▸ h.2
        · exact h.elim
      · unfold vMM3 at h ⊢
        split at h
        · exact h.1 ▸ h.2
        · exact h.elim
      · exact h.elim
    · exact h.elim

theorem quiet_nil {o : Oper} (hq : quietB o = true) : ∀ b t x y u, o.op = .binOp b t x y u → isNilC y = false := by
  intro b t x y u h
  simp only [quietB, h, Bool.and_eq_true, Bool.not_eq_true'] at hq
  exact hq.2

theorem qV_local {o : Oper} {v : AV} (h : ∀ x ∈ o.op.operands, ρ x = ρ' x) (hh : qV P l H o ρ v) : qV P l H o ρ' v := by
  obtain ⟨dst, op, type, pos, after, guard⟩ := o
  have arr : ∀ as : Array Operand, (∀ x ∈ as, ρ x = ρ' x) → as.toList.map ρ = as.toList.map ρ' := fun as ha => List.map_congr_left fun x hx => ha x (by simpa using hx)
  cases op <;> simp only [Op.operands] at h <;> simp only [qV, vOp] at hh ⊢ <;> try exact hh
  case call c =>
    have ha : c.args.toList.map ρ = c.args.toList.map ρ' := arr _ fun x hx => h x (by simp [Call.operands, hx])
    cases hc : c.callee with
    | value f =>
      have hf : ρ f = ρ' f := h f (by simp [Call.operands, hc])
      simp only [hc] at hh ⊢
      rw [← hf, ← ha]
      exact hh
    | invoke r m => simp only [hc] at hh
    | builtin b =>
      simp only [hc] at hh ⊢
      split at hh
      · rename_i x t hb h0 h1
        rw [← h x (by simp [Call.operands, hc, Array.mem_of_getElem? h0])]
        exact hh
      · rename_i b' hb hn
        split at hh
        · rename_i mx x y hm ha'
          have hx : ρ x = ρ' x := h x (by simp only [Call.operands, hc, Array.mem_append]; exact .inr (by rw [← Array.mem_toList_iff, ha']; simp))
          have hy : ρ y = ρ' y := h y (by simp only [Call.operands, hc, Array.mem_append]; exact .inr (by rw [← Array.mem_toList_iff, ha']; simp))
          simp only [hm, ← hx, ← hy]
          exact hh
        · rename_i mx x y z hm ha'
          have hx : ρ x = ρ' x := h x (by simp only [Call.operands, hc, Array.mem_append]; exact .inr (by rw [← Array.mem_toList_iff, ha']; simp))
          have hy : ρ y = ρ' y := h y (by simp only [Call.operands, hc, Array.mem_append]; exact .inr (by rw [← Array.mem_toList_iff, ha']; simp))
          have hz : ρ z = ρ' z := h z (by simp only [Call.operands, hc, Array.mem_append]; exact .inr (by rw [← Array.mem_toList_iff, ha']; simp))
          simp only [hm, ← hx, ← hy, ← hz]
          exact hh
        · exact hh.elim
      · exact hh.elim
  case build t ps =>
    have : (ps.toList.map fun p => (p.1, ρ p.2)) = ps.toList.map fun p => (p.1, ρ' p.2) := List.map_congr_left fun p hp => by
      rw [h p.2 (by simp; exact ⟨_, by simpa using hp⟩)]
    rw [← this]; exact hh
  case makeFunc fn first caps =>
    rw [← arr first fun x hx => h x (by simp [hx]), ← arr caps fun x hx => h x (by simp [hx])]; exact hh
  case slice t x lo hi mx =>
    rw [← h x (by simp), show lo.map ρ' = lo.map ρ from by cases lo <;> simp_all, show hi.map ρ' = hi.map ρ from by cases hi <;> simp_all]; exact hh
  all_goals (first | (simp_all; done))

theorem qOp1_det {o : Oper} {s : Nat → AV} {K : St → Prop} (hq : quietB o = true) (h : qOp1 P l n o K ⟨s, H⟩) : ∃ d v, o.dst = some d ∧ d < n ∧ qV P l H o (ev s) v ∧ K ⟨upd s d v, H⟩ := by
  have hd : ∃ d, o.dst = some d := by
    simp only [quietB, Bool.and_eq_true] at hq
    exact Option.isSome_iff_exists.1 hq.1
  obtain ⟨d, hd⟩ := hd
  have plain : vOp P H o.op (ev s) (putK n o.dst K ⟨s, H⟩) → (∀ v, vOp P H o.op (ev s) (fun y => y = v) → qV P l H o (ev s) v) → ∃ d v, o.dst = some d ∧ d < n ∧ qV P l H o (ev s) v ∧ K ⟨upd s d v, H⟩ := fun h hv => by
    obtain ⟨v, h1, h2⟩ := vOp_det (quiet_nil hq) h
    rw [hd] at h2
    exact ⟨d, v, hd, h2.1, hv v h1, h2.2⟩
  unfold qOp1 at h
  split at h
  · rename_i c hc
    split at h
    · rename_i f hf
      simp only [] at h
      split at h
      · rename_i g first caps hg
        obtain ⟨r, h1, h2⟩ := h
        rw [hd] at h2
        refine ⟨d, r, hd, h2.1, ?_, h2.2⟩
        simp only [qV, hc, hf, hg]
        exact h1
      · exact h.elim
    · rename_i hf
      refine plain ?_ ?_
      · unfold rOp at h
        simp only [hc] at h
        simp only [quietB, hc, Bool.and_eq_true] at hq
        split at h
        · rename_i f hf'; exact absurd hf' (hf f)
        · rename_i hb; rw [hb] at hq; simp at hq
        · rw [hc]; exact h
      · intro v hv
        unfold qV
        rw [hc] at hv ⊢
        cases hcal : c.callee with
        | value f => exact absurd hcal (hf f)
        | _ => simpa [hcal] using hv
  · rename_i hc
    refine plain ?_ ?_
    · unfold rOp at h
      split at h
      · rename_i he; simp [quietB, he] at hq
      · rename_i he; simp [quietB, he] at hq
      · rename_i he; simp [quietB, he] at hq
      · rename_i he; simp [quietB, he] at hq
      · rename_i he; simp [quietB, he] at hq
      · rename_i c he; exact absurd he (hc c)
      · exact h
    · intro v hv
      unfold qV
      split
      · rename_i c he; exact absurd he (hc c)
      · exact hv

theorem aop_qV {o : Oper} {s : Nat → AV} {v : AV} {d : Nat} (hq : quietB o = true) (hd : o.dst = some d) (hdn : d < n) (h : qV P l H o (ev s) v) : AOp P l n B o (fun σ' => σ' = ⟨upd s d v, H⟩) ⟨s, H⟩ := by
  unfold qV at h
  split at h
  · rename_i c hc
    split at h
    · rename_i f hf
      split at h
      · rename_i g first caps hg
        refine aop_call hc hf hg (h.mono fun r H' ⟨h1, h2⟩ => ?_)
        subst h1; subst h2
        rw [hd]
        exact ⟨hdn, rfl⟩
      · exact h.elim
    · rename_i hf
      exact aop_vOp (vOp_mono (quiet_nil hq) (by rw [hd]; exact ⟨hdn, rfl⟩) h)
  · exact aop_vOp (vOp_mono (quiet_nil hq) (by rw [hd]; exact ⟨hdn, rfl⟩) h)
end

section
variable {P : Program} {l n : Nat} {B : Base} {H : Hp} {ops : Array Oper} {md : Region.Mode} {Q : (Nat → AV) → Prop}

def YA (P : Program) (l : Nat) (H : Hp) (ops : Array Oper) (o : Oper) (s : Nat → AV) (v : AV) : Prop :=
  match o.guard with
  | none => qV P l H o (ev s) v
  | some (i, b) => match grd s (ops.toList.map (·.dst)) i b with
    | some t => (t = true → qV P l H o (ev s) v) ∧ (t = false → v = .tup [])
    | none => False

def opA (P : Program) (l n : Nat) (H : Hp) (ops : Array Oper) (i : Nat) (K : (Nat → AV) → Prop) (s : Nat → AV) : Prop :=
  match ops[i]? with
  | none => K s
  | some o => ∃ d v, o.dst = some d ∧ d < n ∧ YA P l H ops o s v ∧ K (upd s d v)

def anyA (P : Program) (l n : Nat) (H : Hp) (md : Region.Mode) (ops : Array Oper) (Q : (Nat → AV) → Prop) : Nat → Array Bool → (Nat → AV) → Prop
  | 0, listed, s => Region.ready md ops listed = [] ∧ Q s
  | fuel + 1, listed, s => (Region.ready md ops listed = [] → Q s) ∧ ∀ i ∈ Region.ready md ops listed, opA P l n H ops i (anyA P l n H md ops Q fuel (listed.setIfInBounds i true)) s

theorem opA_mono {i : Nat} {K K' : (Nat → AV) → Prop} {s : Nat → AV} (h : ∀ s, K s → K' s) (hh : opA P l n H ops i K s) : opA P l n H ops i K' s := by
  unfold opA at *
  split
  · rename_i ho; simp only [ho] at hh; exact h _ hh
  · rename_i o ho
    simp only [ho] at hh
    obtain ⟨d, v, h1, h2, h3, h4⟩ := hh
    exact ⟨d, v, h1, h2, h3, h _ h4⟩

theorem YA_upd {o : Oper} {s : Nat → AV} {v u : AV} {d : Nat} (hd : d ∉ o.looksAt ops) (h : YA P l H ops o (upd s d u) v) : YA P l H ops o s v := by
  have hev : ∀ x ∈ o.op.operands, ev (upd s d u) x = ev s x := fun x hx => by
    cases x with
    | tmp t =>
      have hne : t ≠ d := fun e => hd (by
        subst e
        exact List.mem_append_left _ (List.mem_filterMap.2 ⟨.tmp t, by simpa using hx, rfl⟩))
      simp [ev, upd, hne]
    | _ => rfl
  unfold YA at *
  cases hg : o.guard with
  | none => simp only [hg] at h ⊢; exact qV_local hev h
  | some gw =>
    obtain ⟨i, b⟩ := gw
    simp only [hg] at h ⊢
    have hgrd : grd (upd s d u) (ops.toList.map (·.dst)) i b = grd s (ops.toList.map (·.dst)) i b := by
      unfold grd
      simp only [List.getElem?_map, Array.getElem?_toList]
      cases ho : ops[i]? with
      | none => rfl
      | some oi =>
        cases hdi : oi.dst with
        | none => simp [hdi]
        | some t =>
          have hne : t ≠ d := fun e => hd (by subst e; simp [Oper.looksAt, hg, ho, hdi])
          simp [hdi, upd, hne]
    rw [hgrd] at h
    split at h
    · rename_i t ht
      exact ⟨fun e => qV_local hev (h.1 e), h.2⟩
    · exact h

theorem YA_upd' {o : Oper} {s : Nat → AV} {v u : AV} {d : Nat} (hd : d ∉ o.looksAt ops) (h : YA P l H ops o s v) : YA P l H ops o (upd s d u) v := by
  refine YA_upd (d := d) (u := s d) hd ?_
  have : upd (upd s d u) d (s d) = s := by funext j; unfold upd; split <;> simp_all
  rw [this]; exact h

theorem upd_comm {s : Nat → AV} {d e : Nat} {u v : AV} (h : d ≠ e) : upd (upd s d u) e v = upd (upd s e v) d u := by
  funext j
  unfold upd
  by_cases h1 : j = e
  · subst h1; simp [Ne.symm h]
  · simp [h1]

theorem opA_put {i j : Nat} {oi oj : Oper} {d : Nat} {v : AV} (hj : ops[j]? = some oj) (hdi : oi.dst = some d) (hap : oi.apart ops oj = true) {K : (Nat → AV) → Prop} {s : Nat → AV}
    (hy : YA P l H ops oi s v) (h : opA P l n H ops j K (upd s d v)) : opA P l n H ops j (fun s' => YA P l H ops oi s' v ∧ K (upd s' d v)) s := by
  obtain ⟨h1, h2, h3⟩ := Oper.apart_spec hap
  unfold opA at *
  simp only [hj] at *
  obtain ⟨e, u, he, hen, hu, hK⟩ := h
  refine ⟨e, u, he, hen, YA_upd (h1 d hdi) hu, YA_upd' (h3 e he) hy, ?_⟩
  have hne : d ≠ e := fun e' => h2 d hdi (e' ▸ he)
  rw [upd_comm (Ne.symm hne)]
  exact hK

theorem anyA_first {i : Nat} {oi : Oper} {d : Nat} {v : AV} (hi : ops[i]? = some oi) (hdi : oi.dst = some d) (hdn : d < n) :
    ∀ (fuel : Nat) (listed : Array Bool) (s : Nat → AV),
      (∀ j oj, ops[j]? = some oj → j ≠ i → listed.getD j true = false → (∀ e ∈ oj.after, Region.binds md e = true → e.on ≠ i) → oi.apart ops oj = true) →
      i ∈ Region.ready md ops listed → YA P l H ops oi s v →
      anyA P l n H md ops Q fuel (listed.setIfInBounds i true) (upd s d v) → anyA P l n H md ops Q (fuel + 1) listed s := by
  have self : ∀ {K : (Nat → AV) → Prop} {s : Nat → AV}, YA P l H ops oi s v → K (upd s d v) → opA P l n H ops i K s := fun hy hK => by
    unfold opA; simp only [hi]; exact ⟨d, v, hdi, hdn, hy, hK⟩
  intro fuel
  induction fuel with
  | zero =>
    intro listed s _ hr hy HH
    refine ⟨fun h => (by rw [h] at hr; cases hr), fun j hj => ?_⟩
    by_cases hji : j = i
    · subst hji; exact self hy HH
    · have := ready_mono hj hji
      rw [HH.1] at this
      cases this
  | succ fuel ih =>
    intro listed s hfree hr hy HH
    refine ⟨fun h => (by rw [h] at hr; cases hr), fun j hj => ?_⟩
    by_cases hji : j = i
    · subst hji; exact self hy HH
    · have h1 := HH.2 j (ready_mono hj hji)
      obtain ⟨hjun, oj, hoj, hall⟩ := mem_ready.1 hj
      have hnot : ∀ e ∈ oj.after, Region.binds md e = true → e.on ≠ i := fun e he hb heq => by
        have h1 := hall e he hb
        have h0 := (mem_ready.1 hr).1
        rw [heq] at h1
        rcases Nat.lt_or_ge i listed.size with h' | h'
        · simp [h'] at h0 h1; rw [h0] at h1; cases h1
        · simp [Array.getElem?_eq_none h'] at h1
      have h2 := opA_put (i := i) hoj hdi (hfree j oj hoj hji hjun hnot) hy h1
      have hfree' : ∀ k ok, ops[k]? = some ok → k ≠ i → (listed.setIfInBounds j true).getD k true = false →
          (∀ e ∈ ok.after, Region.binds md e = true → e.on ≠ i) → oi.apart ops ok = true := fun k ok hk hki hun hno => by
        refine hfree k ok hk hki ?_ hno
        by_cases hjk : j = k
        · subst hjk; exact hjun
        · rw [getD_set_ne true hjk] at hun; exact hun
      refine opA_mono (fun s' h3 => ih (listed.setIfInBounds j true) s' hfree' (ready_mono hr (Ne.symm hji)) h3.1 ?_) h2
      rw [Array.setIfInBounds_comm _ _ hji]
      exact h3.2

theorem anyA_lex {K : St → Prop} : ∀ (rest : List Oper) (k : Nat) (listed : Array Bool) (s : Nat → AV), rest.all quietB = true → (∀ j, rest[j]? = ops[k + j]?) →
    Region.lexFrom md ops rest.length k listed = true → qOps P l n (ops.toList.map (·.dst)) rest K ⟨s, H⟩ → anyA P l n H md ops (fun s' => K ⟨s', H⟩) rest.length listed s
  | [], _, _, _, _, _, hB, h => ⟨by simpa [Region.lexFrom] using hB, h⟩
  | o :: rest, k, listed, s, hq, hl, hB, h => by
    have h0 : ops[k]? = some o := by simpa using (hl 0).symm
    simp only [List.length_cons, Region.lexFrom, Bool.and_eq_true] at hB
    obtain ⟨⟨hr, hf⟩, hB'⟩ := hB
    simp only [List.all_cons, Bool.and_eq_true] at hq
    have hst : ∃ d v, o.dst = some d ∧ d < n ∧ YA P l H ops o s v ∧ qOps P l n (ops.toList.map (·.dst)) rest K ⟨upd s d v, H⟩ := by
      unfold qOps at h
      unfold YA
      cases hg : o.guard with
      | none => simp only [hg] at h; exact qOp1_det hq.1 h
      | some gw =>
        obtain ⟨i, b⟩ := gw
        simp only [hg] at h ⊢
        split at h
        · rename_i t ht
          cases t with
          | true =>
            obtain ⟨d, v, h1, h2, h3, h4⟩ := qOp1_det hq.1 (h.1 rfl)
            exact ⟨d, v, h1, h2, ⟨fun _ => h3, fun h => (by cases h)⟩, h4⟩
          | false =>
            have h2 := h.2 rfl
            split at h2
            · rename_i d hd; exact ⟨d, .tup [], hd, h2.1, ⟨fun h => (by cases h), fun _ => rfl⟩, h2.2⟩
            · exact h2.elim
        · exact h.elim
    obtain ⟨d, v, hd, hdn, hy, hK⟩ := hst
    exact anyA_first h0 hd hdn rest.length listed s (Region.free_spec h0 hf) (by simpa using hr) hy
      (anyA_lex rest (k + 1) _ _ hq.2 (fun j => by have := hl (j + 1); simpa [Nat.add_assoc, Nat.add_comm 1 j] using this) hB' hK)

theorem wpOp_of_opA {i : Nat} {s : Nat → AV} {a : Act} {w : World} {K : (Nat → AV) → Prop} {K' : Act → World → Prop} {Q' : Exit → Act → World → Prop} (hq : ∀ o ∈ ops, quietB o = true) (hR : R l n B ⟨s, H⟩ a w)
    (h : ∀ s a w, R l n B ⟨s, H⟩ a w → K s → K' a w) (hh : opA P l n H ops i K s) : wpOp P ops Q' i K' a w := by
  unfold opA at hh
  unfold wpOp
  split
  · rename_i ho; simp only [ho] at hh; exact h _ _ _ hR hh
  · rename_i o ho
    simp only [ho] at hh
    obtain ⟨d, v, hd, hdn, hy, hK⟩ := hh
    have ho' := hq o (Array.mem_of_getElem? ho)
    have go : qV P l H o (ev s) v → o.wp P a w K' Q' := fun hv => by
      have := aop_qV (B := B) ho' hd hdn hv a w hR Q'
      refine Oper.wp_mono (fun a' w' ⟨σ', e, hR'⟩ => ?_) this
      subst e
      exact h _ _ _ hR' hK
    unfold YA at hy
    cases hg : o.guard with
    | none =>
      simp only [hg] at hy
      rw [if_pos (by simp [Region.wanted, hg])]
      exact .inl (go hy)
    | some gw =>
      obtain ⟨j, b⟩ := gw
      simp only [hg] at hy
      split at hy
      · rename_i t ht
        have hyd : (yielded ops a.tmps j == some b) = t := by
          obtain ⟨m, S, hO, hn, hdf, hS, hex⟩ := hR.un
          exact yield_grd hS ht
        cases t with
        | true =>
          rw [if_pos (by simp only [Region.wanted, hg]; exact hyd)]
          exact .inl (go (hy.1 rfl))
        | false =>
          rw [if_neg (by simp only [Region.wanted, hg, hyd]; decide)]
          have := hy.2 rfl
          subst this
          rw [hd]
          exact h _ _ _ (R.undef hR hdn) hK
      · exact hy.elim

theorem wpAny_of_anyA {Q' : Exit → Act → World → Prop} (hq : ∀ o ∈ ops, quietB o = true) (hQ : ∀ s a w, R l n B ⟨s, H⟩ a w → Q s → Q' .normal a w) : ∀ (fuel : Nat) (listed : Array Bool) (s : Nat → AV) (a : Act) (w : World), R l n B ⟨s, H⟩ a w →
    anyA P l n H md ops Q fuel listed s → wpAny P md ops Q' fuel listed a w
  | 0, _, _, _, _, hR, h => ⟨h.1, hQ _ _ _ hR h.2⟩
  | fuel + 1, _, _, _, _, hR, h => ⟨fun h0 => hQ _ _ _ hR (h.1 h0), fun i hi => wpOp_of_opA hq hR (fun s' a' w' hR' hA => wpAny_of_anyA hq hQ fuel _ s' a' w' hR' hA) (h.2 i hi)⟩

theorem awp_drawn {id : Nat} {ops : List Oper} {σ : St} {Q : Exit → St → Prop} (hm : P.follows .mixedOrders = true) (hB : Region.lexB .any ops.toArray = true) (hq : ops.all quietB = true)
    (h : qOps P l n (ops.map (·.dst)) ops (Q .normal) σ) : AWp P l n B (.region id ops.toArray true) Q σ := by
  intro a w hR
  obtain ⟨s, H⟩ := σ
  simp only [Region.lexB, Bool.and_eq_true] at hB
  have hA := anyA_lex (P := P) (l := l) (n := n) (H := H) (md := .any) (ops := ops.toArray) (K := Q .normal) ops 0 (Array.replicate ops.toArray.size false) s hq (by simp) (by simpa using hB.2) (by simpa using h)
  have hR' : R l n B ⟨s, H⟩ a { w with drawn := w.drawn + 1 } := by
    obtain ⟨m, S, hO, hn, hdf, hS, hex⟩ := hR.un
    obtain ⟨h1, h2⟩ := hO.drew (w' := { w with drawn := w.drawn + 1 }) rfl rfl rfl rfl
    exact R.keep h1 hn hdf hS hex h2
  refine wp_region_any hm (wpAny_of_anyA (Q := fun s' => Q .normal ⟨s', H⟩) (fun o ho => by
    have := List.all_eq_true.1 hq
    exact this o (by simpa using ho)) (fun s' a' w' hR'' hq' => ⟨_, hq', hR''⟩) _ _ s a _ hR' (by simpa using hA))
end
end Go.Eng
