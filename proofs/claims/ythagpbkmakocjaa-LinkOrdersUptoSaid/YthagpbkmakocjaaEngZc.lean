/-
  Calls that write, or that hand out a new block: regions cut at such a call; a function's contract where blocks come in.
-/
import Derived.Test.YthagpbkmakocjaaEngZb
namespace Go.Eng
set_option linter.all false
open Go Go.RowKit

/-! ### A region, operation by operation -/
def putHs (r : Ren) : List (Key × Blk) → Hp → Hp
  | [], H => H
  | (k, b) :: rest, H => putHs r rest (updH H (r.κ k) (renB r k b))
/-- a call whose outcome is known: what it yields, the blocks that it has written or made, and which of them bear another generation from now on -/
def CallH (P : Program) (l : Nat) (r : Ren) (f : FuncId) (xs : List AV) (hb : List (Key × Blk)) (x : AV) (hb2 : List (Key × Blk)) (fr : List Key) : Prop :=
  ∀ H', (∀ p ∈ hb, (H' (r.κ p.1)).g = r.γ p.1 + p.2.g ∧ (p.2.live = true → H' (r.κ p.1) = renB r p.1 p.2)) → (∀ k : Key, k.1 ≤ l → ¬ r.no k → H' k = r.H0 k) →
    ACall P f (l + 1) (rens r xs) H' (fun y H'' => ∃ γ' : Key → Nat, (∀ k, k ∉ fr → γ' k = r.γ k) ∧ y = ren ⟨r.κ, γ', r.θ, r.H0, r.no⟩ x ∧ H'' = putHs ⟨r.κ, γ', r.θ, r.H0, r.no⟩ hb2 H')

mutual
/-- does a value name one of the keys? -/
def namesK (fr : List Key) : AV → Bool
  | .ref k _ _ _ => fr.any (keyB k)
  | .ptr k _ _ => fr.any (keyB k)
  | .fn _ xs ys => namesKs fr xs || namesKs fr ys
  | .agg xs => namesKs fr xs
  | .tup xs => namesKs fr xs
  | .top => false
  | .d _ => false
  | .e0 => false
  | .p _ => false
  | .iptr _ _ => false
def namesKs (fr : List Key) : List AV → Bool
  | [] => false
  | x :: xs => namesK fr x || namesKs fr xs
end
def dropS (fr : List Key) : List (Nat × AV) → List (Nat × AV)
  | [] => []
  | (j, x) :: r => (j, match namesK fr x with | true => .top | false => x) :: dropS fr r
/-- the blocks that are kept: not those that the call has written, none that names a key whose generation turns -/
def dropH (ks fr fl : List Key) : List (Key × Blk) → List (Key × Blk)
  | [] => []
  | (k, b) :: r => match ks.any (keyB k), fl.any (keyB k) || !namesKs fr b.cells with
    | false, true => (k, b) :: dropH ks fr fl r
    | _, _ => dropH (k :: ks) fr fl r
def dstS : Option Nat → AV → List (Nat × AV) → List (Nat × AV)
  | some d, x, r => (d, x) :: r
  | none, _, r => r
def okK (os : Nat) (k : Key) : Bool := Nat.beq k.1 1 || (Nat.beq k.1 0 && Nat.ble (k.2 + 1) os)
def okHb (os : Nat) : List (Key × Blk) → Bool
  | [] => true
  | (k, b) :: r => okK os k && b.live && !(r.any fun p => keyB k p.1) && okHb os r

mutual
theorem namesK_ren {r : Ren} {γ' : Key → Nat} {fr : List Key} (hγ : ∀ k, k ∉ fr → γ' k = r.γ k) : ∀ (x : AV), namesK fr x = false → ren ⟨r.κ, γ', r.θ, r.H0, r.no⟩ x = ren r x
  | .ref k g off n, h => by simp only [namesK] at h; simp only [ren]; rw [hγ k (not_any h)]
  | .ptr k g off, h => by simp only [namesK] at h; simp only [ren]; rw [hγ k (not_any h)]
  | .fn f xs ys, h => by
    simp only [namesK, Bool.or_eq_false_iff] at h
    have e1 := namesKs_ren hγ xs h.1
    have e2 := namesKs_ren hγ ys h.2
    cases f <;> simp only [ren, e1, e2]
  | .agg xs, h => by simp only [namesK] at h; simp only [ren, namesKs_ren hγ xs h]
  | .tup xs, h => by simp only [namesK] at h; simp only [ren, namesKs_ren hγ xs h]
  | .top, _ => by simp [ren]
  | .d _, _ => by simp [ren]
  | .e0, _ => by simp [ren]
  | .p _, _ => by simp [ren]
  | .iptr _ _, _ => by simp [ren]
theorem namesKs_ren {r : Ren} {γ' : Key → Nat} {fr : List Key} (hγ : ∀ k, k ∉ fr → γ' k = r.γ k) : ∀ (xs : List AV), namesKs fr xs = false → rens ⟨r.κ, γ', r.θ, r.H0, r.no⟩ xs = rens r xs
  | [], _ => by simp [rens]
  | x :: xs, h => by
    simp only [namesKs, Bool.or_eq_false_iff] at h
    simp only [rens, namesK_ren hγ x h.1, namesKs_ren hγ xs h.2]
theorem not_any {k : Key} {fr : List Key} (h : fr.any (keyB k) = false) : k ∉ fr := fun hm => by
  have : fr.any (keyB k) = true := List.any_eq_true.2 ⟨k, hm, keyB_eq.2 rfl⟩
  rw [this] at h; cases h
end

def opsOf : Code → Array Oper
  | .region _ ops _ => ops
  | _ => #[]
def isReg : Code → Bool
  | .region _ _ false => true
  | _ => false
def dropX {α : Type} : Nat → List α → List α
  | 0, l => l
  | _ + 1, [] => []
  | n + 1, _ :: l => dropX n l
def takeY {α : Type} : Nat → List α → List α
  | 0, _ => []
  | _ + 1, [] => []
  | n + 1, x :: l => x :: takeY n l
theorem dropX_eq {α : Type} : ∀ (n : Nat) (l : List α), dropX n l = l.drop n
  | 0, l => rfl
  | n + 1, [] => rfl
  | n + 1, x :: l => dropX_eq n l
theorem takeY_eq {α : Type} : ∀ (n : Nat) (l : List α), takeY n l = l.take n
  | 0, l => rfl
  | n + 1, [] => rfl
  | n + 1, x :: l => by rw [takeY, takeY_eq n l]; rfl
/-- what is shown of a region's operations from the k-th one on -/
def LO (P : Program) (n : Nat) (C : Cx) (c : Code) (k : Nat) (τ : St) (Q : Exit → St → Prop) : Prop :=
  ∀ γ σ act w, C.G γ → RG (C.r γ) C.l C.outs [] τ σ → R C.l n C.B σ act w → wpList P (opsOf c) (fun e a' w' => ∃ σ', Is n C (Q e) σ' ∧ R C.l n C.B σ' a' w') ((opsOf c).toList.drop k) act w
/-- the k-th operation, if it is a call of a function value without a guard: where its result goes, the function, the arguments -/
def callAt (c : Code) (k : Nat) : Option (Option Nat × Operand × List Operand) :=
  match nth (opsOf c).toList k with
  | some o => (match o.guard, o.op with
    | none, .call cl => (match cl.callee with | .value f => some (o.dst, f, cl.args.toList) | _ => none)
    | _, _ => none)
  | none => none
def wrL (C : Cx) : List (Key × Blk) → Prop
  | [] => True
  | (k, _) :: r => match Nat.beq k.1 1 with | true => wrL C r | false => C.no (C.κ k) ∧ wrL C r
def flL (H : Hp) : List Key → Prop
  | [] => True
  | k :: r => FlatC (H k).cells ∧ flL H r
def subK (fr : List Key) (hb2 : List (Key × Blk)) : Bool := fr.all fun k => hb2.any fun p => keyB k p.1
def apartK (fr : List Key) (fx : List Nat) : Bool := fr.all fun k => !(Nat.beq k.1 0 && fx.any (Nat.beq k.2))
def gens0 : List (Key × Blk) → Bool
  | [] => true
  | (_, b) :: r => Nat.beq b.g 0 && gens0 r
def dstU : Option Nat → (Nat → AV) → AV → Nat → AV
  | some d, s, v => upd s d v
  | none, s, _ => s
def dstOk (n : Nat) : Option Nat → Bool
  | some d => Nat.ble (d + 1) n
  | none => true

section
variable {P : Program} {T : Nat → Option TI} {n : Nat} {C : Cx} {τ : St} {Q : Exit → St → Prop}
theorem LW_region' {c : Code} (hc : isReg c = true) (h : LO P n C c 0 τ Q) : LW P n C c τ Q := by
  cases c with
  | region id ops dr =>
    cases dr with
    | true => cases hc
    | false =>
      obtain ⟨opl, rfl⟩ : ∃ l : List Oper, ops = l.toArray := ⟨ops.toList, by simp⟩
      intro γ σ hg hG act w hR
      have := h γ σ act w hg hG hR
      simp only [opsOf, List.drop_zero] at this
      exact wp_region_lit this
  | _ => cases hc
theorem LO_pre (hC : CxOk C) (hT : TOk P T) {os : Nat} {fx : List Nat} (hO : C.outs = os) (hF : C.fx = fx) {c : Code} {k : Nat} (m : Nat) (a : AT) (lf : Lf) (q : Ren → (St → Prop) → Prop)
    (hq : ∀ r Φ, cmds r os a τ (fun τ a => pOps P T C.l n r ((opsOf c).toList.map (·.dst)) (takeY m (dropX k (opsOf c).toList)) [] a (fun τ' env a' => cmds r os a' (mask env τ') (fun τ _ => leafP fx lf τ Φ)) τ) = q r Φ)
    (h : ∀ r, r.θ = C.θ → r.H0 = C.H0 → r.κ = C.κ → r.no = C.no → q r (fun τ' => LO P n C c (k + m) τ' Q)) : LO P n C c k τ Q := by
  subst hO
  subst hF
  intro γ σ act w hg hG hR
  have h1 := h (C.r γ) rfl rfl rfl rfl
  rw [← hq] at h1
  obtain ⟨τ₁, a₁, σ₁, h2, hG1, hw1⟩ := cmds_sound (n := n) hC a h1 hG
  have e : (opsOf c).toList.drop k = takeY m (dropX k (opsOf c).toList) ++ (opsOf c).toList.drop (k + m) := by
    rw [takeY_eq, dropX_eq, ← List.drop_drop, List.take_append_drop]
  rw [e]
  refine pOps_list (hC.ren γ) hT (B := C.B) _ (fun τ' env' a' σ' act' w' k1 k2 k3 => ?_) _ [] a₁ τ₁ σ₁ act w h2 hG1 (hw1 _ _ hR)
  obtain ⟨σ₂, g1, g2⟩ := mask_sound (n := n) k2
  obtain ⟨τ₃, a₃, σ₃, f1, f2, f3⟩ := cmds_sound (n := n) hC a' k1 g1
  obtain ⟨γ', τ₄, σ₄, j0, j1, j2, j3⟩ := leaf_sound (n := n) hC f1 hg f2
  exact j1 γ' σ₄ act' w' j0 j2 (j3 _ _ (f3 _ _ (g2 _ _ k3)))
theorem LO_end (hC : CxOk C) (hT : TOk P T) {os : Nat} {fx : List Nat} (hO : C.outs = os) (hF : C.fx = fx) {c : Code} {k : Nat} (a : AT) (lf : Lf) (q : Ren → (Exit → St → Prop) → Prop)
    (hq : ∀ r Φ, cmds r os a τ (fun τ a => pOps P T C.l n r ((opsOf c).toList.map (·.dst)) (dropX k (opsOf c).toList) [] a (fun τ' env a' => cmds r os a' (mask env τ') (fun τ _ => leafP fx lf τ (Φ .normal))) τ) = q r Φ)
    (h : ∀ r, r.θ = C.θ → r.H0 = C.H0 → r.κ = C.κ → r.no = C.no → q r Q) : LO P n C c k τ Q := by
  subst hO
  subst hF
  intro γ σ act w hg hG hR
  have h1 := h (C.r γ) rfl rfl rfl rfl
  rw [← hq] at h1
  obtain ⟨τ₁, a₁, σ₁, h2, hG1, hw1⟩ := cmds_sound (n := n) hC a h1 hG
  have e : (opsOf c).toList.drop k = dropX k (opsOf c).toList ++ [] := by rw [dropX_eq, List.append_nil]
  rw [e]
  refine pOps_list (hC.ren γ) hT (B := C.B) _ (fun τ' env' a' σ' act' w' k1 k2 k3 => ?_) _ [] a₁ τ₁ σ₁ act w h2 hG1 (hw1 _ _ hR)
  obtain ⟨σ₂, g1, g2⟩ := mask_sound (n := n) k2
  obtain ⟨τ₃, a₃, σ₃, f1, f2, f3⟩ := cmds_sound (n := n) hC a' k1 g1
  obtain ⟨γ', τ₄, σ₄, j0, j1, j2, j3⟩ := leaf_sound (n := n) hC f1 hg f2
  unfold wpList
  exact ⟨σ₄, ⟨γ', τ₄, σ₄, j0, j1, j2, Wk.refl _⟩, j3 _ _ (f3 _ _ (g2 _ _ k3))⟩

theorem gens0_at : ∀ {hs : List (Key × Blk)}, gens0 hs = true → ∀ k, (lkH hs k).g = 0
  | [], _, k => rfl
  | (k', b) :: r, h, k => by
    simp only [gens0, Bool.and_eq_true] at h
    simp only [lkH]
    split
    · exact Nat.eq_of_beq_eq_true h.1
    · exact gens0_at h.2 k
theorem any_keyB {k : Key} {ks : List Key} : ks.any (keyB k) = true ↔ k ∈ ks := by
  rw [List.any_eq_true]
  exact ⟨fun ⟨q, h1, h2⟩ => by rw [keyB_eq.1 h2]; exact h1, fun h => ⟨k, h, keyB_eq.2 rfl⟩⟩
theorem lkH_app (a b : List (Key × Blk)) (k : Key) : lkH (a ++ b) k = if k ∈ a.map (·.1) then lkH a k else lkH b k := by
  induction a with
  | nil => simp
  | cons p a ih =>
    obtain ⟨q, b'⟩ := p
    simp only [List.cons_append, lkH, List.map_cons, List.mem_cons]
    cases hq : keyB q k with
    | true => rw [if_pos (.inl (keyB_eq.1 hq).symm)]
    | false =>
      have : k ≠ q := fun e => by rw [keyB_eq.2 e.symm] at hq; cases hq
      simp only [this, false_or]
      exact ih
theorem lkH_mem : ∀ {hs : List (Key × Blk)} {k : Key}, (lkH hs k).live = true → ∃ b, (k, b) ∈ hs ∧ lkH hs k = b
  | [], k, h => by simp [lkH, dead] at h
  | (q, b) :: r, k, h => by
    simp only [lkH] at h ⊢
    cases hq : keyB q k with
    | true => rw [keyB_eq.1 hq]; exact ⟨b, List.mem_cons_self .., rfl⟩
    | false =>
      rw [hq] at h
      obtain ⟨b', h1, h2⟩ := lkH_mem h
      exact ⟨b', List.mem_cons_of_mem _ h1, h2⟩
theorem dropH_spec {fr fl : List Key} : ∀ (hs : List (Key × Blk)) (ks : List Key) (k : Key), (k ∈ ks → lkH (dropH ks fr fl hs) k = dead) ∧ (k ∉ ks → (lkH (dropH ks fr fl hs) k = lkH hs k ∧ (k ∈ fl ∨ namesKs fr (lkH hs k).cells = false)) ∨ lkH (dropH ks fr fl hs) k = dead)
  | [], ks, k => ⟨fun _ => rfl, fun _ => .inr rfl⟩
  | (q, b) :: r, ks, k => by
    simp only [dropH]
    split
    · rename_i h1 h2
      have hqk : q ∉ ks := fun hm => by rw [any_keyB.2 hm] at h1; cases h1
      simp only [lkH]
      cases hq : keyB q k with
      | true =>
        have hq := keyB_eq.1 hq
        subst hq
        refine ⟨fun h => absurd h hqk, fun _ => .inl ⟨rfl, ?_⟩⟩
        simp only [Bool.or_eq_true, Bool.not_eq_true'] at h2
        rcases h2 with h2 | h2
        · exact .inl (any_keyB.1 h2)
        · exact .inr h2
      | false => exact dropH_spec r ks k
    · obtain ⟨h1, h2⟩ := dropH_spec (fr := fr) (fl := fl) r (q :: ks) k
      refine ⟨fun h => h1 (List.mem_cons_of_mem _ h), fun h => ?_⟩
      by_cases hq : k = q
      · exact .inr (h1 (by rw [hq]; exact List.mem_cons_self ..))
      · rcases h2 (fun hm => (List.mem_cons.1 hm).elim hq h) with ⟨e1, e2⟩ | e
        · have : keyB q k = false := by
            cases hb : keyB q k with
            | true => exact absurd (keyB_eq.1 hb).symm hq
            | false => rfl
          simp only [lkH, this]
          exact .inl ⟨e1, e2⟩
        · exact .inr e
theorem putHs_other {r : Ren} : ∀ (hb2 : List (Key × Blk)) (H : Hp) (q : Key), (∀ p ∈ hb2, r.κ p.1 ≠ q) → putHs r hb2 H q = H q
  | [], H, q, h => rfl
  | (k, b) :: rest, H, q, h => by
    simp only [putHs]
    rw [putHs_other rest _ q (fun p hp => h p (List.mem_cons_of_mem _ hp)), updH_ne _ _ (fun e => h (k, b) (List.mem_cons_self ..) e.symm)]
theorem putHs_at {r : Ren} {os : Nat} (hinj : ∀ q k : Key, okK os q = true → okK os k = true → q ≠ k → r.κ q ≠ r.κ k) : ∀ (hb2 : List (Key × Blk)) (H : Hp), okHb os hb2 = true → ∀ k b, (k, b) ∈ hb2 → putHs r hb2 H (r.κ k) = renB r k b ∧ lkH hb2 k = b ∧ okK os k = true ∧ b.live = true
  | [], H, _, k, b, hm => by cases hm
  | (q, c) :: rest, H, hok, k, b, hm => by
    simp only [okHb, Bool.and_eq_true, Bool.not_eq_true'] at hok
    obtain ⟨⟨⟨h1, h2⟩, h3⟩, h4⟩ := hok
    have hno : ∀ p ∈ rest, p.1 ≠ q := fun p hp e => by
      have : (rest.any fun p => keyB q p.1) = true := List.any_eq_true.2 ⟨p, hp, keyB_eq.2 e.symm⟩
      rw [this] at h3; cases h3
    have hoks : ∀ (l : List (Key × Blk)), okHb os l = true → ∀ p ∈ l, okK os p.1 = true := by
      intro l
      induction l with
      | nil => intro _ p hp; cases hp
      | cons p l ih =>
        obtain ⟨p1, p2⟩ := p
        intro hl p hp
        simp only [okHb, Bool.and_eq_true] at hl
        rcases List.mem_cons.1 hp with rfl | hp
        · exact hl.1.1.1
        · exact ih hl.2 p hp
    simp only [putHs]
    rcases List.mem_cons.1 hm with e | hm
    · cases e
      refine ⟨?_, by simp only [lkH, keyB_eq.2 rfl], h1, h2⟩
      rw [putHs_other rest _ _ (fun p hp => hinj _ _ (hoks rest h4 p hp) h1 (hno p hp)), updH_same]
    · obtain ⟨g1, g2, g3, g4⟩ := putHs_at hinj rest (updH H (r.κ q) (renB r q c)) h4 k b hm
      refine ⟨g1, ?_, g3, g4⟩
      have : keyB q k = false := by
        cases hb : keyB q k with
        | true => exact absurd (keyB_eq.1 hb).symm (hno _ hm)
        | false => rfl
      simp only [lkH, this]
      exact g2
theorem wrL_at : ∀ {hb2 : List (Key × Blk)}, wrL C hb2 → ∀ p ∈ hb2, p.1.1 ≠ 1 → C.no (C.κ p.1)
  | (k, b) :: r, h, p, hp, hne => by
    simp only [wrL] at h
    split at h
    · rename_i hk
      rcases List.mem_cons.1 hp with rfl | hp
      · exact absurd (Nat.eq_of_beq_eq_true hk) hne
      · exact wrL_at h p hp hne
    · rcases List.mem_cons.1 hp with rfl | hp
      · exact h.1
      · exact wrL_at h.2 p hp hne
theorem flL_at {H : Hp} : ∀ {ks : List Key}, flL H ks → ∀ k ∈ ks, FlatC (H k).cells
  | q :: r, h, k, hk => by
    rcases List.mem_cons.1 hk with rfl | hk
    · exact h.1
    · exact flL_at h.2 k hk
theorem okK_lk {os : Nat} {k : Key} (h : okK os k = true) : k.1 = 1 ∨ (k.1 = 0 ∧ k.2 < os) := by
  simp only [okK, Bool.or_eq_true, Bool.and_eq_true] at h
  rcases h with h | ⟨h1, h2⟩
  · exact .inl (Nat.eq_of_beq_eq_true h)
  · exact .inr ⟨Nat.eq_of_beq_eq_true h1, Nat.le_of_ble_eq_true h2⟩
theorem dropS_at {fr : List Key} : ∀ (ss : List (Nat × AV)) (j : Nat), lkS (dropS fr ss) j = .top ∨ (lkS (dropS fr ss) j = lkS ss j ∧ namesK fr (lkS ss j) = false)
  | [], j => .inl rfl
  | (i, x) :: r, j => by
    simp only [dropS, lkS]
    split
    · split
      · exact .inl rfl
      · rename_i h; exact .inr ⟨rfl, h⟩
    · exact dropS_at r j

/-- a call that writes, or that hands out a new block -/
theorem LO_call (hC : CxOk C) {os : Nat} {fx : List Nat} (hO : C.outs = os) (hF : C.fx = fx) {c : Code} {k : Nat} {ss : List (Nat × AV)} {hs : List (Key × Blk)} (dst : Option Nat) (fo : Operand) (as : List Operand) (hop : callAt c k = some (dst, fo, as))
    (f : FuncId) (first caps xs : List AV) (hf : ev (lkS ss) fo = .fn (.func f) first caps) (hxs : first ++ as.map (ev (lkS ss)) ++ caps = xs) (ks : List Key) (hb : List (Key × Blk)) (hhb : (ks.map fun k => (k, lkH hs k)) = hb)
    (x : AV) (hb2 : List (Key × Blk)) (fr fl : List Key) (hok : (okHb os hb2 && subK fr hb2 && apartK fr fx && gens0 hs && dstOk n dst && ks.all (okK os)) = true) (hwr : wrL C hb2) (hfl : flL (lkH hs) fl)
    (hcall : ∀ r : Ren, r.θ = C.θ → r.H0 = C.H0 → r.κ = C.κ → r.no = C.no → CallH P C.l r f xs hb x hb2 fr)
    (h : LO P n C c (k + 1) (mkS (dstS dst x (dropS fr ss)) (hb2 ++ dropH (hb2.map (·.1)) fr fl hs)) Q) : LO P n C c k (mkS ss hs) Q := by
  subst hO
  subst hF
  simp only [Bool.and_eq_true] at hok
  obtain ⟨⟨⟨⟨⟨k1, k2⟩, k3⟩, k4⟩, k5⟩, k6⟩ := hok
  intro γ σ act w hg hG hR
  have hr := hC.ren γ
  have hs' : ∀ j, σ.s j = ren (C.r γ) (lkS ss j) := fun j => (hG.s j).1 satC_nil
  have heval : ∀ y : Operand, ev σ.s y = ren (C.r γ) (ev (lkS ss) y) := fun y => ev_ren (c := []) hG satC_nil (by cases y <;> rfl)
  -- the operation
  unfold callAt at hop
  split at hop
  case h_2 => cases hop
  rename_i o ho
  split at hop
  case h_2 => cases hop
  rename_i cl hgd hopc
  split at hop
  case h_2 => cases hop
  rename_i fo' hcal
  simp only [Option.some.injEq, Prod.mk.injEq] at hop
  obtain ⟨hd, rfl, rfl⟩ := hop
  rw [nth_eq] at ho
  have hlt : k < (opsOf c).toList.length := by
    rcases Nat.lt_or_ge k (opsOf c).toList.length with h | h
    · exact h
    · rw [List.getElem?_eq_none h] at ho; cases ho
  have hrest : (opsOf c).toList.drop k = o :: (opsOf c).toList.drop (k + 1) := by
    rw [List.drop_eq_getElem_cons hlt]
    rw [List.getElem?_eq_getElem hlt] at ho
    simp only [Option.some.injEq] at ho
    rw [ho]
  rw [hrest]
  have hinj : ∀ q k : Key, okK C.outs q = true → okK C.outs k = true → q ≠ k → (C.r γ).κ q ≠ (C.r γ).κ k := fun q k h1 h2 h3 => hr.ne (okK_lk h1) (okK_lk h2) h3
  -- the callee's contract
  have hA := hcall (C.r γ) rfl rfl rfl rfl σ.H (fun p hp => by
    rw [← hhb] at hp
    obtain ⟨q, hq, rfl⟩ := List.mem_map.1 hp
    have hq' := okK_lk (List.all_eq_true.1 k6 q hq)
    refine ⟨?_, fun hl => hG.h q hl⟩
    obtain ⟨q1, q2⟩ := q
    simp only at hq'
    rcases hq' with rfl | ⟨rfl, h2⟩
    · have := hG.g q2
      rw [← hr.own] at this
      exact this
    · exact hG.go q2 h2) hG.o
  have hargs : rens (C.r γ) xs = rens (C.r γ) first ++ cl.args.toList.map (ev σ.s) ++ rens (C.r γ) caps := by
    rw [← hxs, rens_app, rens_app]
    congr 2
    rw [rens_eq, List.map_map]
    exact List.map_congr_left fun y _ => (heval y).symm
  have hfe : ev σ.s fo' = .fn (.func f) (rens (C.r γ) first) (rens (C.r γ) caps) := by rw [heval, hf]; simp [ren]
  have hrop : rOp P C.l n o (fun σ' => ∃ γ' : Key → Nat, (∀ q, q ∉ fr → γ' q = γ q) ∧ σ' = ⟨dstU dst σ.s (ren (C.r γ') x), putHs (C.r γ') hb2 σ.H⟩) σ := by
    unfold rOp
    rw [hopc]
    simp only [hcal, hfe]
    rw [hargs] at hA
    refine hA.mono fun y H'' ⟨γ', e1, e2, e3⟩ => ?_
    unfold retK putK
    rw [hd]
    cases dst with
    | none => exact ⟨γ', e1, by rw [e3]; rfl⟩
    | some d => exact ⟨Nat.le_of_ble_eq_true k5, γ', e1, by rw [e2, e3]; rfl⟩
  refine wpList_of_AOp (by simp [Region.wanted, hgd]) (rOp_sound hrop) hR fun σ' act' w' hK hR' => ?_
  obtain ⟨γ', e1, rfl⟩ := hK
  -- the state behind
  have hsub : ∀ q, q ∈ fr → ∃ b, (q, b) ∈ hb2 := fun q hq => by
    obtain ⟨p, hp, hk⟩ := List.any_eq_true.1 (List.all_eq_true.1 k2 q hq)
    rw [keyB_eq.1 hk]; exact ⟨p.2, hp⟩
  let τ2 : St := mkS (dstS dst x (dropS fr ss)) (hb2 ++ dropH (hb2.map (·.1)) fr fl hs)
  have hlow : ∀ q, lkH (hb2 ++ dropH (hb2.map (·.1)) fr fl hs) q = if q ∈ hb2.map (·.1) then lkH hb2 q else lkH (dropH (hb2.map (·.1)) fr fl hs) q := fun q => lkH_app _ _ _
  have hin : ∀ q, q ∈ hb2.map (·.1) → ∃ b, (q, b) ∈ hb2 := fun q hq => by obtain ⟨p, hp, rfl⟩ := List.mem_map.1 hq; exact ⟨p.2, hp⟩
  have hput : ∀ q b, (q, b) ∈ hb2 → putHs (C.r γ') hb2 σ.H ((C.r γ').κ q) = renB (C.r γ') q b ∧ lkH hb2 q = b ∧ okK C.outs q = true ∧ b.live = true := putHs_at (r := C.r γ') hinj hb2 σ.H k1
  have hkeep : ∀ q, q ∉ hb2.map (·.1) → okK C.outs q = true → putHs (C.r γ') hb2 σ.H ((C.r γ').κ q) = σ.H ((C.r γ').κ q) ∧ γ' q = γ q := fun q hq hkq => by
    refine ⟨putHs_other _ _ _ fun p hp => hinj _ _ (hput p.1 p.2 hp).2.2.1 hkq fun e => hq (List.mem_map.2 ⟨p, hp, e⟩), e1 q fun hf => ?_⟩
    obtain ⟨b, hb⟩ := hsub q hf
    exact hq (List.mem_map.2 ⟨_, hb, rfl⟩)
  have hgen : ∀ q, okK C.outs q = true → (σ.H (C.κ q)).g = γ q → (putHs (C.r γ') hb2 σ.H (C.κ q)).g = γ' q + (lkH (hb2 ++ dropH (hb2.map (·.1)) fr fl hs) q).g := fun q hkq hq0 => by
    rw [hlow]
    split
    · rename_i hm
      obtain ⟨b, hb⟩ := hin q hm
      obtain ⟨a1, a2, _⟩ := hput q b hb
      rw [show C.κ q = (C.r γ').κ q from rfl, a1, a2]
      rfl
    · rename_i hm
      obtain ⟨a1, a2⟩ := hkeep q hm hkq
      rw [show C.κ q = (C.r γ').κ q from rfl, a1, a2]
      have : (lkH (dropH (hb2.map (·.1)) fr fl hs) q).g = 0 := by
        rcases (dropH_spec (fr := fr) (fl := fl) hs (hb2.map (·.1)) q).2 hm with ⟨e, _⟩ | e
        · rw [e]; exact gens0_at k4 q
        · rw [e]; rfl
      rw [this]
      exact hq0
  have hG2 : RG (C.r γ') C.l C.outs [] τ2 ⟨fun j => ren (C.r γ') (τ2.s j), putHs (C.r γ') hb2 σ.H⟩ := by
    refine ⟨fun j => ⟨fun _ => rfl, fun hn => absurd satC_nil hn⟩, fun q hq => ?_, fun d => ?_, fun i hi => ?_, fun q hq => ?_, fun q hq hn => ?_⟩
    · show putHs (C.r γ') hb2 σ.H ((C.r γ').κ q) = renB (C.r γ') q (lkH (hb2 ++ dropH (hb2.map (·.1)) fr fl hs) q)
      replace hq : (lkH (hb2 ++ dropH (hb2.map (·.1)) fr fl hs) q).live = true := hq
      rw [hlow] at hq ⊢
      split at hq
      · rename_i hm
        rw [if_pos hm]
        obtain ⟨b, hb⟩ := hin q hm
        obtain ⟨a1, a2, _⟩ := hput q b hb
        rw [a1, a2]
      · rename_i hm
        rw [if_neg hm]
        rcases (dropH_spec (fr := fr) (fl := fl) hs (hb2.map (·.1)) q).2 hm with ⟨e, e'⟩ | e
        · rw [e] at hq ⊢
          have hkq := hG.k q hq
          have hok : okK C.outs q = true := by
            obtain ⟨q1, q2⟩ := q
            simp only at hkq
            simp only [okK, Bool.or_eq_true, Bool.and_eq_true]
            rcases hkq with rfl | ⟨rfl, h2⟩
            · exact .inl rfl
            · exact .inr ⟨rfl, Nat.ble_eq_true_of_le h2⟩
          obtain ⟨a1, a2⟩ := hkeep q hm hok
          rw [a1]
          have hb := hG.h q hq
          have hcells : rens (C.r γ') (lkH hs q).cells = rens (C.r γ) (lkH hs q).cells := by
            rcases e' with e' | e'
            · rw [flatC_rens (flL_at hfl q e'), flatC_rens (flL_at hfl q e')]
            · exact namesKs_ren (r := C.r γ) e1 _ e'
          show σ.H ((C.r γ).κ q) = _
          rw [hb]
          simp only [renB]
          rw [hcells, show (C.r γ').γ q = γ' q from rfl, a2]
          rfl
        · rw [e] at hq; cases hq
    · have := hgen (1, d) rfl (by
        have := hG.g d
        rw [show ((mkS ss hs).H (1, d)).g = 0 from gens0_at k4 _] at this
        rw [hC.own]; exact this)
      rw [hC.own] at this
      exact this
    · exact hgen (0, i) (by simp only [okK, Bool.or_eq_true, Bool.and_eq_true]; exact .inr ⟨rfl, Nat.ble_eq_true_of_le hi⟩) (by
        have := hG.go i hi
        rw [show ((mkS ss hs).H (0, i)).g = 0 from gens0_at k4 _] at this
        exact this)
    · replace hq : (lkH (hb2 ++ dropH (hb2.map (·.1)) fr fl hs) q).live = true := hq
      rw [hlow] at hq
      split at hq
      · rename_i hm
        obtain ⟨b, hb⟩ := hin q hm
        exact okK_lk (hput q b hb).2.2.1
      · rename_i hm
        rcases (dropH_spec (fr := fr) (fl := fl) hs (hb2.map (·.1)) q).2 hm with ⟨e, e'⟩ | e
        · rw [e] at hq; exact hG.k q hq
        · rw [e] at hq; cases hq
    · show putHs (C.r γ') hb2 σ.H q = C.H0 q
      rw [putHs_other _ _ _ fun p hp e => ?_]
      · exact hG.o q hq hn
      · by_cases h1 : p.1.1 = 1
        · obtain ⟨⟨p1, p2⟩, p3⟩ := p
          simp only at h1
          subst h1
          rw [show (C.r γ').κ (1, p2) = (C.l + 1, p2) from hC.own p2] at e
          rw [← e] at hq
          simp at hq
          omega
        · exact hn (by rw [← e]; exact wrL_at hwr p hp h1)
  refine h γ' _ act' w' (hC.G γ γ' (fun i hi => e1 _ fun hm => ?_) hg) hG2 (R.weaken hR' fun j => ?_)
  · have := List.all_eq_true.1 k3 _ hm
    simp only [Bool.not_eq_true', Bool.and_eq_false_iff] at this
    rcases this with h | h
    · cases h
    · have : (C.fx.any (Nat.beq i)) = true := List.any_eq_true.2 ⟨i, hi, by simp⟩
      rw [this] at h; cases h
  · have old : ren (C.r γ') (lkS (dropS fr ss) j) = σ.s j ∨ ren (C.r γ') (lkS (dropS fr ss) j) = .top := by
      rcases dropS_at (fr := fr) ss j with e | ⟨e, e'⟩
      · right; rw [e]; simp [ren]
      · left
        rw [e, hs' j]
        exact namesK_ren (r := C.r γ) e1 _ e'
    show ren (C.r γ') (lkS (dstS dst x (dropS fr ss)) j) = _ ∨ ren (C.r γ') (lkS (dstS dst x (dropS fr ss)) j) = .top
    cases dst with
    | none => exact old
    | some d =>
      simp only [dstS, lkS, dstU, upd]
      cases hj : Nat.beq d j with
      | true =>
        have := Nat.eq_of_beq_eq_true hj
        subst this
        left; rw [if_pos rfl]
      | false =>
        have : j ≠ d := fun e => by rw [e] at hj; simp at hj
        rw [if_neg this]
        exact old
end
end Go.Eng
