/-
  A run at known arguments, reckoned whole by the kernel (part 4): results, calls, functions.
-/
import Derived.Test.YthagpbkmakocjaaEngRp
namespace Go.Eng
set_option linter.all false
open Go Go.RowKit

/-! ### Values under other names -/
mutual
def mapA (φ : Key → Option Key) : AV → Option AV
  | .ref k g off n => match φ k with | some k' => some (.ref k' g off n) | none => none
  | .ptr k g off => match φ k with | some k' => some (.ptr k' g off) | none => none
  | .fn f xs ys => match noYd f, mapAs φ xs, mapAs φ ys with | true, some xs, some ys => some (.fn f xs ys) | _, _, _ => none
  | .agg xs => match mapAs φ xs with | some xs => some (.agg xs) | none => none
  | .tup xs => match mapAs φ xs with | some xs => some (.tup xs) | none => none
  | .top => some .top
  | .d x => some (.d x)
  | .e0 => some .e0
  | .p x => some (.p x)
  | .iptr cs off => some (.iptr cs off)
def mapAs (φ : Key → Option Key) : List AV → Option (List AV)
  | [] => some []
  | x :: xs => match mapA φ x, mapAs φ xs with | some x, some xs => some (x :: xs) | _, _ => none
end
section
variable {φ : Key → Option Key} {r r' : Ren}
mutual
theorem mapA_ren (h : ∀ k k', φ k = some k' → r'.κ k' = r.κ k ∧ r'.γ k' = r.γ k) : ∀ {x y : AV}, mapA φ x = some y → ren r' y = ren r x
  | .ref k g off n, y, e => by
    simp only [mapA] at e
    split at e
    · rename_i k' e1; cases e; simp only [ren, (h k k' e1).1, (h k k' e1).2]
    · cases e
  | .ptr k g off, y, e => by
    simp only [mapA] at e
    split at e
    · rename_i k' e1; cases e; simp only [ren, (h k k' e1).1, (h k k' e1).2]
    · cases e
  | .fn f xs ys, y, e => by
    simp only [mapA] at e
    split at e
    · rename_i xs' ys' e1 e2 e3
      cases e
      have h1 := mapAs_ren h e2
      have h2 := mapAs_ren h e3
      cases f <;> first | (cases e1; done) | simp only [ren, h1, h2]
    · cases e
  | .agg xs, y, e => by
    simp only [mapA] at e
    split at e
    · rename_i xs' e1; cases e; simp only [ren, mapAs_ren h e1]
    · cases e
  | .tup xs, y, e => by
    simp only [mapA] at e
    split at e
    · rename_i xs' e1; cases e; simp only [ren, mapAs_ren h e1]
    · cases e
  | .top, y, e => by simp only [mapA] at e; cases e; simp [ren]
  | .d _, y, e => by simp only [mapA] at e; cases e; simp [ren]
  | .e0, y, e => by simp only [mapA] at e; cases e; simp [ren]
  | .p _, y, e => by simp only [mapA] at e; cases e; simp [ren]
  | .iptr _ _, y, e => by simp only [mapA] at e; cases e; simp [ren]
theorem mapAs_ren (h : ∀ k k', φ k = some k' → r'.κ k' = r.κ k ∧ r'.γ k' = r.γ k) : ∀ {xs ys : List AV}, mapAs φ xs = some ys → rens r' ys = rens r xs
  | [], ys, e => by simp only [mapAs] at e; cases e; simp [rens]
  | x :: xs, ys, e => by
    simp only [mapAs] at e
    split at e
    · rename_i x' xs' e1 e2; cases e; simp only [rens, mapA_ren h e1, mapAs_ren h e2]
    · cases e
end
end
/-- no key in it -/
def kfree (xs : List AV) : Bool := match mapAs (fun _ => none) xs with | some _ => true | none => false
mutual
theorem mapA_none {r : Ren} : ∀ {x y : AV}, mapA (fun _ => none) x = some y → y = x ∧ ren r x = x
  | .ref k g off n, y, e => by simp [mapA] at e
  | .ptr k g off, y, e => by simp [mapA] at e
  | .fn f xs ys, y, e => by
    simp only [mapA] at e
    split at e
    · rename_i xs' ys' e1 e2 e3
      cases e
      obtain ⟨a1, a2⟩ := mapAs_none (r := r) e2
      obtain ⟨b1, b2⟩ := mapAs_none (r := r) e3
      cases f <;> first | (cases e1; done) | exact ⟨by rw [a1, b1], by simp only [ren, a2, b2]⟩
    · cases e
  | .agg xs, y, e => by
    simp only [mapA] at e
    split at e
    · rename_i xs' e1
      cases e
      obtain ⟨a1, a2⟩ := mapAs_none (r := r) e1
      exact ⟨by rw [a1], by simp only [ren, a2]⟩
    · cases e
  | .tup xs, y, e => by
    simp only [mapA] at e
    split at e
    · rename_i xs' e1
      cases e
      obtain ⟨a1, a2⟩ := mapAs_none (r := r) e1
      exact ⟨by rw [a1], by simp only [ren, a2]⟩
    · cases e
  | .top, y, e => by simp only [mapA] at e; cases e; exact ⟨rfl, by simp [ren]⟩
  | .d _, y, e => by simp only [mapA] at e; cases e; exact ⟨rfl, by simp [ren]⟩
  | .e0, y, e => by simp only [mapA] at e; cases e; exact ⟨rfl, by simp [ren]⟩
  | .p _, y, e => by simp only [mapA] at e; cases e; exact ⟨rfl, by simp [ren]⟩
  | .iptr _ _, y, e => by simp only [mapA] at e; cases e; exact ⟨rfl, by simp [ren]⟩
theorem mapAs_none {r : Ren} : ∀ {xs ys : List AV}, mapAs (fun _ => none) xs = some ys → ys = xs ∧ rens r xs = xs
  | [], ys, e => by simp only [mapAs] at e; cases e; exact ⟨rfl, by simp [rens]⟩
  | x :: xs, ys, e => by
    simp only [mapAs] at e
    split at e
    · rename_i x' xs' e1 e2
      cases e
      obtain ⟨a1, a2⟩ := mapA_none (r := r) e1
      obtain ⟨b1, b2⟩ := mapAs_none (r := r) e2
      exact ⟨by rw [a1, b1], by simp only [rens, a2, b2]⟩
    · cases e
end
theorem kfree_ren {xs : List AV} (h : kfree xs = true) (r : Ren) : rens r xs = xs := by
  unfold kfree at h
  split at h
  · rename_i e; exact (mapAs_none e).2
  · cases h

/-! ### Results -/
def rowD : Nat → List AV → Option (List D × List AV)
  | 0, C => some ([], C)
  | n + 1, .d x :: C => match rowD n C with | some (e, r) => some (x :: e, r) | none => none
  | _, _ => none
theorem rowD_snd : ∀ {n : Nat} {C : List AV} {e : List D} {r : List AV}, rowD n C = some (e, r) → e.length = n ∧ C = e.map .d ++ r
  | 0, C, e, r, h => by simp only [rowD, Option.some.injEq, Prod.mk.injEq] at h; obtain ⟨rfl, rfl⟩ := h; exact ⟨rfl, rfl⟩
  | n + 1, C, e, r, h => by
    cases C with
    | nil => simp [rowD] at h
    | cons x C =>
      cases x <;> simp only [rowD] at h <;> try (cases h; done)
      split at h
      · rename_i e' r' e1
        cases h
        obtain ⟨h1, h2⟩ := rowD_snd e1
        exact ⟨by simp [h1], by simp [h2]⟩
      · cases h
def rowsD (sz : Nat) : Nat → List AV → Option (List (List D))
  | 0, _ => some []
  | n + 1, C => match rowD sz C with
    | some (e, r) => (match rowsD sz n r with | some es => some (e :: es) | none => none)
    | none => none
theorem rowsD_snd {sz : Nat} : ∀ {n : Nat} {C : List AV} {es : List (List D)}, rowsD sz n C = some es → es.length = n ∧ (∀ e ∈ es, e.length = sz) ∧ ∃ r, C = es.flatten.map .d ++ r
  | 0, C, es, h => by simp only [rowsD, Option.some.injEq] at h; subst h; exact ⟨rfl, fun e he => (by cases he), C, by simp⟩
  | n + 1, C, es, h => by
    unfold rowsD at h
    split at h
    · rename_i e r e1
      split at h
      · rename_i es' e2
        cases h
        obtain ⟨h1, h2⟩ := rowD_snd e1
        obtain ⟨h3, h4, q, h5⟩ := rowsD_snd e2
        refine ⟨by simp [h3], fun x hx => ?_, q, by simp [h2, h5]⟩
        rcases List.mem_cons.1 hx with rfl | hx
        · exact h1
        · exact h4 x hx
      · cases h
    · cases h
theorem flat_len' {sz : Nat} : ∀ {es : List (List D)}, (∀ e ∈ es, e.length = sz) → es.flatten.length = es.length * sz
  | [], _ => by simp
  | e :: es, h => by
    rw [List.flatten_cons, List.length_append, h e (List.mem_cons_self ..), flat_len' (fun x hx => h x (List.mem_cons_of_mem _ hx)), List.length_cons, Nat.add_mul]; omega
mutual
def cFrz (H : Hp) : AV → Option AV
  | .d x => some (.d x)
  | .e0 => some (.d (.list []))
  | .agg xs => match cFrzs H xs with | some ys => some (.agg ys) | none => none
  | .ref k g off n => match Nat.beq k.1 0, Nat.beq k.1 1, liveB H k g with
    | true, _, true => some (.ref k g off n)
    | false, true, true => (match Nat.ble 1 (H k).sz, Nat.ble (off * (H k).sz) (H k).cells.length, rowsD (H k).sz n ((H k).cells.drop (off * (H k).sz)) with
      | true, true, some es => some (.d (.list es))
      | _, _, _ => none)
    | _, _, _ => none
  | _ => none
def cFrzs (H : Hp) : List AV → Option (List AV)
  | [] => some []
  | x :: xs => match cFrz H x, cFrzs H xs with | some y, some ys => some (y :: ys) | _, _ => none
end
mutual
theorem cFrz_snd {H : Hp} : ∀ {x y : AV} {b : AT}, cFrz H x = some y → ∃ a, ∀ K : AV → AT → Prop, K y b → frz H x a K
  | .d x, y, b, h => by simp only [cFrz] at h; cases h; exact ⟨b, fun K hK => by unfold frz; exact hK⟩
  | .e0, y, b, h => by simp only [cFrz] at h; cases h; exact ⟨b, fun K hK => by unfold frz; exact hK⟩
  | .agg xs, y, b, h => by
    simp only [cFrz] at h
    split at h
    · rename_i ys e
      cases h
      obtain ⟨a, ha⟩ := cFrzs_snd (b := b) e
      exact ⟨a, fun K hK => by unfold frz; exact ha _ hK⟩
    · cases h
  | .ref k g off n, y, b, h => by
    simp only [cFrz] at h
    split at h
    · rename_i e1 e2
      cases h
      exact ⟨b, fun K hK => by unfold frz; simp only [e1, e2]; exact hK⟩
    · rename_i e1 e2 e3
      split at h
      · rename_i es f1 f2 f3
        cases h
        refine ⟨.av (.d (.list es)) b, fun K hK => ?_⟩
        unfold frz
        simp only [e1, e2, e3]
        obtain ⟨h1, h2, q, h3⟩ := rowsD_snd f3
        have hl := congrArg List.length h3
        have f1 := Nat.le_of_ble_eq_true f1
        have f2 := Nat.le_of_ble_eq_true f2
        rw [List.length_drop, List.length_append, List.length_map, flat_len' h2, h1] at hl
        refine ⟨⟨h1, by omega, h2, ?_, ?_⟩, hK⟩
        · rw [Nat.add_mul]; omega
        · rw [h3, List.take_append_of_le_length (by rw [List.length_map, flat_len' h2, h1]; exact Nat.le_refl _), List.take_of_length_le (by rw [List.length_map, flat_len' h2, h1]; exact Nat.le_refl _)]
      · cases h
    · cases h
  | .top, y, b, h => by simp [cFrz] at h
  | .p _, y, b, h => by simp [cFrz] at h
  | .ptr _ _ _, y, b, h => by simp [cFrz] at h
  | .iptr _ _, y, b, h => by simp [cFrz] at h
  | .fn _ _ _, y, b, h => by simp [cFrz] at h
  | .tup _, y, b, h => by simp [cFrz] at h
theorem cFrzs_snd {H : Hp} : ∀ {xs ys : List AV} {b : AT}, cFrzs H xs = some ys → ∃ a, ∀ K : List AV → AT → Prop, K ys b → frzs H xs a K
  | [], ys, b, h => by simp only [cFrzs] at h; cases h; exact ⟨b, fun K hK => by unfold frzs; exact hK⟩
  | x :: xs, ys, b, h => by
    simp only [cFrzs] at h
    split at h
    · rename_i y ys' e1 e2
      cases h
      obtain ⟨a2, h2⟩ := cFrzs_snd (b := b) e2
      obtain ⟨a1, h1⟩ := cFrz_snd (b := a2) e1
      exact ⟨a1, fun K hK => by unfold frzs; exact h1 _ (h2 _ hK)⟩
    · cases h
end
def cLdR (T : Nat → Option TI) (τ : St) : ResultVar → Option AV
  | .tmp t => some (τ.s t)
  | .cell p t => match τ.s p, T t with
    | .ptr k g off, some i => (match liveB τ.H k g, i.agg with
      | true, true => (match Nat.ble 1 i.siz, takeX i.siz ((τ.H k).cells.drop off) with | true, some c => some (.agg c) | _, _ => none)
      | true, false => nth (τ.H k).cells off
      | false, _ => none)
    | _, _ => none
theorem cLdR_snd {T : Nat → Option TI} {τ : St} {v : ResultVar} {x : AV} (h : cLdR T τ v = some x) {K : AV → Prop} (hK : K x) : ldR T τ v K := by
  cases v with
  | tmp t => simp only [cLdR] at h; cases h; exact hK
  | cell p t =>
    simp only [cLdR] at h
    simp only [ldR]
    split at h
    · rename_i k g off i e1 e2
      simp only [e1, e2]
      split at h
      · rename_i e3 e4
        simp only [e3, e4]
        split at h
        · rename_i c e5 e6; cases h; simp only [e5, e6]; exact hK
        · cases h
      · rename_i e3 e4; simp only [e3, e4, h]; exact hK
      · cases h
    · cases h
def cLdRs (T : Nat → Option TI) (τ : St) : List ResultVar → Option (List AV)
  | [] => some []
  | v :: vs => match cLdR T τ v, cLdRs T τ vs with | some x, some xs => some (x :: xs) | _, _ => none
theorem cLdRs_snd {T : Nat → Option TI} {τ : St} : ∀ {vs : List ResultVar} {xs : List AV}, cLdRs T τ vs = some xs → ∀ K : List AV → Prop, K xs → ldRs T τ vs K
  | [], xs, h, K, hK => by simp only [cLdRs] at h; cases h; exact hK
  | v :: vs, xs, h, K, hK => by
    simp only [cLdRs] at h
    split at h
    · rename_i x xs' e1 e2
      cases h
      unfold ldRs
      exact cLdR_snd e1 (cLdRs_snd e2 _ hK)
    · cases h
def cFin (T : Nat → Option TI) (rs : List ResultVar) (os : Nat) (τ : St) : Option (AV × List Blk) :=
  match cLdRs T τ rs with
  | some xs => (match cFrzs τ.H xs with | some ys => some (tupA ys, outsL τ.H os 0) | none => none)
  | none => none
theorem cFin_snd {T : Nat → Option TI} {rs : List ResultVar} {os : Nat} {τ : St} {p : AV × List Blk} (h : cFin T rs os τ = some p) : ∃ a, pFin T rs os τ a (fun y b => y = p.1 ∧ b = p.2) := by
  unfold cFin at h
  split at h
  · rename_i xs e1
    split at h
    · rename_i ys e2
      cases h
      obtain ⟨a, ha⟩ := cFrzs_snd (b := .nil) e2
      exact ⟨a, cLdRs_snd e1 _ (ha _ ⟨rfl, rfl⟩)⟩
    · cases h
  · cases h
def allD : List AV → Bool
  | [] => true
  | .d _ :: r => allD r
  | _ => false
theorem allD_at : ∀ {cs : List AV}, allD cs = true → FlatC' cs
  | [], _, x, hx => by cases hx
  | y :: r, h, x, hx => by
    cases y <;> simp only [allD] at h <;> try (cases h; done)
    rcases List.mem_cons.1 hx with rfl | hx
    · rfl
    · exact allD_at h x hx
/-- the end: a new block may be handed out (under the last of the names that came in) -/
def cMv (os d t : Nat) (T : Nat → Option TI) (τ : St) : Option (AV × List Blk) :=
  match os with
  | 0 => none
  | j + 1 => match (τ.H (1, d)).live, allD (τ.H (1, d)).cells with
    | true, true => cFin T [.tmp t] (j + 1) ⟨fun i => mvA (1, d) (0, j) (τ.H (1, d)).g ((τ.H (0, j)).g + 1) (τ.s i),
        updH (updH τ.H (1, d) ⟨(τ.H (1, d)).g, false, (τ.H (1, d)).e, (τ.H (1, d)).sz, (τ.H (1, d)).cells⟩) (0, j) ⟨(τ.H (0, j)).g + 1, true, (τ.H (1, d)).e, (τ.H (1, d)).sz, (τ.H (1, d)).cells⟩⟩
    | _, _ => none
def cEnd (T : Nat → Option TI) (rs : List ResultVar) (os : Nat) (lv : Option (TypeId × Nat)) (τ : St) : Option (AV × List Blk) :=
  match lv with
  | none => cFin T rs os τ
  | some (e, sz) => match rs with
    | [.tmp t] => (match τ.s t with
      | .ref (1, d) _ _ _ => cMv os d t T τ
      | .e0 => cMv os t t T ⟨upd τ.s t (.ref (1, t) ((τ.H (1, t)).g + 1) 0 0), updH τ.H (1, t) ⟨(τ.H (1, t)).g + 1, true, e, sz, []⟩⟩
      | _ => none)
    | _ => none
theorem cMv_snd {T : Nat → Option TI} {os d t : Nat} {τ : St} {p : AV × List Blk} (h : cMv os d t T τ = some p) {r : Ren} (hr : NoOk os r) : ∃ b, cmds r os (.mv d (os - 1) b) τ (fun τ' a => pFin T [.tmp t] os τ' a (fun y b => y = p.1 ∧ b = p.2)) := by
  unfold cMv at h
  split at h
  · cases h
  · rename_i j
    split at h
    · rename_i e1 e2
      obtain ⟨a, ha⟩ := cFin_snd h
      refine ⟨.sep a, ?_⟩
      simp only [cmds, e1, Nat.add_sub_cancel]
      exact ⟨allD_at e2, ⟨Nat.lt_succ_self j, hr j (Nat.lt_succ_self j)⟩, ha⟩
    · cases h
theorem cEnd_snd {T : Nat → Option TI} {rs : List ResultVar} {os : Nat} {lv : Option (TypeId × Nat)} {τ : St} {p : AV × List Blk} (h : cEnd T rs os lv τ = some p) {r : Ren} (hr : NoOk os r) : ∃ a, cmds r os a τ (fun τ' a => pFin T rs os τ' a (fun y b => y = p.1 ∧ b = p.2)) := by
  unfold cEnd at h
  split at h
  · obtain ⟨a, ha⟩ := cFin_snd h
    exact ⟨.sep a, ha⟩
  · rename_i e sz
    split at h
    · rename_i t
      split at h
      · rename_i d _ _ _ _
        obtain ⟨b, hb⟩ := cMv_snd h hr
        exact ⟨_, hb⟩
      · rename_i e1
        obtain ⟨b, hb⟩ := cMv_snd h hr
        refine ⟨.ads t t e sz (.mv t (os - 1) b), ?_⟩
        have e2 : isE0 (τ.s t) = true := by rw [e1]; rfl
        simp only [cmds, e2]
        simp only [cmds] at hb
        exact hb
      · cases h
    · cases h
section
variable {P : Program} {T : Nat → Option TI} {n os : Nat} {τ : St}
theorem LW_fin3 {C : Cx} (hC : CxOk C) {c : Code} {Q : Exit → St → Prop} (hO : C.outs = os) (hN : ∀ i, i < os → C.no (C.κ (0, i))) {rs : List ResultVar} {lv : Option (TypeId × Nat)} {p : AV × List Blk} (h : LW P n C c τ Q)
    (hq : ∀ e τ', Q e τ' → (e = .normal ∨ e = .ret) ∧ cEnd T rs os lv τ' = some p) : LW P n C c τ (FQ T rs os (fun y b => y = p.1 ∧ b = p.2)) := by
  subst hO
  intro γ σ hg hG
  refine awp_mono (h γ σ hg hG) fun e σ' hi => ?_
  obtain ⟨γ', τ', σ'', h0, h1, h2, h3⟩ := hi
  obtain ⟨h4, h5⟩ := hq e τ' h1
  obtain ⟨a, ha⟩ := cEnd_snd h5 (r := C.r γ') hN
  obtain ⟨τ₁, a₁, σ₁, k1, k2, k3⟩ := cmds_sound (n := n) hC a ha h2
  exact ⟨γ', τ₁, σ₁, h0, ⟨h4, a₁, k1⟩, k2, h3.trans k3⟩
end
end Go.Eng
