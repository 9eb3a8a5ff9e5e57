/-
  A run at known arguments, reckoned whole by the kernel (part 5): calls and functions.
-/
import Derived.Test.YthagpbkmakocjaaEngRq
namespace Go.Eng
set_option linter.all false
open Go Go.RowKit

/-! ### Equal results -/
mutual
def eD1 : D → D → Bool
  | .int k m, .int k' n => ikB k k' && decide (m = n)
  | .bool a, .bool b => beqB a b
  | .str s, .str t => eqS s t
  | .list es, .list fs => eD3 es fs
  | _, _ => false
def eD2 : List D → List D → Bool
  | [], [] => true
  | x :: xs, y :: ys => eD1 x y && eD2 xs ys
  | _, _ => false
def eD3 : List (List D) → List (List D) → Bool
  | [], [] => true
  | x :: xs, y :: ys => eD2 x y && eD3 xs ys
  | _, _ => false
end
mutual
theorem eD1_eq : ∀ {x y : D}, eD1 x y = true → x = y
  | .int k m, y, h => by
    cases y <;> simp only [eD1] at h <;> try (cases h; done)
    rw [Bool.and_eq_true] at h
    rw [ikB_eq h.1, of_decide_eq_true h.2]
  | .bool a, y, h => by
    cases y <;> simp only [eD1] at h <;> try (cases h; done)
    rw [beqB_true.1 h]
  | .str s, y, h => by
    cases y <;> simp only [eD1] at h <;> try (cases h; done)
    rw [eqS_eq] at h
    rw [of_decide_eq_true h]
  | .list es, y, h => by
    cases y <;> simp only [eD1] at h <;> try (cases h; done)
    rw [eD3_eq h]
theorem eD2_eq : ∀ {x y : List D}, eD2 x y = true → x = y
  | [], y, h => by cases y <;> simp only [eD2] at h <;> first | rfl | (cases h; done)
  | x :: xs, y, h => by
    cases y <;> simp only [eD2] at h <;> try (cases h; done)
    rw [Bool.and_eq_true] at h
    rw [eD1_eq h.1, eD2_eq h.2]
theorem eD3_eq : ∀ {x y : List (List D)}, eD3 x y = true → x = y
  | [], y, h => by cases y <;> simp only [eD3] at h <;> first | rfl | (cases h; done)
  | x :: xs, y, h => by
    cases y <;> simp only [eD3] at h <;> try (cases h; done)
    rw [Bool.and_eq_true] at h
    rw [eD2_eq h.1, eD3_eq h.2]
end
mutual
def eA1 : AV → AV → Bool
  | .d x, .d y => eD1 x y
  | .e0, .e0 => true
  | .ref k g off n, .ref k' g' off' n' => keyB k k' && Nat.beq g g' && Nat.beq off off' && Nat.beq n n'
  | .agg xs, .agg ys => eA2 xs ys
  | .tup xs, .tup ys => eA2 xs ys
  | _, _ => false
def eA2 : List AV → List AV → Bool
  | [], [] => true
  | x :: xs, y :: ys => eA1 x y && eA2 xs ys
  | _, _ => false
end
mutual
theorem eA1_eq : ∀ {x y : AV}, eA1 x y = true → x = y
  | .d x, y, h => by
    cases y <;> simp only [eA1] at h <;> try (cases h; done)
    rw [eD1_eq h]
  | .e0, y, h => by cases y <;> simp only [eA1] at h <;> first | rfl | (cases h; done)
  | .ref k g off n, y, h => by
    cases y <;> simp only [eA1] at h <;> try (cases h; done)
    simp only [Bool.and_eq_true] at h
    rw [keyB_eq.1 h.1.1.1, Nat.eq_of_beq_eq_true h.1.1.2, Nat.eq_of_beq_eq_true h.1.2, Nat.eq_of_beq_eq_true h.2]
  | .agg xs, y, h => by
    cases y <;> simp only [eA1] at h <;> try (cases h; done)
    rw [eA2_eq h]
  | .tup xs, y, h => by
    cases y <;> simp only [eA1] at h <;> try (cases h; done)
    rw [eA2_eq h]
  | .top, y, h => by simp [eA1] at h
  | .p _, y, h => by simp [eA1] at h
  | .ptr _ _ _, y, h => by simp [eA1] at h
  | .iptr _ _, y, h => by simp [eA1] at h
  | .fn _ _ _, y, h => by simp [eA1] at h
theorem eA2_eq : ∀ {x y : List AV}, eA2 x y = true → x = y
  | [], y, h => by cases y <;> simp only [eA2] at h <;> first | rfl | (cases h; done)
  | x :: xs, y, h => by
    cases y <;> simp only [eA2] at h <;> try (cases h; done)
    rw [Bool.and_eq_true] at h
    rw [eA1_eq h.1, eA2_eq h.2]
end
def eB (a b : Blk) : Bool := Nat.beq a.g b.g && beqB a.live b.live && Nat.beq a.e b.e && Nat.beq a.sz b.sz && eA2 a.cells b.cells
theorem eB_eq {a b : Blk} (h : eB a b = true) : a = b := by
  unfold eB at h
  simp only [Bool.and_eq_true] at h
  obtain ⟨⟨⟨⟨h1, h2⟩, h3⟩, h4⟩, h5⟩ := h
  have h3 : a.e = b.e := Nat.eq_of_beq_eq_true h3
  cases a; cases b
  simp only at h1 h2 h3 h4 h5
  rw [Nat.eq_of_beq_eq_true h1, beqB_true.1 h2, h3, Nat.eq_of_beq_eq_true h4, eA2_eq h5]
def eBs : List Blk → List Blk → Bool
  | [], [] => true
  | x :: xs, y :: ys => eB x y && eBs xs ys
  | _, _ => false
theorem eBs_eq : ∀ {x y : List Blk}, eBs x y = true → x = y
  | [], y, h => by cases y <;> simp only [eBs] at h <;> first | rfl | (cases h; done)
  | x :: xs, y, h => by
    cases y <;> simp only [eBs] at h <;> try (cases h; done)
    rw [Bool.and_eq_true] at h
    rw [eB_eq h.1, eBs_eq h.2]
/-- all ends are alike -/
def cAll (T : Nat → Option TI) (rs : List ResultVar) (os : Nat) (lv : Option (TypeId × Nat)) (p : AV × List Blk) : List (Exit × RS) → Bool
  | [] => true
  | (e, st) :: r => match e, cEnd T rs os lv st.st with
    | .normal, some q => eA1 q.1 p.1 && eBs q.2 p.2 && cAll T rs os lv p r
    | .ret, some q => eA1 q.1 p.1 && eBs q.2 p.2 && cAll T rs os lv p r
    | _, _ => false
theorem cAll_snd {T : Nat → Option TI} {rs : List ResultVar} {os : Nat} {lv : Option (TypeId × Nat)} {p : AV × List Blk} : ∀ {outs : List (Exit × RS)}, cAll T rs os lv p outs = true → ∀ e st, (e, st) ∈ outs → (e = .normal ∨ e = .ret) ∧ cEnd T rs os lv st.st = some p
  | [], _, e, st, h => by cases h
  | (e', st') :: r, h, e, st, hm => by
    unfold cAll at h
    split at h
    · rename_i q e1
      simp only [Bool.and_eq_true] at h
      have hq : q = p := Prod.ext (eA1_eq h.1.1) (eBs_eq h.1.2)
      rcases List.mem_cons.1 hm with hm | hm
      · cases hm; exact ⟨.inl rfl, by rw [e1, hq]⟩
      · exact cAll_snd h.2 e st hm
    · rename_i q e1
      simp only [Bool.and_eq_true] at h
      have hq : q = p := Prod.ext (eA1_eq h.1.1) (eBs_eq h.1.2)
      rcases List.mem_cons.1 hm with hm | hm
      · cases hm; exact ⟨.inr rfl, by rw [e1, hq]⟩
      · exact cAll_snd h.2 e st hm
    · cases h

/-! ### Functions -/
abbrev FRun := FuncId → List AV → Nat → List (Key × Blk) → Option (TypeId × Nat) → Option (AV × List Blk)
def liveAll : List Blk → Bool
  | [] => true
  | b :: r => b.live && liveAll r
theorem liveAll_at : ∀ {bs : List Blk}, liveAll bs = true → ∀ b ∈ bs, b.live = true
  | [], _, b, hb => by cases hb
  | x :: r, h, b, hb => by
    simp only [liveAll, Bool.and_eq_true] at h
    rcases List.mem_cons.1 hb with rfl | hb
    · exact h.1
    · exact liveAll_at h.2 b hb
/-- what is shown of a run -/
def SndF (P : Program) (ρ : FRun) : Prop := ∀ f ys os hs lv Y bs, ρ f ys os hs lv = some (Y, bs) → bs.length = os ∧ ∀ (l : Nat) (ks : List Key) (gs : List Nat) (θ : Nat → AV) (H : Hp) (xs : List AV) (Y' : AV) (bs' : List Blk) (Post : AV → Hp → Prop),
  ks.length = os → lowK l ks → ks.Nodup → HOk H (rOf l ks gs θ H) hs 0 ks → rens (rOf l ks gs θ H) ys = xs → (∀ r, NmO l ks gs r → ren r Y = Y') → (∀ r, NmO l ks gs r → renBs r 0 bs = bs') → Post Y' (updP H ks bs') → ACall P f l xs H Post
def fBs {β : Type} (bs : List Blk) (K : List Blk → β) : β := match bs with
  | [] => K []
  | ⟨g, l, e, sz, cs⟩ :: r => fN g fun g => fN e fun e => fN sz fun sz => fAs cs fun cs => (match l with | true => fBs r fun r => K (⟨g, true, e, sz, cs⟩ :: r) | false => fBs r fun r => K (⟨g, false, e, sz, cs⟩ :: r))
theorem fBs_eq {β : Type} : ∀ (bs : List Blk) (K : List Blk → β), fBs bs K = K bs
  | [], K => rfl
  | ⟨g, l, e, sz, cs⟩ :: r, K => by cases l <;> simp only [fBs, fN_eq, fAs_eq, fBs_eq r]
def runBody (P : Program) (T : Nat → Option TI) (lt : TypeId → Bool) (pc : FuncId → List AV → Option AV) (hc : Nat → Nat → Code → Nat → RS → Option RS) (lf : Nat) : FRun := fun f ys os hs lv =>
  match P.funcs[f]? with
  | some fn => (match fn.body with
    | some c => (match fn.name == "runtime.NumGoroutine", Nat.ble ys.length fn.ntmps, hsIn os hs with
      | false, true, true => (match runC T lt pc fn.ntmps os lf (hc fn.ntmps os) c ⟨zipS 0 ys, hs⟩ with
        | some ((e, st) :: r) => (match cEnd T fn.results.toList os lv st.st with
          | some (Y, bs) => (match cAll T fn.results.toList os lv (Y, bs) ((e, st) :: r), liveAll bs, Nat.beq bs.length os with
            | true, true, true => fA Y fun Y => fBs bs fun bs => some (Y, bs)
            | _, _, _ => none)
          | none => none)
        | _ => none)
      | _, _, _ => none)
    | none => none)
  | none => none
theorem runBody_snd {P : Program} {T : Nat → Option TI} {lt : TypeId → Bool} (hT : TOk P T) (hm : P.follows .mixedOrders = true) {pc : FuncId → List AV → Option AV} (hpc : PcOk P pc) {hc : Nat → Nat → Code → Nat → RS → Option RS} {lf : Nat}
    (hhc : ∀ n os C, CxOk C → C.outs = os → C.fx = upTo os → (∀ i, i < os → C.no (C.κ (0, i))) → HcOk P n C (hc n os)) : SndF P (runBody P T lt pc hc lf) := by
  intro f ys os hs lv Y bs h
  unfold runBody at h
  split at h
  case h_2 => cases h
  rename_i fn hf
  split at h
  case h_2 => cases h
  rename_i c hb
  split at h
  case h_2 => cases h
  rename_i h1 h2 h3
  split at h
  case h_2 => cases h
  rename_i e st r h4
  split at h
  case h_2 => cases h
  rename_i Y' bs' h5
  split at h
  case h_2 => cases h
  rename_i h6 h7 h8
  rw [fA_eq, fBs_eq] at h
  cases h
  have h8 := Nat.eq_of_beq_eq_true h8
  refine ⟨h8, fun l ks gs θ H xs Y' bs' Post k1 k2 k3 k4 k5 k6 k7 k8 => ?_⟩
  have hlen : xs.length = ys.length := by rw [← k5, rens_len]
  refine acall_outs' fn.results.toList c ks gs os θ ys hs Y bs hf hb h1 rfl rfl (by rw [hlen]; exact Nat.le_of_ble_eq_true h2) hT k1 k2 k3 h3 k4 k5 h8 (liveAll_at h7) k6 k7 (fun C hC hO hF _ _ _ hκ hno => ?_) k8
  have hN : ∀ i, i < os → C.no (C.κ (0, i)) := fun i hi => by
    rw [hno, hκ]
    show kOf l ks (0, i) ∈ ks
    have : ks[i]? = some (kOf l ks (0, i)) := by
      show _ = some (match nth ks i with | some k => k | none => (0, 0))
      rw [nth_eq, List.getElem?_eq_getElem (by omega)]
    exact List.mem_of_getElem? this
  exact LW_fin3 hC hO hN (runC_snd hC hT hm hO hF hN hpc (hhc _ _ C hC hO hF hN) c _ _ h4) fun e τ' ⟨st', hs', ht'⟩ => by
    subst ht'
    exact cAll_snd h6 e st' hs'

/-! ### Calls -/
def pcOf (ρ : FRun) (i : FuncId) (xs : List AV) : Option AV :=
  match kfree xs, ρ i xs 0 [] none with
  | true, some (x, _) => (match kfree [x] with | true => some x | false => none)
  | _, _ => none
theorem pcOf_ok {P : Program} {ρ : FRun} (h : SndF P ρ) : PcOk P (pcOf ρ) := fun i xs x e => by
  unfold pcOf at e
  split at e
  · rename_i x' bs e1 e2
    split at e
    · rename_i e3
      cases e
      have hx : ∀ r, ren r x = x := fun r => by
        have := kfree_ren e3 r
        simp only [rens, List.cons.injEq, and_true] at this
        exact this
      obtain ⟨h0, h1⟩ := h _ _ _ _ _ _ _ e2
      have hbs : bs = [] := List.length_eq_zero_iff.1 h0
      subst hbs
      exact ⟨fun r => kfree_ren e1 r, hx, fun l H => h1 l [] [] (fun _ => .top) H xs x [] _ rfl trivial List.nodup_nil trivial (kfree_ren e1 _) (fun r _ => hx r) (fun r _ => rfl) ⟨rfl, rfl⟩⟩
    · cases e
  · cases e
def idxK : List Key → Nat → Key → Option Key
  | [], _, _ => none
  | q :: r, i, k => match keyB q k with | true => some (0, i) | false => idxK r (Nat.succ i) k
theorem idxK_at : ∀ {ks : List Key} {i : Nat} {k k' : Key}, idxK ks i k = some k' → ∃ j, k' = (0, i + j) ∧ ks[j]? = some k
  | [], i, k, k', h => by simp [idxK] at h
  | q :: r, i, k, k', h => by
    unfold idxK at h
    split at h
    · rename_i e; cases h; exact ⟨0, rfl, by rw [keyB_eq.1 e]; rfl⟩
    · obtain ⟨j, h1, h2⟩ := idxK_at h
      exact ⟨j + 1, by rw [h1]; simp only [Nat.succ_eq_add_one, Prod.mk.injEq, true_and]; omega, by simpa using h2⟩
def bwdK (ks : List Key) : Key → Option Key
  | (0, i) => nth ks i
  | _ => none
def mkIn (φ : Key → Option Key) (H : Key → Blk) : Nat → List Key → Option (List (Key × Blk))
  | _, [] => some []
  | i, k :: r => match (H k).live with
    | false => mkIn φ H (Nat.succ i) r
    | true => match mapAs φ (H k).cells, mkIn φ H (Nat.succ i) r with
      | some cs, some q => some (((0, i), ⟨(H k).g, true, (H k).e, (H k).sz, cs⟩) :: q)
      | _, _ => none
theorem mkIn_low {φ : Key → Option Key} {H : Key → Blk} : ∀ {ks : List Key} {i : Nat} {q : List (Key × Blk)}, mkIn φ H i ks = some q → ∀ j, j < i → lkH q (0, j) = dead
  | [], i, q, h, j, hj => by simp only [mkIn] at h; cases h; rfl
  | k :: r, i, q, h, j, hj => by
    unfold mkIn at h
    split at h
    · exact mkIn_low h j (Nat.lt_succ_of_lt hj)
    · split at h
      · rename_i cs q' e1 e2
        cases h
        simp only [lkH]
        split
        · rename_i e
          have := congrArg Prod.snd (keyB_eq.1 e)
          simp only at this
          omega
        · exact mkIn_low e2 j (Nat.lt_succ_of_lt hj)
      · cases h
theorem mkIn_at {φ : Key → Option Key} {H : Key → Blk} : ∀ {ks : List Key} {i : Nat} {q : List (Key × Blk)}, mkIn φ H i ks = some q → ∀ j k, ks[j]? = some k →
    ((H k).live = true → ∃ cs, mapAs φ (H k).cells = some cs ∧ lkH q (0, i + j) = ⟨(H k).g, true, (H k).e, (H k).sz, cs⟩) ∧ ((H k).live = false → lkH q (0, i + j) = dead)
  | [], i, q, h, j, k, hk => by simp at hk
  | k' :: r, i, q, h, j, k, hk => by
    unfold mkIn at h
    cases j with
    | zero =>
      simp only [List.getElem?_cons_zero, Option.some.injEq] at hk
      subst hk
      split at h
      · rename_i e
        exact ⟨fun e' => (by rw [e] at e'; cases e'), fun _ => mkIn_low h i (Nat.lt_succ_self i)⟩
      · rename_i e
        split at h
        · rename_i cs q' e1 e2
          cases h
          refine ⟨fun _ => ⟨cs, e1, ?_⟩, fun e' => (by rw [e] at e'; cases e')⟩
          simp only [lkH, Nat.add_zero]
          rw [keyB_eq.2 rfl]
        · cases h
    | succ j =>
      have hk : r[j]? = some k := by simpa using hk
      have ei : i + (j + 1) = Nat.succ i + j := by omega
      split at h
      · rw [ei]; exact mkIn_at h j k hk
      · split at h
        · rename_i cs q' e1 e2
          cases h
          rw [ei]
          have := mkIn_at e2 j k hk
          have hne : keyB (0, i) (0, Nat.succ i + j) = false := by
            cases hb : keyB (0, i) (0, Nat.succ i + j) with
            | false => rfl
            | true =>
              have := congrArg Prod.snd (keyB_eq.1 hb)
              simp only at this
              omega
          simp only [lkH, hne]
          exact this
        · cases h
def mkOut (φ : Key → Option Key) : List Key → List Blk → Option (List (Key × Blk))
  | [], [] => some []
  | k :: ks, b :: bs => match mapAs φ b.cells, mkOut φ ks bs with | some cs, some q => some ((k, ⟨b.g, b.live, b.e, b.sz, cs⟩) :: q) | _, _ => none
  | _, _ => none
theorem mkOut_snd {φ : Key → Option Key} {r r' : Ren} (hφ : ∀ k k', φ k = some k' → r.κ k' = r'.κ k ∧ r.γ k' = r'.γ k) : ∀ {ks : List Key} {bs : List Blk} {q : List (Key × Blk)} (i : Nat), mkOut φ ks bs = some q →
    (∀ j k, ks[j]? = some k → r'.γ (0, i + j) = r.γ k) → renBs r' i bs = q.map (fun p => renB r p.1 p.2) ∧ q.map (·.1) = ks
  | [], bs, q, i, h, hγ => by
    cases bs with
    | nil => simp only [mkOut] at h; cases h; exact ⟨rfl, rfl⟩
    | cons => simp [mkOut] at h
  | k :: ks, bs, q, i, h, hγ => by
    cases bs with
    | nil => simp [mkOut] at h
    | cons b bs =>
      unfold mkOut at h
      split at h
      · rename_i cs q' e1 e2
        cases h
        obtain ⟨h1, h2⟩ := mkOut_snd hφ (i + 1) e2 (fun j k' hk => by
          have := hγ (j + 1) k' (by simpa using hk)
          rw [← this]; congr 2; omega)
        refine ⟨?_, by simp [h2]⟩
        simp only [renBs, List.map_cons, List.cons.injEq]
        refine ⟨?_, h1⟩
        have hg := hγ 0 k rfl
        rw [Nat.add_zero] at hg
        simp only [renB, hg, mapAs_ren hφ e1]
      · cases h
theorem updP_put {r : Ren} : ∀ (q : List (Key × Blk)) (H : Hp), updP H (q.map fun p => r.κ p.1) (q.map fun p => renB r p.1 p.2) = putHs r q H
  | [], H => rfl
  | (k, b) :: q, H => by simp only [List.map_cons, updP, putHs]; exact updP_put q _
def ndK : List Key → Bool
  | [] => true
  | k :: r => !(r.any (keyB k)) && ndK r
theorem ndK_at : ∀ {ks : List Key}, ndK ks = true → ks.Nodup
  | [], _ => List.nodup_nil
  | k :: r, h => by
    simp only [ndK, Bool.and_eq_true, Bool.not_eq_true'] at h
    refine List.nodup_cons.2 ⟨fun hm => ?_, ndK_at h.2⟩
    have := h.1
    rw [any_keyB.2 hm] at this
    cases this
theorem nodup_map {α β : Type} {f : α → β} : ∀ {l : List α}, (∀ a ∈ l, ∀ b ∈ l, f a = f b → a = b) → l.Nodup → (l.map f).Nodup
  | [], _, _ => List.nodup_nil
  | a :: l, h, hn => by
    rw [List.nodup_cons] at hn
    rw [List.map_cons, List.nodup_cons]
    refine ⟨fun hm => ?_, nodup_map (fun x hx y hy => h x (List.mem_cons_of_mem _ hx) y (List.mem_cons_of_mem _ hy)) hn.2⟩
    obtain ⟨b, hb, e⟩ := List.mem_map.1 hm
    have := h b (List.mem_cons_of_mem _ hb) a (List.mem_cons_self ..) e
    subst this
    exact hn.1 hb
section
variable {P : Program} {n os : Nat} {C : Cx}
theorem callH_run (hC : CxOk C) (hO : C.outs = os) {ρ : FRun} (hρ : SndF P ρ) {f : FuncId} {hs : List (Key × Blk)} {keys : List Key} {lv : Option (TypeId × Nat)} {xs ys : List AV} {hs' : List (Key × Blk)} {Y x : AV} {bs : List Blk} {hb2 : List (Key × Blk)}
    (hg : gens0 hs = true) (hk : keys.all (okK os) = true) (hn : ndK keys = true) (h1 : mapAs (idxK keys 0) xs = some ys) (h2 : mkIn (idxK keys 0) (lkH hs) 0 keys = some hs') (h3 : ρ f ys keys.length hs' lv = some (Y, bs))
    (h4 : mapA (bwdK keys) Y = some x) (h5 : mkOut (bwdK keys) keys bs = some hb2) (r : Ren) (hr : r.κ = C.κ) : CallH P C.l r f xs (keys.map fun k => (k, lkH hs k)) x hb2 [] := by
  subst hO
  intro H' hH _
  obtain ⟨_, hA⟩ := hρ _ _ _ _ _ _ _ h3
  have hok : ∀ k ∈ keys, k.1 = 1 ∨ (k.1 = 0 ∧ k.2 < C.outs) := fun k hm => okK_lk (List.all_eq_true.1 hk k hm)
  let ks := keys.map r.κ
  let gs := keys.map r.γ
  let R' := rOf (C.l + 1) ks gs (fun _ => .top) H'
  have hkO : ∀ j k, keys[j]? = some k → kOf (C.l + 1) ks (0, j) = r.κ k := fun j k hj => by
    show (match nth ks j with | some k => k | none => (0, 0)) = _
    rw [nth_eq, List.getElem?_map, hj]; rfl
  have hgO : ∀ j k, keys[j]? = some k → gOf gs (0, j) = r.γ k := fun j k hj => by
    show (match nth gs j with | some k => k | none => 0) = _
    rw [nth_eq, List.getElem?_map, hj]; rfl
  have hfwd : ∀ k k', idxK keys 0 k = some k' → R'.κ k' = r.κ k ∧ R'.γ k' = r.γ k := fun k k' e => by
    obtain ⟨j, rfl, hj⟩ := idxK_at e
    rw [Nat.zero_add]
    exact ⟨hkO j k hj, hgO j k hj⟩
  have hbwd : ∀ r', NmO (C.l + 1) ks gs r' → ∀ k k', bwdK keys k = some k' → r.κ k' = r'.κ k ∧ r.γ k' = r'.γ k := fun r' ⟨n1, n2⟩ k k' e => by
    unfold bwdK at e
    split at e
    · rename_i i
      rw [nth_eq] at e
      have hi : i < ks.length := by
        rw [List.length_map]
        rcases Nat.lt_or_ge i keys.length with h | h
        · exact h
        · rw [List.getElem?_eq_none h] at e; cases e
      rw [n1, n2 i hi]
      exact ⟨(hkO i k' e).symm, (hgO i k' e).symm⟩
    · cases e
  refine hA (C.l + 1) ks gs (fun _ => .top) H' _ (ren r x) (hb2.map fun p => renB r p.1 p.2) _ (List.length_map _) ?_ ?_ ?_ (mapAs_ren hfwd h1) (fun r' hn' => (mapA_ren (hbwd r' hn') h4).symm) (fun r' hn' => ?_) ?_
  · have : ∀ (l : List Key), (∀ k ∈ l, k.1 = 1 ∨ (k.1 = 0 ∧ k.2 < C.outs)) → lowK (C.l + 1) (l.map r.κ) := fun l => by
      induction l with
      | nil => intro _; trivial
      | cons k l ih =>
        intro h
        refine ⟨?_, ih fun q hq => h q (List.mem_cons_of_mem _ hq)⟩
        rw [hr]
        obtain ⟨k1, k2⟩ := k
        rcases h _ (List.mem_cons_self ..) with h | h
        · simp only at h
          subst h
          rw [hC.own]
          exact Nat.le_refl _
        · simp only at h
          obtain ⟨h, h'⟩ := h
          subst h
          exact Nat.le_succ_of_le (hC.out k2 h')
    exact this keys hok
  · refine nodup_map (fun a ha b hb e => ?_) (ndK_at hn)
    refine Classical.byContradiction fun hne => ?_
    rw [hr] at e
    exact (hC.ren r.γ).ne (hok a ha) (hok b hb) hne e
  · have : ∀ (l : List Key) (i : Nat), (∀ j k, l[j]? = some k → keys[i + j]? = some k) → HOk H' R' hs' i (l.map r.κ) := fun l => by
      induction l with
      | nil => intro i _; trivial
      | cons k l ih =>
        intro i h
        have hk0 := h 0 k rfl
        rw [Nat.add_zero] at hk0
        have hmem := List.mem_of_getElem? hk0
        obtain ⟨g1, g2⟩ := hH _ (List.mem_map.2 ⟨k, hmem, rfl⟩)
        obtain ⟨m1, m2⟩ := mkIn_at h2 i k hk0
        rw [Nat.zero_add] at m1 m2
        refine ⟨⟨?_, fun hl => ?_⟩, ih (i + 1) fun j q hq => by have := h (j + 1) q (by simpa using hq); rw [← this]; congr 1; omega⟩
        · show (H' (r.κ k)).g = gOf gs (0, i) + _
          rw [hgO i k hk0, g1]
          congr 1
          cases hl : (lkH hs k).live with
          | true => obtain ⟨cs, _, e⟩ := m1 hl; rw [e]
          | false => rw [m2 hl]; exact gens0_at hg k
        · cases hl' : (lkH hs k).live with
          | false => rw [m2 hl'] at hl; cases hl
          | true =>
            obtain ⟨cs, e1, e2⟩ := m1 hl'
            rw [g2 hl', e2]
            simp only [renB]
            rw [mapAs_ren hfwd e1]
            show _ = (⟨gOf gs (0, i) + _, _, _, _, _⟩ : Blk)
            rw [hgO i k hk0]
    exact this keys 0 fun j k h => by rw [Nat.zero_add]; exact h
  · exact (mkOut_snd (hbwd r' hn') 0 h5 fun j k hj => by
      rw [Nat.zero_add, hn'.2 j (by
        rw [List.length_map]
        rcases Nat.lt_or_ge j keys.length with h | h
        · exact h
        · rw [List.getElem?_eq_none h] at hj; cases hj)]
      exact hgO j k hj).1
  · refine ⟨r.γ, fun _ _ => rfl, rfl, ?_⟩
    have hN : NmO (C.l + 1) ks gs R' := ⟨rfl, fun _ _ => rfl⟩
    have := (mkOut_snd (hbwd R' hN) 0 h5 fun j k hj => by rw [Nat.zero_add]; exact hgO j k hj).2
    rw [show ks = hb2.map fun p => r.κ p.1 from by show keys.map r.κ = _; rw [← this, List.map_map]; rfl]
    exact updP_put hb2 H'
theorem wrL_ok (hO : C.outs = os) (hN : ∀ i, i < os → C.no (C.κ (0, i))) : ∀ {hb2 : List (Key × Blk)}, okHb os hb2 = true → wrL C hb2
  | [], _ => trivial
  | (k, b) :: r, h => by
    simp only [okHb, Bool.and_eq_true] at h
    unfold wrL
    split
    · exact wrL_ok hO hN h.2
    · rename_i e
      refine ⟨?_, wrL_ok hO hN h.2⟩
      rcases okK_lk h.1.1.1 with h1 | h1
      · rw [h1] at e; cases e
      · obtain ⟨k1, k2⟩ := k
        simp only at h1
        obtain ⟨rfl, h2⟩ := h1
        exact hN k2 h2
/-- slices.Grow of nil -/
def GrOk (P : Program) (gt : FuncId → Option (TypeId × Nat)) : Prop := ∀ f e sz, gt f = some (e, sz) → ∀ (l : Nat) (H : Hp) (k : Key) (g m : Nat) (Post : AV → Hp → Prop), k.1 ≤ l → (H k).g = g → m < 2147483648 → Post (.ref k (g + 1) 0 0) (updH H k ⟨g + 1, true, e, sz, []⟩) → ACall P f l [.e0, .d (.int .i64 (m : Nat))] H Post
/-- the state behind a call -/
def aft (c : Code) (k : Nat) (x : AV) (hb2 : List (Key × Blk)) (st : RS) : RS := ⟨dstS (callD c k) x (dropS [] st.ss), hb2 ++ dropH (hb2.map (·.1)) [] [] st.hs⟩
def okAll (n os : Nat) (c : Code) (k : Nat) (hs hb2 : List (Key × Blk)) (keys : List Key) : Bool := okHb os hb2 && subK [] hb2 && apartK [] (upTo os) && gens0 hs && dstOk n (callD c k) && keys.all (okK os)
def hcRun (ρ : FRun) (n os : Nat) (c : Code) (k : Nat) (st : RS) (f : FuncId) (xs : List AV) (keys : List Key) (lv : Option (TypeId × Nat)) : Option RS :=
  match mapAs (idxK keys 0) xs, mkIn (idxK keys 0) (lkH st.hs) 0 keys with
  | some ys, some hs' => fAs ys fun ys => (match ρ f ys keys.length hs' lv with
    | some (Y, bs) => (match mapA (bwdK keys) Y, mkOut (bwdK keys) keys bs with
      | some x, some hb2 => (match okAll n os c k st.hs hb2 keys, ndK keys with
        | true, true => some (aft c k x hb2 st)
        | _, _ => none)
      | _, _ => none)
    | none => none)
  | _, _ => none
def hcOf (ρ : FRun) (gt lvt : FuncId → Option (TypeId × Nat)) (n os : Nat) (c : Code) (k : Nat) (st : RS) : Option RS :=
  match callAt c k with
  | some (dst, fo, ar) => (match ev (lkS st.ss) fo with
    | .fn (.func f) first caps => (match gt f with
      | some (e, sz) => (match first ++ ar.map (ev (lkS st.ss)) ++ caps, dst with
        | [.e0, .d (.int .i64 (.ofNat m))], some d => (match okAll n os c k st.hs [((1, d), ⟨1, true, e, sz, []⟩)] [(1, d)], Nat.ble (m + 1) 2147483648 with
          | true, true => some (aft c k (.ref (1, d) 1 0 0) [((1, d), ⟨1, true, e, sz, []⟩)] st)
          | _, _ => none)
        | _, _ => none)
      | none => (match lvt f, dst with
        | some lv, some d => hcRun ρ n os c k st f (first ++ ar.map (ev (lkS st.ss)) ++ caps) ((match kfree (first ++ ar.map (ev (lkS st.ss)) ++ caps) with | true => [] | false => st.hs.map (·.1)) ++ [(1, d)]) (some lv)
        | none, _ => hcRun ρ n os c k st f (first ++ ar.map (ev (lkS st.ss)) ++ caps) (match kfree (first ++ ar.map (ev (lkS st.ss)) ++ caps) with | true => [] | false => st.hs.map (·.1)) none
        | _, _ => none))
    | _ => none)
  | none => none
theorem hcOf_ok (hC : CxOk C) (hO : C.outs = os) (hF : C.fx = upTo os) (hN : ∀ i, i < os → C.no (C.κ (0, i))) {ρ : FRun} (hρ : SndF P ρ) {gt lvt : FuncId → Option (TypeId × Nat)} (hgt : GrOk P gt) : HcOk P n C (hcOf ρ gt lvt n os) := by
  intro c k st st' h Q hQ
  unfold hcOf at h
  split at h
  case h_2 => cases h
  rename_i dst fo ar hop
  split at h
  case h_2 => cases h
  rename_i f first caps hf
  have e1 : callD c k = dst := by unfold callD; rw [hop]
  have e2 : callF c k = fo := by unfold callF; rw [hop]
  have e3 : callX c k = ar := by unfold callX; rw [hop]
  have hop' : callAt c k = some (callD c k, callF c k, callX c k) := by rw [e1, e2, e3]; exact hop
  have run : ∀ keys lv, hcRun ρ n os c k st f (first ++ ar.map (ev (lkS st.ss)) ++ caps) keys lv = some st' → LO P n C c k st.st Q := fun keys lv h => by
    unfold hcRun at h
    split at h
    case h_2 => cases h
    rename_i ys hs' a1 a2
    rw [fAs_eq] at h
    split at h
    case h_2 => cases h
    rename_i Y bs a3
    split at h
    case h_2 => cases h
    rename_i x hb2 a4 a5
    split at h
    case h_2 => cases h
    rename_i a6 a7
    cases h
    have a6' := a6
    unfold okAll at a6'
    simp only [Bool.and_eq_true] at a6'
    exact LO_call' hC hO hF f first caps _ hop' (by rw [e2]; exact hf) rfl keys _ rfl x hb2 [] [] a6 (wrL_ok hO hN a6'.1.1.1.1.1) trivial (fun r _ _ r3 _ => by rw [e3]; exact callH_run hC hO hρ a6'.1.1.2 a6'.2 a7 a1 a2 a3 a4 a5 r r3) hQ
  split at h
  · rename_i e sz hge
    split at h
    case h_2 => cases h
    rename_i _ m d hxs
    split at h
    case h_2 => cases h
    rename_i b1 b2
    cases h
    have b1' := b1
    unfold okAll at b1'
    simp only [Bool.and_eq_true] at b1'
    refine LO_call' hC hO hF f first caps _ hop' (by rw [e2]; exact hf) rfl [(1, d)] _ rfl (.ref (1, d) 1 0 0) [((1, d), ⟨1, true, e, sz, []⟩)] [] [] b1 (wrL_ok hO hN b1'.1.1.1.1.1) trivial (fun r _ _ r3 _ => ?_) hQ
    rw [e3, hxs]
    intro H' hH _
    have hr : r.κ (1, d) = (C.l + 1, d) := by rw [r3]; exact hC.own d
    have hg : (H' (r.κ (1, d))).g = r.γ (1, d) := by
      have := (hH _ (List.mem_map.2 ⟨(1, d), by simp, rfl⟩)).1
      simp only at this
      rw [gens0_at b1'.1.1.2 (1, d)] at this
      exact this
    have := Nat.le_of_ble_eq_true b2
    refine hgt f e sz hge (C.l + 1) H' (r.κ (1, d)) _ m _ (by rw [hr]; exact Nat.le_refl _) hg (by omega) ⟨r.γ, fun _ _ => rfl, by simp [ren], ?_⟩
    simp only [putHs, renB, rens]
  · split at h
    · exact run _ _ h
    · exact run _ _ h
    · cases h
end
/-- a run, so many calls deep -/
def runF (P : Program) (T : Nat → Option TI) (lt : TypeId → Bool) (gt lvt : FuncId → Option (TypeId × Nat)) (lf : Nat) : Nat → FRun
  | 0 => fun _ _ _ _ _ => none
  | d + 1 => runBody P T lt (pcOf (runF P T lt gt lvt lf d)) (hcOf (runF P T lt gt lvt lf d) gt lvt) lf
theorem runF_ok {P : Program} {T : Nat → Option TI} {lt : TypeId → Bool} (hT : TOk P T) (hm : P.follows .mixedOrders = true) {gt lvt : FuncId → Option (TypeId × Nat)} (hgt : GrOk P gt) {lf : Nat} : ∀ d, SndF P (runF P T lt gt lvt lf d)
  | 0 => fun _ _ _ _ _ _ _ h => by simp [runF] at h
  | d + 1 => runBody_snd hT hm (pcOf_ok (runF_ok hT hm hgt d)) fun n os C hC hO hF hN => hcOf_ok hC hO hF hN (runF_ok hT hm hgt d) hgt
/-- a call at known arguments -/
theorem acall_run {P : Program} {T : Nat → Option TI} {lt : TypeId → Bool} (hT : TOk P T) (hm : P.follows .mixedOrders = true) {gt lvt : FuncId → Option (TypeId × Nat)} (hgt : GrOk P gt) {lf d : Nat} {f : FuncId} {xs : List AV} {x : AV} (h : pcOf (runF P T lt gt lvt lf d) f xs = some x) {l : Nat} {H : Hp} {Post : AV → Hp → Prop} (hp : Post x H) : ACall P f l xs H Post :=
  ((pcOf_ok (runF_ok hT hm hgt d) f xs x h).2.2 l H).mono fun y H'' ⟨e1, e2⟩ => by rw [e1, e2]; exact hp
end Go.Eng
