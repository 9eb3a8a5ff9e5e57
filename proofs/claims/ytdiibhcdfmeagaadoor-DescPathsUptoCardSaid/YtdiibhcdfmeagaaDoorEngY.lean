/-
  Reckoning by the kernel, part Y: code without loops, sound; a function's contract.
-/
import Derived.Test.YtdiibhcdfmeagaaDoorEngX
namespace Go.Eng
set_option linter.all false
open Go Go.RowKit

/-- at a function's end -/
def KF (T : Nat → Option TI) (rs : List ResultVar) (Post : AV → Prop) : Exit → St → AT → Prop
  | .normal, τ, a => pFin T rs τ a Post
  | .ret, τ, a => pFin T rs τ a Post
  | _, _, _ => False
/-- at the end of a piece: what is kept, at its own end and behind a jump -/
def KB (T : Nat → Option TI) (rs : List ResultVar) (Post : AV → Prop) (lf lx : Lf) (Q : Exit → St → Prop) : Exit → St → AT → Prop
  | .ret, τ, a => pFin T rs τ a Post
  | .normal, τ, _ => leafP lf τ (Q .normal)
  | .exit i, τ, _ => leafP lx τ (Q (.exit i))
  | _, _, _ => False

section
variable {P : Program} {T : Nat → Option TI} {n : Nat} {C : Cx} {τ σ : St} {Q : Exit → St → Prop}

theorem qOps_imp {l : Nat} {ds : List (Option Nat)} : ∀ (ops : List Oper) {K K' : St → Prop} {σ : St}, (∀ σ, K σ → K' σ) → qOps P l n ds ops K σ → qOps P l n ds ops K' σ
  | [], K, K', σ, hk, h => hk _ h
  | o :: rest, K, K', σ, hk, h => by
    unfold qOps at h ⊢
    split at h
    · exact qOp1_imp (fun σ h => qOps_imp rest hk h) h
    · split at h
      · refine ⟨fun e => qOp1_imp (fun σ h => qOps_imp rest hk h) (h.1 e), fun e => ?_⟩
        have h2 := h.2 e
        split at h2
        · exact ⟨h2.1, qOps_imp rest hk h2.2⟩
        · exact h2.elim
      · exact h.elim

theorem mask_sound {γ : Key → Nat} {env : Env} (h : RG (C.r γ) C.l C.outs env τ σ) : ∃ σ', RG (C.r γ) C.l C.outs [] (mask env τ) σ' ∧ Wk n C σ σ' := by
  refine ⟨⟨fun j => ren (C.r γ) ((mask env τ).s j), σ.H⟩, ⟨fun j => ⟨fun _ => rfl, fun hn => absurd satC_nil hn⟩, h.h, h.g, h.k, h.o⟩, fun act w hR => ?_⟩
  obtain ⟨s, H⟩ := σ
  refine R.weaken hR fun j => ?_
  simp only [mask]
  split
  · rename_i he
    left
    exact ((h.s j).1 (by rw [he]; exact satC_nil)).symm
  · right; simp [ren]

/-- what code without loops comes to -/
def Ends (n : Nat) (C : Cx) (γ : Key → Nat) (K : Exit → St → AT → Prop) (e : Exit) (σ : St) : Prop := ∃ τ a σ', K e τ a ∧ RG (C.r γ) C.l C.outs [] τ σ' ∧ Wk n C σ σ'

theorem pCode_sound (hC : CxOk C) (hT : TOk P T) (hm : P.follows .mixedOrders = true) {γ : Key → Nat} : ∀ (c : Code) (a : AT) (τ σ : St) (K : Exit → St → AT → Prop), pCode P T C.l n (C.r γ) c a τ K → RG (C.r γ) C.l C.outs [] τ σ →
    AWp P C.l n C.B c (Ends n C γ K) σ
  | .skip, a, τ, σ, K, h, hG => awp_skip ⟨τ, a, σ, h, hG, Wk.refl σ⟩
  | .ret, a, τ, σ, K, h, hG => awp_ret ⟨τ, a, σ, h, hG, Wk.refl σ⟩
  | .exit id, a, τ, σ, K, h, hG => awp_exit ⟨τ, a, σ, h, hG, Wk.refl σ⟩
  | .seq x y, a, τ, σ, K, h, hG => by
    have ih := pCode_sound hC hT hm x a τ σ _ h hG
    refine awp_seq' (awp_mono ih fun e σ' hi => ?_)
    obtain ⟨τ', a', σ'', h1, h2, h3⟩ := hi
    cases e with
    | normal => exact AWp.weak (pCode_sound hC hT hm y a' τ' σ'' _ h1 h2) h3
    | _ => exact ⟨τ', a', σ'', h1, h2, h3⟩
  | .block id c, a, τ, σ, K, h, hG => by
    have ih := pCode_sound hC hT hm c a τ σ _ h hG
    refine awp_block (awp_mono ih fun e σ' hi => ?_)
    obtain ⟨τ', a', σ'', h1, h2, h3⟩ := hi
    cases e with
    | exit i =>
      unfold blockQ
      simp only at h1 ⊢
      split at h1
      · rename_i he; rw [if_pos (Nat.eq_of_beq_eq_true he)]; exact ⟨τ', a', σ'', h1, h2, h3⟩
      · rename_i he; rw [if_neg (by rintro rfl; simp at he)]; exact ⟨τ', a', σ'', h1, h2, h3⟩
    | _ => exact ⟨τ', a', σ'', h1, h2, h3⟩
  | .cond c x y, a, τ, σ, K, h, hG => by
    have he : ∀ {b}, ev τ.s c = .d (.bool b) → ev σ.s c = .d (.bool b) := fun {b} hc => by rw [ev_ren (c := []) hG satC_nil (by cases c <;> rfl), hc]; simp [ren]
    unfold pCode at h
    split at h
    · rename_i b a1 a2 hc
      exact awp_cond (he hc) (fun e => pCode_sound hC hT hm x a1 τ σ K (h.1 e) hG) (fun e => pCode_sound hC hT hm y a2 τ σ K (h.2 e) hG)
    · rename_i b a' hc
      refine awp_cond (he hc) (fun e => ?_) (fun e => ?_)
      · subst e; exact pCode_sound hC hT hm x a' τ σ K h hG
      · subst e; exact pCode_sound hC hT hm y a' τ σ K h hG
    · exact h.elim
  | .region id ops draw, a, τ, σ, K, h, hG => by
    obtain ⟨opl, rfl⟩ : ∃ l : List Oper, ops = l.toArray := ⟨ops.toList, by simp⟩
    have fin : ∀ τ' env' a' σ', K .normal (mask env' τ') a' → RG (C.r γ) C.l C.outs env' τ' σ' → Ends n C γ K .normal σ' := fun τ' env' a' σ' h1 h2 => by
      obtain ⟨σ'', h3, h4⟩ := mask_sound (n := n) h2
      exact ⟨_, a', σ'', h1, h3, h4⟩
    unfold pCode at h
    split at h
    · intro act w hR
      refine wp_region_lit (pOps_list (hC.ren γ) hT (ops := opl.toArray) (B := C.B) (K := fun τ' env a' => K .normal (mask env τ') a') (fun τ' env' a' σ' act' w' h1 h2 h3 => ?_) opl [] a τ σ act w (by simpa using h) hG hR)
      exact ⟨σ', fin _ _ _ _ h1 h2, h3⟩
    · split at h
      case h_2 => exact h.elim
      rename_i hb
      simp only [Bool.and_eq_true] at hb
      refine awp_drawn hm (fastB_lexB (by simpa using hb.1)) (by simpa using hb.2) (qOps_imp opl (fun σ' hq => ?_) (pOps_q (l := C.l) (r := C.r γ) (outs := C.outs) (K := fun τ' env a' => K .normal (mask env τ') a') hT opl [] a τ σ (by simpa using hb.2) (by simpa using h) hG))
      obtain ⟨τ', env', a', h1, h2⟩ := hq
      exact fin _ _ _ _ h1 h2
  | .loop _, a, τ, σ, K, h, hG => h.elim
  | .rangeFunc _ _ _ _, a, τ, σ, K, h, hG => h.elim
  | .scope _, a, τ, σ, K, h, hG => h.elim
  | .label _, a, τ, σ, K, h, hG => h.elim
  | .goto _, a, τ, σ, K, h, hG => h.elim
  | .refuse _, a, τ, σ, K, h, hG => h.elim

theorem LW_ev (hC : CxOk C) (hT : TOk P T) (hm : P.follows .mixedOrders = true) {c : Code} {a : AT} (K : Exit → St → AT → Prop) (h : ∀ γ, pCode P T C.l n (C.r γ) c a τ K)
    (hk : ∀ γ e τ' a' σ', K e τ' a' → RG (C.r γ) C.l C.outs [] τ' σ' → Is n C (Q e) σ') : LW P n C c τ Q := by
  intro γ σ hG
  refine awp_mono (pCode_sound hC hT hm c a τ σ K (h γ) hG) fun e σ' hi => ?_
  obtain ⟨τ', a', σ'', h1, h2, h3⟩ := hi
  obtain ⟨γ', τ₂, σ₂, k1, k2, k3⟩ := hk γ e τ' a' σ'' h1 h2
  exact ⟨γ', τ₂, σ₂, k1, k2, h3.trans k3⟩

/-- a piece that ends the function -/
theorem LW_fin (hC : CxOk C) (hT : TOk P T) (hm : P.follows .mixedOrders = true) {c : Code} (a : AT) {rs : List ResultVar} {Post : AV → Prop} (h : ∀ γ, pCode P T C.l n (C.r γ) c a τ (KF T rs Post)) : LW P n C c τ (FQ T rs Post) :=
  LW_ev hC hT hm (KF T rs Post) h fun γ e τ' a' σ' hk hG => .of hG (by
    cases e <;> simp only [KF] at hk
    · exact ⟨.inl rfl, a', hk⟩
    · exact ⟨.inr rfl, a', hk⟩)
/-- a piece within a function -/
theorem LW_mid (hC : CxOk C) (hT : TOk P T) (hm : P.follows .mixedOrders = true) {c : Code} (a : AT) (lf lx : Lf) {rs : List ResultVar} {Post : AV → Prop} (hQ : ∀ τ, FQ T rs Post .ret τ → Q .ret τ) (h : ∀ γ, pCode P T C.l n (C.r γ) c a τ (KB T rs Post lf lx Q)) : LW P n C c τ Q :=
  LW_ev hC hT hm (KB T rs Post lf lx Q) h fun γ e τ' a' σ' hk hG => by
    cases e <;> simp only [KB] at hk
    · exact leaf_sound hC hk hG
    · exact leaf_sound hC hk hG
    · exact .of hG (hQ _ ⟨.inr rfl, a', hk⟩)

/-! ### A function's results -/
theorem flat_ix {sz : Nat} : ∀ {es : List (List D)} {i j : Nat} {e : List D} {d : D}, (∀ e ∈ es, e.length = sz) → es[i]? = some e → e[j]? = some d → es.flatten[i * sz + j]? = some d
  | [], i, j, e, d, h, hi, hj => by simp at hi
  | f :: es, 0, j, e, d, h, hi, hj => by
    simp only [List.getElem?_cons_zero, Option.some.injEq] at hi
    subst hi
    rw [List.flatten_cons, Nat.zero_mul, Nat.zero_add, List.getElem?_append_left]
    · exact hj
    · rcases Nat.lt_or_ge j f.length with hlt | hge
      · exact hlt
      · rw [List.getElem?_eq_none hge] at hj; cases hj
  | f :: es, i + 1, j, e, d, h, hi, hj => by
    have hf := h f (List.mem_cons_self ..)
    rw [List.flatten_cons, List.getElem?_append_right (by rw [hf, Nat.add_mul]; omega), hf, show (i + 1) * sz + j - sz = i * sz + j from by rw [Nat.add_mul]; omega]
    exact flat_ix (fun e he => h e (List.mem_cons_of_mem _ he)) (by simpa using hi) hj

mutual
theorem frz_sound (hC : CxOk C) {γ : Key → Nat} {H H' : Hp} (hH : HRel (C.r γ) H H') : ∀ (x : AV) {a : AT} {K : AV → AT → Prop}, frz H x a K → ∃ y a', Fz H' C.l (ren (C.r γ) x) y ∧ K y a'
  | .d x, a, K, h => ⟨_, a, by simp only [ren]; exact .keep _ rfl, h⟩
  | .e0, a, K, h => ⟨_, a, by simp only [ren]; exact .e0, h⟩
  | .agg xs, a, K, h => by
    obtain ⟨ys, a', h1, h2⟩ := frzs_sound hC hH xs h
    exact ⟨_, a', by simp only [ren]; exact .agg _ _ h1.1 h1.2, h2⟩
  | .ref k g off m, a, K, h => by
    unfold frz at h
    split at h
    · rename_i es a' hl hk
      obtain ⟨⟨h1, h2, h3, h4, h5⟩, h6⟩ := h
      have hk := Nat.eq_of_beq_eq_true hk
      obtain ⟨g1, g2, g3, g4, g5⟩ := hH.at hl
      obtain ⟨k1, k2⟩ := k
      simp only at hk
      subst hk
      refine ⟨_, a', ?_, h6⟩
      simp only [ren]
      rw [g1]
      have hκ : (C.r γ).κ (1, k2) = (C.l + 1, k2) := hC.own k2
      refine .ref _ off m es (by rw [hκ]) g2 h1 (by rw [g4]; exact h2) (by rw [g4]; exact h3) (by rw [g4, g5, rens_len]; exact h4) (fun i j e d x hi hj hx => ?_)
      have hil : i < m := by
        rw [← h1]
        rcases Nat.lt_or_ge i es.length with h | h
        · exact h
        · rw [List.getElem?_eq_none h] at hi; cases hi
      have hjl : j < (H (1, k2)).sz := by
        rw [← h3 e (List.mem_of_getElem? hi)]
        rcases Nat.lt_or_ge j e.length with h | h
        · exact h
        · rw [List.getElem?_eq_none h] at hj; cases hj
      have e1 := flat_ix h3 hi hj
      have hlt : i * (H (1, k2)).sz + j < m * (H (1, k2)).sz := by
        have : (i + 1) * (H (1, k2)).sz ≤ m * (H (1, k2)).sz := Nat.mul_le_mul_right _ hil
        rw [Nat.add_mul] at this
        omega
      have e2 : (H (1, k2)).cells[(off + i) * (H (1, k2)).sz + j]? = some (.d d) := by
        have := congrArg (fun l => l[i * (H (1, k2)).sz + j]?) h5
        simp only [List.getElem?_take, if_pos hlt, List.getElem?_drop, List.getElem?_map, e1, Option.map_some] at this
        rw [← this, Nat.add_mul, Nat.add_assoc]
      rw [g4, g5, rens_at, e2] at hx
      simp only [Option.map_some, ren, Option.some.injEq] at hx
      subst hx
      exact .keep _ rfl
    · exact h.elim
  | .top, a, K, h => by simp only [frz] at h
  | .p _, a, K, h => by simp only [frz] at h
  | .ptr _ _ _, a, K, h => by simp only [frz] at h
  | .iptr _ _, a, K, h => by simp only [frz] at h
  | .fn _ _ _, a, K, h => by simp only [frz] at h
  | .tup _, a, K, h => by simp only [frz] at h
theorem frzs_sound (hC : CxOk C) {γ : Key → Nat} {H H' : Hp} (hH : HRel (C.r γ) H H') : ∀ (xs : List AV) {a : AT} {K : List AV → AT → Prop}, frzs H xs a K →
    ∃ ys a', ((rens (C.r γ) xs).length = ys.length ∧ ∀ (i : Nat) (x y : AV), (rens (C.r γ) xs)[i]? = some x → ys[i]? = some y → Fz H' C.l x y) ∧ K ys a'
  | [], a, K, h => ⟨[], a, ⟨by simp [rens], fun i x y hx => by simp [rens] at hx⟩, h⟩
  | x :: xs, a, K, h => by
    simp only [frzs] at h
    obtain ⟨y, a', h1, h2⟩ := frz_sound hC hH x h
    obtain ⟨ys, a'', h3, h4⟩ := frzs_sound hC hH xs h2
    refine ⟨y :: ys, a'', ⟨by simp [rens, h3.1], fun i x' y' hx hy => ?_⟩, h4⟩
    cases i with
    | zero => simp only [rens, List.getElem?_cons_zero, Option.some.injEq] at hx hy; subst hx; subst hy; exact h1
    | succ i => simp only [rens, List.getElem?_cons_succ] at hx hy; exact h3.2 i x' y' hx hy
end

theorem ldR_sound (hT : TOk P T) {γ : Key → Nat} (hG : RG (C.r γ) C.l C.outs [] τ σ) {v : ResultVar} {K : AV → Prop} (h : ldR T τ v K) : ∃ x, K x ∧ ∀ rs (K' : List AV → Prop), resA P σ rs (fun xs => K' (ren (C.r γ) x :: xs)) → resA P σ (v :: rs) K' := by
  cases v with
  | tmp t => exact ⟨_, h, fun rs K' h' => by unfold resA; rw [(hG.s t).1 satC_nil]; exact h'⟩
  | cell p t =>
    simp only [ldR] at h
    split at h
    case h_2 => exact h.elim
    rename_i k g off i hp hi
    have hp' : σ.s p = ren (C.r γ) (.ptr k g off) := by rw [(hG.s p).1 satC_nil, hp]
    split at h
    · rename_i hl hag
      split at h
      case h_2 => exact h.elim
      rename_i c h1 h2
      refine ⟨_, h, fun rs K' h' => ?_⟩
      have := tLoad_sound (a := .go .nil) (g := none) (K := fun v _ => v = .agg c) (hT _ _ hi) hG.h (fun b e => by cases e) (x := .ptr k g off) (by simp only [tLoad, hl, hag, h1, h2])
      unfold resA
      rw [hp']
      refine vLoad_imp (fun y hy => ?_) this
      obtain ⟨v, a', rfl, rfl⟩ := hy
      exact h'
    · rename_i hl hag
      split at h
      case h_2 => exact h.elim
      rename_i c hc
      refine ⟨_, h, fun rs K' h' => ?_⟩
      have := tLoad_sound (a := .go .nil) (g := none) (K := fun v _ => v = c) (hT _ _ hi) hG.h (fun b e => by cases e) (x := .ptr k g off) (by simp only [tLoad, hl, hag, hc])
      unfold resA
      rw [hp']
      refine vLoad_imp (fun y hy => ?_) this
      obtain ⟨v, a', rfl, rfl⟩ := hy
      exact h'
    · exact h.elim
theorem ldRs_sound (hT : TOk P T) {γ : Key → Nat} (hG : RG (C.r γ) C.l C.outs [] τ σ) : ∀ (rs : List ResultVar) {K : List AV → Prop}, ldRs T τ rs K → ∃ xs, K xs ∧ ∀ K' : List AV → Prop, K' (rens (C.r γ) xs) → resA P σ rs K'
  | [], K, h => ⟨[], h, fun K' h' => by unfold resA; simpa [rens] using h'⟩
  | v :: rs, K, h => by
    obtain ⟨x, h1, h2⟩ := ldR_sound hT hG h
    obtain ⟨xs, h3, h4⟩ := ldRs_sound hT hG rs h1
    exact ⟨x :: xs, h3, fun K' h' => h2 rs K' (h4 _ (by simpa [rens] using h'))⟩

theorem FQ_fins (hC : CxOk C) (hT : TOk P T) {rs : List ResultVar} {Post : AV → Hp → Prop} {e : Exit} (h : Is n C (FQ T rs (fun y => Post y C.H0) e) σ) : ∃ σ', fins P C.l C.H0 rs Post e σ' ∧ Wk n C σ σ' := by
  obtain ⟨γ, τ, σ', ⟨h1, a, h2⟩, hG, hw⟩ := h
  refine ⟨σ', ⟨h1, ?_⟩, hw⟩
  obtain ⟨xs, h3, h4⟩ := ldRs_sound (P := P) hT hG rs h2
  obtain ⟨ys, a', h5, h6⟩ := frzs_sound hC hG.h xs h3
  refine h4 _ ⟨tupA ys, ?_, ?_⟩
  · have hl := h5.1
    have h5 := h5.2
    generalize rens (C.r γ) xs = zs at hl h5
    match zs, ys, hl with
    | [], [], _ => exact .tup _ _ rfl fun i x y hx => by simp at hx
    | [x], [y], _ => exact h5 0 x y rfl rfl
    | x :: x' :: zs, y :: y' :: ys, hl => exact .tup _ _ hl h5
  · rw [show mrg C.l σ'.H C.H0 = C.H0 from mrg_of (fun k hk => hG.o k hk)]
    exact h6

def zipS : Nat → List AV → List (Nat × AV)
  | _, [] => []
  | i, x :: xs => (i, x) :: zipS (i + 1) xs
theorem lkS_zip {r : Ren} : ∀ (ys : List AV) (i j : Nat), ren r (lkS (zipS i ys) (i + j)) = args (rens r ys) j
  | [], i, j => by simp [zipS, lkS, ren, rens, args]
  | y :: ys, i, 0 => by simp [zipS, lkS, rens, args]
  | y :: ys, i, j + 1 => by
    have ih := lkS_zip (r := r) ys (i + 1) j
    simp only [zipS, lkS]
    split
    · rename_i h; have := Nat.eq_of_beq_eq_true h; omega
    · rw [show i + (j + 1) = i + 1 + j from by omega, ih]
      simp [args, rens]

/-- A FUNCTION's CONTRACT, out of what is shown of its body. -/
theorem acall_lw {f : FuncId} {fn : Func} (rs : List ResultVar) {c : Code} {l : Nat} {xs : List AV} {H : Hp} {Post : AV → Hp → Prop} {κ : Key → Key} {γ : Key → Nat} {θ : Nat → AV} {outs : Nat} {ys : List AV} {hs : List (Key × Blk)}
    (hf : P.funcs[f]? = some fn) (hb : fn.body = some c) (hname : (fn.name == "runtime.NumGoroutine") = false) (hn : fn.ntmps = n) (hr : fn.results.toList = rs) (hx : xs.length ≤ n) (hT : TOk P T)
    (hC : ∀ B, CxOk ⟨l, B, κ, θ, H, outs⟩) (hxs : rens ⟨κ, γ, θ, H⟩ ys = xs) (hγ : ∀ d, γ (1, d) = 0) (hh : ∀ d, lkH hs (1, d) = dead)
    (hhs : ∀ k, (lkH hs k).live = true → k.1 = 0 ∧ k.2 < outs ∧ H (κ k) = renB ⟨κ, γ, θ, H⟩ k (lkH hs k))
    (h : ∀ B : Base, LW P n ⟨l, B, κ, θ, H, outs⟩ c (mkS (zipS 0 ys) hs) (FQ T rs (fun y => Post y H))) : ACall P f l xs H Post := by
  refine acall_fn rs hf hb hname hn hr hx fun B => ?_
  have hG : RG ((⟨l, B, κ, θ, H, outs⟩ : Cx).r γ) l outs [] (mkS (zipS 0 ys) hs) ⟨args xs, clr l H⟩ := by
    refine ⟨fun j => ⟨fun _ => ?_, fun hn => absurd satC_nil hn⟩, fun k hk => ?_, fun d => ?_, fun k hk => .inr ⟨(hhs k hk).1, (hhs k hk).2.1⟩, fun k hk => clr_lt hk⟩
    · have := lkS_zip (r := ⟨κ, γ, θ, H⟩) ys 0 j
      rw [Nat.zero_add, hxs] at this
      exact this.symm
    · obtain ⟨h1, h2, h3⟩ := hhs k hk
      show clr l H (κ k) = _
      obtain ⟨k1, k2⟩ := k
      simp only at h1 h2
      subst h1
      rw [clr_lt ((hC B).out _ h2)]
      exact h3
    · show (clr l H (l + 1, d)).g = γ (1, d) + (lkH hs (1, d)).g
      rw [clr_own, hγ, hh]
      rfl
  have := h B γ _ hG
  intro act w hR
  refine wp_mono (this act w hR) fun e a' w' ⟨σ', hq, hR'⟩ => ?_
  obtain ⟨σ'', h1, h2⟩ := FQ_fins (P := P) (hC B) hT hq
  exact ⟨σ'', h1, h2 _ _ hR'⟩
end
end Go.Eng
