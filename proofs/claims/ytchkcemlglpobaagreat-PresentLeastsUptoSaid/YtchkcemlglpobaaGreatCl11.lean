import Derived.Test.YtchkcemlglpobaaGreatCl10
import Derived.Test.YtchkcemlglpobaaGreatCl00
namespace Go.Eng
set_option linter.all false
open Go Go.RowKit
def KF (T : Nat → Option TI) (rs : List ResultVar) (os : Nat) (Post : AV → List Blk → Prop) : Exit → St → AT → Prop
 | .normal, τ, a => ZCE T rs os τ a Post
 | .ret, τ, a => ZCE T rs os τ a Post
 | _, _, _ => False
def KB (T : Nat → Option TI) (rs : List ResultVar) (os : Nat) (fx : List Nat) (r : Ren) (Post : AV → List Blk → Prop) (lf lx : Lf) (Q : Exit → St → Prop) : Exit → St → AT → Prop
 | .ret, τ, a => ZCE T rs os τ a Post
 | .normal, τ, a => Zdk r os a τ (fun τ _ => Zfk fx lf τ (Q .normal))
 | .exit i, τ, a => Zdk r os a τ (fun τ _ => Zfk fx lx τ (Q (.exit i)))
 | _, _, _ => False
section
variable {P : Program} {T : Nat → Option TI} {n : Nat} {C : Cx} {τ σ : St} {Q : Exit → St → Prop}
theorem Zfv {l : Nat} {ds : List (Option Nat)} : ∀ (ops : List Oper) {K K' : St → Prop} {σ : St}, (∀ σ, K σ → K' σ) → Zjq P l n ds ops K σ → Zjq P l n ds ops K' σ
 | [], K, K', σ, hk, h => hk _ h
 | o :: rest, K, K', σ, hk, h => by
  unfold Zjq at h ⊢
  split at h
  ·exact Zfr (fun σ h => Zfv rest hk h) h
  ·split at h
   ·refine ⟨fun e => Zfr (fun σ h => Zfv rest hk h) (h.1 e), fun e => ?_⟩
    have h2 := h.2 e
    split at h2
    ·exact ⟨h2.1, Zfv rest hk h2.2⟩
    grind
   grind
theorem Zdy {γ : Key → Nat} {env : Env} (h : RG (C.r γ) C.l C.outs env τ σ) : ∃ σ', RG (C.r γ) C.l C.outs [] (ZjR env τ) σ' ∧ Wk n C σ σ' := by
 refine ⟨⟨fun j => ren (C.r γ) ((ZjR env τ).s j), σ.H⟩, ⟨fun j => ⟨fun _ => rfl, fun hn => absurd Zak hn⟩, h.h, h.g, h.go, h.k, h.o⟩, fun act w hR => ?_⟩
 obtain ⟨s, H⟩ := σ
 refine R.weaken hR fun j => ?_
 simp only [ZjR]
 split
 ·rename_i he
  left
  exact ((h.s j).1 (by rw [he]; exact Zak)).symm
 ·right; simp [ren]
def ZJv (n : Nat) (C : Cx) (γ : Key → Nat) (K : Exit → St → AT → Prop) (e : Exit) (σ : St) : Prop := ∃ τ a σ', K e τ a ∧ RG (C.r γ) C.l C.outs [] τ σ' ∧ Wk n C σ σ'
theorem Zjf {r : Ren} {H H' : Hp} (hr : RenOk r C.l C.outs) (hH : ZiO r H H') {d : Nat} {s s' : Nat → AV} (hs : ∀ j, s' j = ren r (s j)) {A : Prop} : ∀ {js : List (Nat × List (List D))}, jsP H d s A js → A ∧ ∀ p ∈ js, ∃ off c, s' p.1 = .ref (C.l + 1, d) (H' (C.l + 1, d)).g off c ∧
  p.2.length = c ∧ (∀ e ∈ p.2, e.length = (H' (C.l + 1, d)).sz) ∧ (off + c) * (H' (C.l + 1, d)).sz ≤ (H' (C.l + 1, d)).cells.length ∧ ((H' (C.l + 1, d)).cells.drop (off * (H' (C.l + 1, d)).sz)).take (c * (H' (C.l + 1, d)).sz) = p.2.flatten.map .d
 | [], h => ⟨h, fun p hp => by cases hp⟩
 | (j, es) :: js, h => by
  simp only [jsP] at h
  split at h
  case h_2 => exact h.elim
  rename_i k q off c hj
  split at h
  case h_2 => exact h.elim
  rename_i hk hl
  have hk := ZaM.1 hk
  subst hk
  obtain ⟨⟨f1, f2, f3, f4, f5⟩, h⟩ := h
  obtain ⟨h1, h2⟩ := Zjf hr hH hs h
  obtain ⟨g1, g2, g3, g4, g5⟩ := hH.at hl
  rw [hr.own] at g1 g2 g3 g4 g5
  refine ⟨h1, fun p hp => ?_⟩
  rcases Ys.1 hp with rfl | hp
  ·refine ⟨off, c, by rw [hs, hj]; simp [ren, hr.own, g1], f1, by rw [g4]; exact f3, by rw [g4, g5, ZaB]; exact f4, ?_⟩
   rw [g4, g5, Zbj, ZbB, f5, Zez]
  grind
theorem ZiB {r : Ren} {H H' : Hp} (hr : RenOk r C.l C.outs) (hH : ZiO r H H') {d : Nat} {A : Prop} : ∀ {cs : List (Key × Nat × List (List D))}, csP H d A cs → A ∧ ∀ p ∈ cs, p.1.1 = 1 ∧ p.1 ≠ (1, d) ∧ (H p.1).live = true ∧ ∃ off c, (H' (r.κ p.1)).cells[p.2.1]? = some (.ref (C.l + 1, d) (H' (C.l + 1, d)).g off c) ∧
  p.2.2.length = c ∧ (∀ e ∈ p.2.2, e.length = (H' (C.l + 1, d)).sz) ∧ (off + c) * (H' (C.l + 1, d)).sz ≤ (H' (C.l + 1, d)).cells.length ∧ ((H' (C.l + 1, d)).cells.drop (off * (H' (C.l + 1, d)).sz)).take (c * (H' (C.l + 1, d)).sz) = p.2.2.flatten.map .d
 | [], h => ⟨h, fun p hp => by cases hp⟩
 | (k, i, es) :: cs, h => by
  simp only [csP] at h
  split at h
  case h_2 => exact h.elim
  rename_i k' q off c ho hne hlv hc
  split at h
  case h_2 => exact h.elim
  rename_i hk hl
  have hk := ZaM.1 hk
  subst hk
  obtain ⟨⟨f1, f2, f3, f4, f5⟩, h⟩ := h
  obtain ⟨h1, h2⟩ := ZiB hr hH h
  obtain ⟨g1, g2, g3, g4, g5⟩ := hH.at hl
  rw [hr.own] at g1 g2 g3 g4 g5
  refine ⟨h1, fun p hp => ?_⟩
  rcases Ys.1 hp with rfl | hp
  ·have hb := hH k hlv
   have hnk : k ≠ (1, d) := fun e => by rw [ZaM.2 e] at hne; cases hne
   refine ⟨Ya ho, hnk, hlv, off, c, ?_, f1, by rw [g4]; exact f3, by rw [g4, g5, ZaB]; exact f4, ?_⟩
   ·rw [hb]
    simp only [ZaZ, ZdM]
    rw [Zby] at hc
    rw [hc]
    simp [ren, hr.own, g1]
   ·rw [g4, g5, Zbj, ZbB, f5, Zez]
  grind
theorem ZkQ {r : Ren} : ∀ (js : List (Nat × List (List D))) {s s' : Nat → AV}, (∀ j, s' j = ren r (s j)) → ∀ j, Zv9 js s' j = ren r (Zv9 js s j)
 | [], s, s', h, j => h j
 | (i, es) :: js, s, s', h, j => ZkQ js (s := upd s i (.d (.list es))) (s' := upd s' i (.d (.list es))) (fun q => by
   simp only [upd]
   by_cases hq : q = i
   ·rw [if_pos hq, if_pos hq]; simp [ren]
   ·rw [if_neg hq, if_neg hq]; exact h q) j
theorem Zfu {r : Ren} (xs : List AV) (i : Nat) (x : AV) : (Zan r xs).set i (ren r x) = Zan r (xs.set i x) := by rw [Zcx, Zcx, List.map_set]
theorem Znd {γ : Key → Nat} (hC : CxOk C) : ∀ (cs : List (Key × Nat × List (List D))) {τ σ : St}, (∀ p ∈ cs, p.1.1 = 1 ∧ (τ.H p.1).live = true) → RG (C.r γ) C.l C.outs [] τ σ →
  RG (C.r γ) C.l C.outs [] ⟨τ.s, ZtY cs τ.H⟩ ⟨σ.s, ZtY (cs.map fun p => ((C.r γ).κ p.1, p.2)) σ.H⟩
 | [], τ, σ, _, h => h
 | (k, i, es) :: cs, τ, σ, hp, h => by
  obtain ⟨h1, h2⟩ := hp _ (Yw ..)
  have hb := h.h k h2
  have h8 := RG.updH (hC.ren γ) h k ⟨(τ.H k).g, true, (τ.H k).e, (τ.H k).sz, (τ.H k).cells.set i (.d (.list es))⟩ rfl (.inl h1)
  have e3 : ZaZ (C.r γ) k ⟨(τ.H k).g, true, (τ.H k).e, (τ.H k).sz, (τ.H k).cells.set i (.d (.list es))⟩ = ⟨(σ.H ((C.r γ).κ k)).g, (σ.H ((C.r γ).κ k)).live, (σ.H ((C.r γ).κ k)).e, (σ.H ((C.r γ).κ k)).sz, (σ.H ((C.r γ).κ k)).cells.set i (.d (.list es))⟩ := by
   rw [hb]
   simp only [ZaZ]
   rw [← Zfu]
   simp [ren]
  rw [e3] at h8
  have e4 : (⟨(τ.H k).g, true, (τ.H k).e, (τ.H k).sz, (τ.H k).cells.set i (.d (.list es))⟩ : Blk) = ⟨(τ.H k).g, (τ.H k).live, (τ.H k).e, (τ.H k).sz, (τ.H k).cells.set i (.d (.list es))⟩ := by rw [h2]
  rw [e4] at h8
  have := Znd hC cs (fun p hq => by
   obtain ⟨q1, q2⟩ := hp p (Yq _ hq)
   refine ⟨q1, ?_⟩
   show (updH τ.H k _ p.1).live = true
   unfold updH
   split
   ·exact h2
   ·exact q2) h8
  exact this
theorem Zex {r : Ren} {cs : List AV} (h : Zd0 cs) : Zd0 (Zan r cs) := fun x hx => by
 rw [Zcx] at hx
 obtain ⟨y, hy, rfl⟩ := Yy.1 hx
 have := h y hy
 cases y with
 | d d => simp [ren]
 | _ => cases this
theorem Zvi {H : Hp} {d : Nat} {s : Nat → AV} : ∀ {js : List Nat}, mpB H d s js = true → ∀ j ∈ js, ∃ g, s j = .mp (1, d) g ∧ ZbU H (1, d) g = true
 | [], _, j, hj => by cases hj
 | i :: r, h, j, hj => by
  simp only [mpB] at h
  split at h
  ·rename_i k g he
   simp only [Bool.and_eq_true] at h
   have hk := ZaM.1 h.1.1
   subst hk
   rcases Ys.1 hj with rfl | hj
   ·grind
   ·exact Zvi h.2 j hj
  ·cases h
theorem Zv2 {H : Hp} {d : Nat} {s : Nat → AV} : ∀ {js : List Nat}, ptB H d s js = true → ∀ j ∈ js, ∃ g, s j = .ptr (1, d) g 0 ∧ ZbU H (1, d) g = true
 | [], _, j, hj => by cases hj
 | i :: r, h, j, hj => by
  simp only [ptB] at h
  split at h
  ·rename_i k g he
   simp only [Bool.and_eq_true] at h
   have hk := ZaM.1 h.1.1
   subst hk
   rcases Ys.1 hj with rfl | hj
   ·grind
   ·exact Zv2 h.2 j hj
  ·cases h
theorem Zam (hC : CxOk C) {γ : Key → Nat} : ∀ (a : AT) {τ σ : St} {K : St → AT → Prop}, Zdk (C.r γ) C.outs a τ K → RG (C.r γ) C.l C.outs [] τ σ → ∃ τ' a' σ', K τ' a' ∧ RG (C.r γ) C.l C.outs [] τ' σ' ∧ Wk n C σ σ'
 | .frz d js cs b, τ, σ, K, h, hG => by
  have hr := hC.ren γ
  have hs : ∀ j, σ.s j = ren (C.r γ) (τ.s j) := fun j => (hG.s j).1 Zak
  simp only [Zdk] at h
  split at h
  case h_2 => exact h.elim
  rename_i hl hz
  have hz := Yc hz
  obtain ⟨h, hjs⟩ := Zjf hr hG.h hs h
  obtain ⟨h, hcs⟩ := ZiB hr hG.h h
  have hb := hG.h _ hl
  rw [hr.own] at hb
  have hlr : (σ.H (C.l + 1, d)).live = true := by rw [hb]; rfl
  have hszr : (σ.H (C.l + 1, d)).sz = (τ.H (1, d)).sz := by rw [hb]; rfl
  have hgr : (σ.H (C.l + 1, d)).g = (C.r γ).γ (1, d) + (τ.H (1, d)).g := by rw [hb]; rfl
  have h1 := RG.updK hr hG (1, d) ⟨(τ.H (1, d)).g, false, (τ.H (1, d)).e, (τ.H (1, d)).sz, (τ.H (1, d)).cells⟩ { σ.H (C.l + 1, d) with live := false } (fun e => by cases e) hgr (.inl rfl)
  rw [hr.own] at h1
  have h2 := Znd hC cs (fun p hp => by
   obtain ⟨q1, q2, q3, _⟩ := hcs p hp
   refine ⟨q1, ?_⟩
   show (updH τ.H (1, d) _ p.1).live = true
   rw [Zac _ _ q2]
   exact q3) h1
  have h3 : RG (C.r γ) C.l C.outs [] ⟨Zv9 js τ.s, ZtY cs (updH τ.H (1, d) ⟨(τ.H (1, d)).g, false, (τ.H (1, d)).e, (τ.H (1, d)).sz, (τ.H (1, d)).cells⟩)⟩
    ⟨Zv9 js σ.s, ZtY (cs.map fun p => ((C.r γ).κ p.1, p.2)) (updH σ.H (C.l + 1, d) { σ.H (C.l + 1, d) with live := false })⟩ :=
   ⟨fun j => ⟨fun _ => ZkQ js hs j, fun hn => absurd Zak hn⟩, h2.h, h2.g, h2.go, h2.k, h2.o⟩
  obtain ⟨τ', a', σ', k1, k2, k3⟩ := Zam hC b h h3
  refine ⟨τ', a', σ', k1, k2, Wk.trans (fun act w hR => ?_) k3⟩
  obtain ⟨s, H⟩ := σ
  refine R.freeze hR (k := (C.l + 1, d)) (Yd _) hlr (by rw [hszr]; omega) js (cs.map fun p => ((C.r γ).κ p.1, p.2)) hjs (fun p hp => ?_)
  obtain ⟨pp, hpp, rfl⟩ := Yy.1 hp
  obtain ⟨q1, q2, q3, q4⟩ := hcs pp hpp
  obtain ⟨⟨p1, p2⟩, p3⟩ := pp
  simp only at q1 q2 q3 q4
  subst q1
  have hlv : (H ((C.r γ).κ (1, p2))).live = true := by have := hG.h _ q3; simp only at this; rw [this]; rfl
  exact ⟨by simp only; rw [hr.own]; intro e; simp at e; exact q2 (by rw [e]), by simp only; rw [hr.own]; exact Yd _, hlv, q4⟩
 | .adc k i d e sz b, τ, σ, K, h, hG => by
  have hr := hC.ren γ
  simp only [Zdk] at h
  split at h
  case h_2 => exact h.elim
  rename_i hk hne hlv hc
  have hk := Ya hk
  have hne : k ≠ (1, d) := fun e => by rw [ZaM.2 e] at hne; cases hne
  obtain ⟨k1, k2⟩ := k
  simp only at hk
  subst hk
  have hb := hG.h _ hlv
  have h1 := RG.updH hr hG (1, d) ⟨(τ.H (1, d)).g + 1, true, e, sz, []⟩ rfl (.inl rfl)
  have h2 := RG.updH hr h1 (1, k2) ⟨(τ.H (1, k2)).g, true, (τ.H (1, k2)).e, (τ.H (1, k2)).sz, (τ.H (1, k2)).cells.set i (.ref (1, d) ((τ.H (1, d)).g + 1) 0 0)⟩ rfl (.inl rfl)
  have e1 : ZaZ (C.r γ) (1, d) ⟨(τ.H (1, d)).g + 1, true, e, sz, []⟩ = ⟨(σ.H (C.l + 1, d)).g + 1, true, e, sz, []⟩ := by simp only [ZaZ, hG.g, Zan, Yp]
  have e2 : ZaZ (C.r γ) (1, k2) ⟨(τ.H (1, k2)).g, true, (τ.H (1, k2)).e, (τ.H (1, k2)).sz, (τ.H (1, k2)).cells.set i (.ref (1, d) ((τ.H (1, d)).g + 1) 0 0)⟩ =
    ⟨(σ.H (C.l + 1, k2)).g, (σ.H (C.l + 1, k2)).live, (σ.H (C.l + 1, k2)).e, (σ.H (C.l + 1, k2)).sz, (σ.H (C.l + 1, k2)).cells.set i (.ref (C.l + 1, d) ((σ.H (C.l + 1, d)).g + 1) 0 0)⟩ := by
   rw [hr.own] at hb
   rw [hb]
   simp only [ZaZ]
   rw [← Zfu]
   simp [ren, hr.own, hG.g, Yp]
  rw [e1, e2, hr.own, hr.own] at h2
  obtain ⟨τ', a', σ', j1, j2, j3⟩ := Zam hC b h h2
  refine ⟨τ', a', σ', j1, j2, Wk.trans (fun act w hR => ?_) j3⟩
  obtain ⟨s, H⟩ := σ
  rw [Zby] at hc
  exact R.adoptC hR (k := (C.l + 1, d)) (kp := (C.l + 1, k2)) rfl rfl (fun e => by simp at e; exact hne (by rw [e])) (by rw [hr.own] at hb; simp only at hb; rw [hb]; rfl) (by rw [hr.own] at hb; simp only at hb; rw [hb]; simp only [ZaZ, ZdM, hc]; simp [ren])
 | .ads j d e sz b, τ, σ, K, h, hG => by
  have hr := hC.ren γ
  simp only [Zdk] at h
  split at h
  case h_2 => exact h.elim
  rename_i he
  have hsj : σ.s j = .e0 := by rw [(hG.s j).1 Zak, ZjP he]; simp [ren]
  have h1 := RG.updH hr hG (1, d) ⟨(τ.H (1, d)).g + 1, true, e, sz, []⟩ rfl (.inl rfl)
  have e1 : ZaZ (C.r γ) (1, d) ⟨(τ.H (1, d)).g + 1, true, e, sz, []⟩ = ⟨(σ.H (C.l + 1, d)).g + 1, true, e, sz, []⟩ := by simp only [ZaZ, hG.g, Zan, Yp]
  rw [e1, hr.own] at h1
  have h3 : RG (C.r γ) C.l C.outs [] ⟨upd τ.s j (.ref (1, d) ((τ.H (1, d)).g + 1) 0 0), updH τ.H (1, d) ⟨(τ.H (1, d)).g + 1, true, e, sz, []⟩⟩ ⟨upd σ.s j (.ref (C.l + 1, d) ((σ.H (C.l + 1, d)).g + 1) 0 0), updH σ.H (C.l + 1, d) ⟨(σ.H (C.l + 1, d)).g + 1, true, e, sz, []⟩⟩ :=
   ⟨fun i => ⟨fun _ => by
    simp only [upd]
    by_cases hi : i = j
    ·rw [if_pos hi, if_pos hi]; simp [ren, hr.own, hG.g, Yp]
    ·rw [if_neg hi, if_neg hi]; exact (hG.s i).1 Zak, fun hn => absurd Zak hn⟩, h1.h, h1.g, h1.go, h1.k, h1.o⟩
  obtain ⟨τ', a', σ', k1, k2, k3⟩ := Zam hC b h h3
  refine ⟨τ', a', σ', k1, k2, Wk.trans (fun act w hR => ?_) k3⟩
  obtain ⟨s, H⟩ := σ
  exact R.adopt (e := e) (sz := sz) hR (C.l + 1, d) rfl _ (YP _) hsj
 | .trim k c b, τ, σ, K, h, hG => by
  have hr := hC.ren γ
  simp only [Zdk] at h
  split at h
  case h_2 => exact h.elim
  rename_i hl
  obtain ⟨⟨m, hm⟩, h⟩ := h
  have hb := hG.h k hl
  have hko : Zdk (C.r γ) C.outs b ⟨τ.s, updH τ.H k ⟨(τ.H k).g, true, (τ.H k).e, (τ.H k).sz, c⟩⟩ K ∧ Zz6 (C.r γ) C.outs k := by
   unfold trK at h
   split at h
   ·rename_i hk; exact ⟨h, .inl (Ya hk)⟩
   ·rcases hG.k k hl with h5 | ⟨_, h5⟩
    ·have := h.1.1; omega
    ·exact ⟨h.2, .inr ⟨h.1.1, h5, h.1.2⟩⟩
  obtain ⟨h, hko⟩ := hko
  have h1 := RG.updH hr hG k ⟨(τ.H k).g, true, (τ.H k).e, (τ.H k).sz, c⟩ rfl hko
  have e1 : ZaZ (C.r γ) k ⟨(τ.H k).g, true, (τ.H k).e, (τ.H k).sz, c⟩ = ⟨(σ.H ((C.r γ).κ k)).g, (σ.H ((C.r γ).κ k)).live, (σ.H ((C.r γ).κ k)).e, (σ.H ((C.r γ).κ k)).sz, (σ.H ((C.r γ).κ k)).cells.take m⟩ := by
   rw [hb]
   simp only [ZaZ, ZbB, hm]
  rw [e1] at h1
  obtain ⟨τ', a', σ', k1, k2, k3⟩ := Zam hC b h h1
  refine ⟨τ', a', σ', k1, k2, Wk.trans (fun act w hR => ?_) k3⟩
  obtain ⟨s, H⟩ := σ
  have hle : ((C.r γ).κ k).1 ≤ C.l + 1 := by
   obtain ⟨k1, k2⟩ := k
   have := hko.lk
   simp only at this
   rcases this with rfl | ⟨rfl, h2⟩
   ·rw [hr.own]; exact Yd _
   ·exact YaY (hr.out k2 h2)
  exact R.trim hR hle (by have hb' := hb; simp only at hb'; rw [hb']; rfl) m
 | .reb j d m c b, τ, σ, K, h, hG => by
  have hr := hC.ren γ
  simp only [Zdk] at h
  split at h
  case h_2 => exact h.elim
  rename_i k q off n hsj
  split at h
  case h_2 => exact h.elim
  rename_i hkd hq
  have hk : k = (1, d) := ZaM.1 hkd
  subst hk
  obtain ⟨hq1, hl⟩ := Za9 hq
  subst hq1
  obtain ⟨⟨hnm, hlen, hc⟩, h⟩ := h
  subst hc
  subst hnm
  have hb := hG.h (1, d) hl
  rw [hr.own] at hb
  have hlr : (σ.H (C.l + 1, d)).live = true := by rw [hb]; rfl
  have hszr : (σ.H (C.l + 1, d)).sz = (τ.H (1, d)).sz := by rw [hb]; rfl
  have hgr : (σ.H (C.l + 1, d)).g = (C.r γ).γ (1, d) + (τ.H (1, d)).g := by rw [hb]; rfl
  have hcr : (σ.H (C.l + 1, d)).cells = Zan (C.r γ) (τ.H (1, d)).cells := by rw [hb]; rfl
  have her : (σ.H (C.l + 1, d)).e = (τ.H (1, d)).e := by rw [hb]; rfl
  have hs : σ.s j = .ref (C.l + 1, d) (σ.H (C.l + 1, d)).g off n := by rw [(hG.s j).1 Zak, hsj]; simp only [ren]; rw [hr.own, hgr]
  have h1 := RG.updH hr hG (1, d) ⟨(τ.H (1, d)).g + 1, true, .t (τ.H (1, d)).e.ty, (τ.H (1, d)).sz, (τ.H (1, d)).cells.drop (off * (τ.H (1, d)).sz)⟩ rfl (.inl rfl)
  have e1 : ZaZ (C.r γ) (1, d) ⟨(τ.H (1, d)).g + 1, true, .t (τ.H (1, d)).e.ty, (τ.H (1, d)).sz, (τ.H (1, d)).cells.drop (off * (τ.H (1, d)).sz)⟩ = ⟨(σ.H (C.l + 1, d)).g + 1, true, .t (σ.H (C.l + 1, d)).e.ty, (σ.H (C.l + 1, d)).sz, (σ.H (C.l + 1, d)).cells.drop (off * (σ.H (C.l + 1, d)).sz)⟩ := by
   simp only [ZaZ, hgr, her, hszr, hcr, Zbj, Yp]
  rw [e1, hr.own] at h1
  have h3 : RG (C.r γ) C.l C.outs [] ⟨upd τ.s j (.ref (1, d) ((τ.H (1, d)).g + 1) 0 n), updH τ.H (1, d) ⟨(τ.H (1, d)).g + 1, true, .t (τ.H (1, d)).e.ty, (τ.H (1, d)).sz, (τ.H (1, d)).cells.drop (off * (τ.H (1, d)).sz)⟩⟩
    ⟨upd σ.s j (.ref (C.l + 1, d) ((σ.H (C.l + 1, d)).g + 1) 0 n), updH σ.H (C.l + 1, d) ⟨(σ.H (C.l + 1, d)).g + 1, true, .t (σ.H (C.l + 1, d)).e.ty, (σ.H (C.l + 1, d)).sz, (σ.H (C.l + 1, d)).cells.drop (off * (σ.H (C.l + 1, d)).sz)⟩⟩ :=
   ⟨fun i => ⟨fun _ => by
    simp only [upd]
    by_cases hi : i = j
    ·rw [if_pos hi, if_pos hi]; simp only [ren]; rw [hr.own, hgr, Yp]
    ·rw [if_neg hi, if_neg hi]; exact (hG.s i).1 Zak, fun hn => absurd Zak hn⟩, h1.h, h1.g, h1.go, h1.k, h1.o⟩
  obtain ⟨τ', a', σ', k1, k2, k3⟩ := Zam hC b h h3
  refine ⟨τ', a', σ', k1, k2, Wk.trans (fun act w hR => ?_) k3⟩
  obtain ⟨s, H⟩ := σ
  exact R.rebase hR (Yd _) hlr hs (by rw [hszr, hcr, ZaB]; exact hlen)
 | .mv d j b, τ, σ, K, h, hG => by
  have hr := hC.ren γ
  have hs : ∀ j, σ.s j = ren (C.r γ) (τ.s j) := fun j => (hG.s j).1 Zak
  simp only [Zdk] at h
  split at h
  case h_2 => exact h.elim
  rename_i hl
  obtain ⟨hf, ⟨hj, hno⟩, h⟩ := h
  have hb := hG.h _ hl
  have hbj := hG.go j hj
  rw [hr.own] at hb
  have hlr : (σ.H (C.l + 1, d)).live = true := by rw [hb]; rfl
  have hgr : (σ.H (C.l + 1, d)).g = (C.r γ).γ (1, d) + (τ.H (1, d)).g := by rw [hb]; rfl
  have h1 := RG.updK hr hG (1, d) ⟨(τ.H (1, d)).g, false, (τ.H (1, d)).e, (τ.H (1, d)).sz, (τ.H (1, d)).cells⟩ { σ.H (C.l + 1, d) with live := false } (fun e => by cases e) hgr (.inl rfl)
  rw [hr.own] at h1
  have h2 := RG.updH hr h1 (0, j) ⟨(τ.H (0, j)).g + 1, true, (τ.H (1, d)).e, (τ.H (1, d)).sz, (τ.H (1, d)).cells⟩ rfl (.inr ⟨rfl, hj, hno⟩)
  have e2 : ZaZ (C.r γ) (0, j) ⟨(τ.H (0, j)).g + 1, true, (τ.H (1, d)).e, (τ.H (1, d)).sz, (τ.H (1, d)).cells⟩ = { σ.H (C.l + 1, d) with g := (σ.H ((C.r γ).κ (0, j))).g + 1 } := by
   rw [hb]
   simp only [ZaZ, hbj, Yp]
  rw [e2] at h2
  have h3 : RG (C.r γ) C.l C.outs [] ⟨fun i => mvA (1, d) (0, j) (τ.H (1, d)).g ((τ.H (0, j)).g + 1) (τ.s i), updH (updH τ.H (1, d) ⟨(τ.H (1, d)).g, false, (τ.H (1, d)).e, (τ.H (1, d)).sz, (τ.H (1, d)).cells⟩) (0, j) ⟨(τ.H (0, j)).g + 1, true, (τ.H (1, d)).e, (τ.H (1, d)).sz, (τ.H (1, d)).cells⟩⟩
    ⟨fun i => ren (C.r γ) (mvA (1, d) (0, j) (τ.H (1, d)).g ((τ.H (0, j)).g + 1) (τ.s i)), updH (updH σ.H (C.l + 1, d) { σ.H (C.l + 1, d) with live := false }) ((C.r γ).κ (0, j)) { σ.H (C.l + 1, d) with g := (σ.H ((C.r γ).κ (0, j))).g + 1 }⟩ :=
   ⟨fun i => ⟨fun _ => rfl, fun hn => absurd Zak hn⟩, h2.h, h2.g, h2.go, h2.k, h2.o⟩
  obtain ⟨τ', a', σ', k1, k2, k3⟩ := Zam hC b h h3
  refine ⟨τ', a', σ', k1, k2, Wk.trans (fun act w hR => ?_) k3⟩
  obtain ⟨s, H⟩ := σ
  refine R.handout hR (k := (C.l + 1, d)) rfl (hr.out j hj) hlr (by have hb' := hb; simp only at hb'; rw [hb']; exact Zex hf) (fun i => ?_)
  have hsi := hs i
  simp only at hsi
  cases hx : τ.s i with
  | ref q g off c =>
   rw [hx] at hsi
   rw [ZjL]
   split
   ·rename_i hc
    obtain ⟨rfl, rfl⟩ := hc
    refine .inr (.inl ⟨off, c, ?_, ?_⟩)
    ·rw [hsi]; simp only [ren]; rw [hr.own]; simp only at hgr; rw [hgr]
    ·simp only [ren]; simp only at hbj; rw [hbj, Yp]
   ·left; rw [hsi]
  | mp q g =>
   rw [hx] at hsi
   rw [Zn8]
   split
   ·rename_i hc
    obtain ⟨rfl, rfl⟩ := hc
    refine .inr (.inr ⟨?_, ?_⟩)
    ·rw [hsi]; simp only [ren]; rw [hr.own]; simp only at hgr; rw [hgr]
    ·simp only [ren]; simp only at hbj; rw [hbj, Yp]
   ·left; rw [hsi]
  | _ => left; rw [hsi, hx]; rfl
 | .rnm d d' e i b, τ, σ, K, h, hG => by
  have hr := hC.ren γ
  have hs : ∀ j, σ.s j = ren (C.r γ) (τ.s j) := fun j => (hG.s j).1 Zak
  simp only [Zdk] at h
  split at h
  case h_2 => exact h.elim
  rename_i k g off c hl hdd hed hed' hle hc
  split at h
  case h_2 => exact h.elim
  rename_i hk hg
  obtain ⟨hf, h⟩ := h
  have hk := ZaM.1 hk
  subst hk
  have hg := Ya hg
  subst hg
  have hdd : d ≠ d' := fun q => by subst q; simp at hdd
  have hed : e ≠ d := fun q => by subst q; simp at hed
  have hed' : e ≠ d' := fun q => by subst q; simp at hed'
  have hb := hG.h _ hl
  have hbe := hG.h _ hle
  rw [hr.own] at hb hbe
  have hlr : (σ.H (C.l + 1, d)).live = true := by rw [hb]; rfl
  have hler : (σ.H (C.l + 1, e)).live = true := by rw [hbe]; rfl
  have hgr : (σ.H (C.l + 1, d)).g = (C.r γ).γ (1, d) + (τ.H (1, d)).g := by rw [hb]; rfl
  have hgd := hG.g d'
  have h1 := RG.updK hr hG (1, d) ⟨(τ.H (1, d)).g, false, (τ.H (1, d)).e, (τ.H (1, d)).sz, (τ.H (1, d)).cells⟩ { σ.H (C.l + 1, d) with live := false } (fun e => by cases e) hgr (.inl rfl)
  rw [hr.own] at h1
  have h2 := RG.updH hr h1 (1, d') ⟨(τ.H (1, d')).g + 1, true, (τ.H (1, d)).e, (τ.H (1, d)).sz, (τ.H (1, d)).cells⟩ rfl (.inl rfl)
  have e2 : ZaZ (C.r γ) (1, d') ⟨(τ.H (1, d')).g + 1, true, (τ.H (1, d)).e, (τ.H (1, d)).sz, (τ.H (1, d)).cells⟩ = { σ.H (C.l + 1, d) with g := (σ.H (C.l + 1, d')).g + 1 } := by
   rw [hb]
   simp only [ZaZ, hgd, Yp]
  rw [e2, hr.own] at h2
  have h4 := RG.updH hr h2 (1, e) ⟨(τ.H (1, e)).g, true, (τ.H (1, e)).e, (τ.H (1, e)).sz, (τ.H (1, e)).cells.set i (.ref (1, d') ((τ.H (1, d')).g + 1) off c)⟩ rfl (.inl rfl)
  have e4 : ZaZ (C.r γ) (1, e) ⟨(τ.H (1, e)).g, true, (τ.H (1, e)).e, (τ.H (1, e)).sz, (τ.H (1, e)).cells.set i (.ref (1, d') ((τ.H (1, d')).g + 1) off c)⟩ =
    ⟨(σ.H (C.l + 1, e)).g, true, (σ.H (C.l + 1, e)).e, (σ.H (C.l + 1, e)).sz, (σ.H (C.l + 1, e)).cells.set i (.ref (C.l + 1, d') ((σ.H (C.l + 1, d')).g + 1) off c)⟩ := by
   rw [hbe]
   simp only [ZaZ]
   rw [← Zfu]
   simp [ren, hr.own, hgd, Yp]
  rw [e4, hr.own] at h4
  have h3 : RG (C.r γ) C.l C.outs [] ⟨fun j => mvA (1, d) (1, d') (τ.H (1, d)).g ((τ.H (1, d')).g + 1) (τ.s j), _⟩
    ⟨fun j => ren (C.r γ) (mvA (1, d) (1, d') (τ.H (1, d)).g ((τ.H (1, d')).g + 1) (τ.s j)), _⟩ :=
   ⟨fun i => ⟨fun _ => rfl, fun hn => absurd Zak hn⟩, h4.h, h4.g, h4.go, h4.k, h4.o⟩
  obtain ⟨τ', a', σ', k1, k2, k3⟩ := Zam hC b h h3
  refine ⟨τ', a', σ', k1, k2, Wk.trans (fun act w hR => ?_) k3⟩
  obtain ⟨s, H⟩ := σ
  rw [Zby] at hc
  refine R.rename hR (k := (C.l + 1, d)) (k' := (C.l + 1, d')) (q := (C.l + 1, e)) rfl (Yd _) rfl (fun q => hdd (by simpa using q)) (fun q => hed (by simpa using q)) (fun q => hed' (by simpa using q)) hlr hler (by have hb' := hb; simp only at hb'; rw [hb']; exact Zex hf)
   (by simp only at hbe hgr; rw [hbe]; simp only [ZaZ, ZdM, hc]; simp [ren, hr.own, hgr]) (fun i => ?_)
  have hsi := hs i
  simp only at hsi
  cases hx : τ.s i with
  | ref q g off c =>
   rw [hx] at hsi
   rw [ZjL]
   split
   ·rename_i hc
    obtain ⟨rfl, rfl⟩ := hc
    refine .inr (.inl ⟨off, c, ?_, ?_⟩)
    ·rw [hsi]; simp only [ren]; rw [hr.own]; simp only at hgr; rw [hgr]
    ·simp only [ren]; rw [hr.own]; simp only at hgd; rw [hgd, Yp]
   ·left; rw [hsi]
  | mp q g =>
   rw [hx] at hsi
   rw [Zn8]
   split
   ·rename_i hc
    obtain ⟨rfl, rfl⟩ := hc
    refine .inr (.inr ⟨?_, ?_⟩)
    ·rw [hsi]; simp only [ren]; rw [hr.own]; simp only at hgr; rw [hgr]
    ·simp only [ren]; rw [hr.own]; simp only at hgd; rw [hgd, Yp]
   ·left; rw [hsi]
  | _ => left; rw [hsi, hx]; rfl
 | .mvc d q e i b, τ, σ, K, h, hG => by
  have hr := hC.ren γ
  have hs : ∀ j, σ.s j = ren (C.r γ) (τ.s j) := fun j => (hG.s j).1 Zak
  simp only [Zdk] at h
  split at h
  case h_2 => exact h.elim
  rename_i k g off c hl hed hle hc
  split at h
  case h_2 => exact h.elim
  rename_i hk hg
  obtain ⟨hf, ⟨hj, hno⟩, h⟩ := h
  have hk := ZaM.1 hk
  subst hk
  have hg := Ya hg
  subst hg
  have hed : e ≠ d := fun q' => by subst q'; simp at hed
  have hb := hG.h _ hl
  have hbe := hG.h _ hle
  rw [hr.own] at hb hbe
  have hlr : (σ.H (C.l + 1, d)).live = true := by rw [hb]; rfl
  have hler : (σ.H (C.l + 1, e)).live = true := by rw [hbe]; rfl
  have hgr : (σ.H (C.l + 1, d)).g = (C.r γ).γ (1, d) + (τ.H (1, d)).g := by rw [hb]; rfl
  have hgd := hG.go q hj
  have hlo := hr.out q hj
  have h1 := RG.updK hr hG (1, d) ⟨(τ.H (1, d)).g, false, (τ.H (1, d)).e, (τ.H (1, d)).sz, (τ.H (1, d)).cells⟩ { σ.H (C.l + 1, d) with live := false } (fun e => by cases e) hgr (.inl rfl)
  rw [hr.own] at h1
  have h2 := RG.updH hr h1 (0, q) ⟨(τ.H (0, q)).g + 1, true, (τ.H (1, d)).e, (τ.H (1, d)).sz, (τ.H (1, d)).cells⟩ rfl (.inr ⟨rfl, hj, hno⟩)
  have e2 : ZaZ (C.r γ) (0, q) ⟨(τ.H (0, q)).g + 1, true, (τ.H (1, d)).e, (τ.H (1, d)).sz, (τ.H (1, d)).cells⟩ = { σ.H (C.l + 1, d) with g := (σ.H ((C.r γ).κ (0, q))).g + 1 } := by
   rw [hb]
   simp only [ZaZ, hgd, Yp]
  rw [e2] at h2
  have h4 := RG.updH hr h2 (1, e) ⟨(τ.H (1, e)).g, true, (τ.H (1, e)).e, (τ.H (1, e)).sz, (τ.H (1, e)).cells.set i (.ref (0, q) ((τ.H (0, q)).g + 1) off c)⟩ rfl (.inl rfl)
  have e4 : ZaZ (C.r γ) (1, e) ⟨(τ.H (1, e)).g, true, (τ.H (1, e)).e, (τ.H (1, e)).sz, (τ.H (1, e)).cells.set i (.ref (0, q) ((τ.H (0, q)).g + 1) off c)⟩ =
    ⟨(σ.H (C.l + 1, e)).g, true, (σ.H (C.l + 1, e)).e, (σ.H (C.l + 1, e)).sz, (σ.H (C.l + 1, e)).cells.set i (.ref ((C.r γ).κ (0, q)) ((σ.H ((C.r γ).κ (0, q))).g + 1) off c)⟩ := by
   rw [hbe]
   simp only [ZaZ]
   rw [← Zfu]
   simp [ren, hr.own, hgd, Yp]
  rw [e4, hr.own] at h4
  have h3 : RG (C.r γ) C.l C.outs [] ⟨fun j => mvA (1, d) (0, q) (τ.H (1, d)).g ((τ.H (0, q)).g + 1) (τ.s j), _⟩
    ⟨fun j => ren (C.r γ) (mvA (1, d) (0, q) (τ.H (1, d)).g ((τ.H (0, q)).g + 1) (τ.s j)), _⟩ :=
   ⟨fun i => ⟨fun _ => rfl, fun hn => absurd Zak hn⟩, h4.h, h4.g, h4.go, h4.k, h4.o⟩
  obtain ⟨τ', a', σ', k1, k2, k3⟩ := Zam hC b h h3
  refine ⟨τ', a', σ', k1, k2, Wk.trans (fun act w hR => ?_) k3⟩
  obtain ⟨s, H⟩ := σ
  rw [Zby] at hc
  refine R.rename hR (k := (C.l + 1, d)) (k' := ((C.r γ).κ (0, q))) (q := (C.l + 1, e)) rfl (YaY hlo) rfl (fun q' => by rw [← q'] at hlo; exact absurd hlo (Nat.not_succ_le_self _)) (fun q' => hed (by simpa using q')) (fun q' => by rw [← q'] at hlo; exact absurd hlo (Nat.not_succ_le_self _)) hlr hler (by have hb' := hb; simp only at hb'; rw [hb']; exact Zex hf)
   (by simp only at hbe hgr; rw [hbe]; simp only [ZaZ, ZdM, hc]; simp [ren, hr.own, hgr]) (fun i => ?_)
  have hsi := hs i
  simp only at hsi
  cases hx : τ.s i with
  | ref q g off c =>
   rw [hx] at hsi
   rw [ZjL]
   split
   ·rename_i hc
    obtain ⟨rfl, rfl⟩ := hc
    refine .inr (.inl ⟨off, c, ?_, ?_⟩)
    ·rw [hsi]; simp only [ren]; rw [hr.own]; simp only at hgr; rw [hgr]
    ·simp only [ren]; simp only at hgd; rw [hgd, Yp]
   ·left; rw [hsi]
  | mp q g =>
   rw [hx] at hsi
   rw [Zn8]
   split
   ·rename_i hc
    obtain ⟨rfl, rfl⟩ := hc
    refine .inr (.inr ⟨?_, ?_⟩)
    ·rw [hsi]; simp only [ren]; rw [hr.own]; simp only at hgr; rw [hgr]
    ·simp only [ren]; simp only at hgd; rw [hgd, Yp]
   ·left; rw [hsi]
  | _ => left; rw [hsi, hx]; rfl
 | .fzm d js b, τ, σ, K, h, hG => by
  have hr := hC.ren γ
  have hs : ∀ j, σ.s j = ren (C.r γ) (τ.s j) := fun j => (hG.s j).1 Zak
  simp only [Zdk] at h
  split at h
  case h_2 => exact h.elim
  rename_i q es hl he hm
  have hjs := Zvi hm
  have hb := hG.h _ hl
  rw [hr.own] at hb
  have hlr : (σ.H (C.l + 1, d)).live = true := by rw [hb]; rfl
  have her : (σ.H (C.l + 1, d)).e = .m q es := by rw [hb]; exact he
  have hgr : (σ.H (C.l + 1, d)).g = (C.r γ).γ (1, d) + (τ.H (1, d)).g := by rw [hb]; rfl
  have h1 := RG.updK hr hG (1, d) ⟨(τ.H (1, d)).g, false, (τ.H (1, d)).e, (τ.H (1, d)).sz, (τ.H (1, d)).cells⟩ { σ.H (C.l + 1, d) with live := false } (fun e => by cases e) hgr (.inl rfl)
  rw [hr.own] at h1
  have h3 : RG (C.r γ) C.l C.outs [] ⟨ZkN (.d (.map q es)) js τ.s, updH τ.H (1, d) ⟨(τ.H (1, d)).g, false, (τ.H (1, d)).e, (τ.H (1, d)).sz, (τ.H (1, d)).cells⟩⟩ ⟨ZkN (.d (.map q es)) js σ.s, updH σ.H (C.l + 1, d) { σ.H (C.l + 1, d) with live := false }⟩ :=
   ⟨fun j => ⟨fun _ => by
    simp only [Zgl]
    by_cases hj : j ∈ js
    ·rw [if_pos hj, if_pos hj]; simp [ren]
    ·rw [if_neg hj, if_neg hj]; exact hs j, fun hn => absurd Zak hn⟩, h1.h, h1.g, h1.go, h1.k, h1.o⟩
  obtain ⟨τ', a', σ', k1, k2, k3⟩ := Zam hC b h h3
  refine ⟨τ', a', σ', k1, k2, Wk.trans (fun act w hR => ?_) k3⟩
  obtain ⟨s, H⟩ := σ
  refine R.freezeM hR (k := (C.l + 1, d)) (Yd _) hlr her js (fun j hj => ?_)
  obtain ⟨g, g1, g2⟩ := hjs j hj
  have := hs j
  simp only at this hgr
  rw [this, g1]
  simp only [ren]
  rw [hr.own, hgr, (Za9 g2).1]
 | .fzb d js b, τ, σ, K, h, hG => by
  have hr := hC.ren γ
  have hs : ∀ j, σ.s j = ren (C.r γ) (τ.s j) := fun j => (hG.s j).1 Zak
  simp only [Zdk] at h
  split at h
  case h_2 => exact h.elim
  rename_i x ds hl he hm
  have hjs := Zv2 hm
  have hb := hG.h _ hl
  rw [hr.own] at hb
  have hlr : (σ.H (C.l + 1, d)).live = true := by rw [hb]; rfl
  have her : (σ.H (C.l + 1, d)).cells = (x :: ds).map .d := by rw [hb]; show Zan _ _ = _; rw [ZhO he, Zez]
  have hgr : (σ.H (C.l + 1, d)).g = (C.r γ).γ (1, d) + (τ.H (1, d)).g := by rw [hb]; rfl
  have h1 := RG.updK hr hG (1, d) ⟨(τ.H (1, d)).g, false, (τ.H (1, d)).e, (τ.H (1, d)).sz, (τ.H (1, d)).cells⟩ { σ.H (C.l + 1, d) with live := false } (fun e => by cases e) hgr (.inl rfl)
  rw [hr.own] at h1
  have h3 : RG (C.r γ) C.l C.outs [] ⟨ZkN (.iptr (x :: ds) 0) js τ.s, updH τ.H (1, d) ⟨(τ.H (1, d)).g, false, (τ.H (1, d)).e, (τ.H (1, d)).sz, (τ.H (1, d)).cells⟩⟩ ⟨ZkN (.iptr (x :: ds) 0) js σ.s, updH σ.H (C.l + 1, d) { σ.H (C.l + 1, d) with live := false }⟩ :=
   ⟨fun j => ⟨fun _ => by
    simp only [Zgl]
    by_cases hj : j ∈ js
    ·rw [if_pos hj, if_pos hj]; simp [ren]
    ·rw [if_neg hj, if_neg hj]; exact hs j, fun hn => absurd Zak hn⟩, h1.h, h1.g, h1.go, h1.k, h1.o⟩
  obtain ⟨τ', a', σ', k1, k2, k3⟩ := Zam hC b h h3
  refine ⟨τ', a', σ', k1, k2, Wk.trans (fun act w hR => ?_) k3⟩
  obtain ⟨s, H⟩ := σ
  refine R.freezeB hR (k := (C.l + 1, d)) (Yd _) hlr her (by simp) js (fun j hj => ?_)
  obtain ⟨g, g1, g2⟩ := hjs j hj
  have := hs j
  simp only at this hgr
  rw [this, g1]
  simp only [ren]
  rw [hr.own, hgr, (Za9 g2).1]
 | .ents _ _, τ, σ, K, h, hG => ⟨τ, _, σ, h, hG, Wk.refl σ⟩
 | .all _ _, τ, σ, K, h, hG => ⟨τ, _, σ, h, hG, Wk.refl σ⟩
 | .nil, τ, σ, K, h, hG => ⟨τ, _, σ, h, hG, Wk.refl σ⟩
 | .sep _, τ, σ, K, h, hG => ⟨τ, _, σ, h, hG, Wk.refl σ⟩
 | .go _, τ, σ, K, h, hG => ⟨τ, _, σ, h, hG, Wk.refl σ⟩
 | .av _ _, τ, σ, K, h, hG => ⟨τ, _, σ, h, hG, Wk.refl σ⟩
 | .cs _ _, τ, σ, K, h, hG => ⟨τ, _, σ, h, hG, Wk.refl σ⟩
 | .ds _ _, τ, σ, K, h, hG => ⟨τ, _, σ, h, hG, Wk.refl σ⟩
 | .num _ _, τ, σ, K, h, hG => ⟨τ, _, σ, h, hG, Wk.refl σ⟩
 | .nat _ _, τ, σ, K, h, hG => ⟨τ, _, σ, h, hG, Wk.refl σ⟩
 | .call _ _ _, τ, σ, K, h, hG => ⟨τ, _, σ, h, hG, Wk.refl σ⟩
 | .callH _ _ _ _, τ, σ, K, h, hG => ⟨τ, _, σ, h, hG, Wk.refl σ⟩
 | .br _ _, τ, σ, K, h, hG => ⟨τ, _, σ, h, hG, Wk.refl σ⟩
 | .one _ _, τ, σ, K, h, hG => ⟨τ, _, σ, h, hG, Wk.refl σ⟩
 | .hard _ _ _ _ _, τ, σ, K, h, hG => ⟨τ, _, σ, h, hG, Wk.refl σ⟩
theorem ZaS (hC : CxOk C) (hT : TOk P T) (hm : P.follows .mixedOrders = true) {γ : Key → Nat} : ∀ (c : Code) (a : AT) (τ σ : St) (K : Exit → St → AT → Prop), Zdr P T C.l n C.outs (C.r γ) c a τ K → RG (C.r γ) C.l C.outs [] τ σ →
  AWp P C.l n C.B c (ZJv n C γ K) σ
 | .skip, a, τ, σ, K, h, hG => ZtD ⟨τ, a, σ, h, hG, Wk.refl σ⟩
 | .ret, a, τ, σ, K, h, hG => by
  obtain ⟨τ', a', σ', h1, h2, h3⟩ := Zam (n := n) hC a h hG
  exact AWp.weak (Zyl ⟨τ', a', σ', h1, h2, Wk.refl σ'⟩) h3
 | .exit id, a, τ, σ, K, h, hG => Zr2 ⟨τ, a, σ, h, hG, Wk.refl σ⟩
 | .seq x y, a, τ, σ, K, h, hG => by
  have ih := ZaS hC hT hm x a τ σ _ h hG
  refine Zhl (ZcD ih fun e σ' hi => ?_)
  obtain ⟨τ', a', σ'', h1, h2, h3⟩ := hi
  cases e with
  | normal => exact AWp.weak (ZaS hC hT hm y a' τ' σ'' _ h1 h2) h3
  | _ => exact ⟨τ', a', σ'', h1, h2, h3⟩
 | .block id c, a, τ, σ, K, h, hG => by
  have ih := ZaS hC hT hm c a τ σ _ h hG
  refine Zit (ZcD ih fun e σ' hi => ?_)
  obtain ⟨τ', a', σ'', h1, h2, h3⟩ := hi
  cases e with
  | exit i =>
   unfold ZkE
   simp only at h1 ⊢
   split at h1
   ·rename_i he; rw [if_pos (Ya he)]; exact ⟨τ', a', σ'', h1, h2, h3⟩
   ·rename_i he; rw [if_neg (by rintro rfl; simp at he)]; exact ⟨τ', a', σ'', h1, h2, h3⟩
  | _ => exact ⟨τ', a', σ'', h1, h2, h3⟩
 | .cond c x y, a, τ, σ, K, h, hG => by
  have he : ∀ {b}, ev τ.s c = .d (.bool b) → ev σ.s c = .d (.bool b) := fun {b} hc => by rw [Zgh (c := []) hG Zak (by cases c <;> rfl), hc]; simp [ren]
  unfold Zdr at h
  split at h
  ·rename_i b a1 a2 hc
   exact ZeF (he hc) (fun e => ZaS hC hT hm x a1 τ σ K (h.1 e) hG) (fun e => ZaS hC hT hm y a2 τ σ K (h.2 e) hG)
  ·rename_i b a' hc
   refine ZeF (he hc) (fun e => ?_) (fun e => ?_)
   ·subst e; exact ZaS hC hT hm x a' τ σ K h hG
   ·subst e; exact ZaS hC hT hm y a' τ σ K h hG
  ·rename_i b v a' hc
   cases v with
   | true => exact ZeF (he hc) (fun e => ZaS hC hT hm x a' τ σ K (h.1 e) hG) (fun e => (h.2 e).elim)
   | false => exact ZeF (he hc) (fun e => (h.1 e).elim) (fun e => ZaS hC hT hm y a' τ σ K (h.2 e) hG)
  ·exact h.elim
 | .region id ops draw, a, τ, σ, K, h, hG => by
  obtain ⟨opl, rfl⟩ : ∃ l : List Oper, ops = l.toArray := ⟨ops.toList, by simp⟩
  have fin : ∀ τ' env' a' σ', K .normal (ZjR env' τ') a' → RG (C.r γ) C.l C.outs env' τ' σ' → ZJv n C γ K .normal σ' := fun τ' env' a' σ' h1 h2 => by
   obtain ⟨σ'', h3, h4⟩ := Zdy (n := n) h2
   exact ⟨_, a', σ'', h1, h3, h4⟩
  unfold Zdr at h
  split at h
  ·obtain ⟨τ₁, a₁, σ₁, h, hG, hw⟩ := Zam (n := n) hC a h hG
   refine AWp.weak ?_ hw
   intro act w hR
   have := Zdw (hC.ren γ) hT (ops := opl.toArray) (B := C.B) (K := fun τ' env a' => K .normal (ZjR env τ') a') (QQ := fun e a' w' => ∃ σ', ZJv n C γ K e σ' ∧ R C.l n C.B σ' a' w') [] (fun τ' env' a' σ' act' w' h1 h2 h3 => by
    unfold wpList
    exact ⟨σ', fin _ _ _ _ h1 h2, h3⟩) opl [] a₁ τ₁ σ₁ act w (by simpa using h) hG hR
   rw [Yar] at this
   exact wp_region_lit this
  ·split at h
   case h_2 => exact h.elim
   rename_i hb
   simp only [Bool.and_eq_true] at hb
   obtain ⟨τ₁, a₁, σ₁, h, hG, hw⟩ := Zam (n := n) hC a h hG
   refine AWp.weak ?_ hw
   refine Zma hm (Zg5 (by simpa using hb.1.1)) (by simpa using hb.1.2) (by simpa using hb.2) (Zfv opl (fun σ' hq => ?_) (Zd8 (hC.ren γ) (l := C.l) (r := C.r γ) (outs := C.outs) (K := fun τ' env a' => K .normal (ZjR env τ') a') hT opl [] a₁ τ₁ σ₁ (by simpa using hb.1.2) (by simpa using h) hG))
   obtain ⟨τ', env', a', h1, h2⟩ := hq
   exact fin _ _ _ _ h1 h2
 | .loop _, a, τ, σ, K, h, hG => h.elim
 | .rangeFunc _ _ _ _, a, τ, σ, K, h, hG => h.elim
 | .scope _, a, τ, σ, K, h, hG => h.elim
 | .label _, a, τ, σ, K, h, hG => h.elim
 | .goto _, a, τ, σ, K, h, hG => h.elim
 | .refuse _, a, τ, σ, K, h, hG => h.elim
theorem ZFQ (hC : CxOk C) (hT : TOk P T) (hm : P.follows .mixedOrders = true) {c : Code} {a : AT} (K : (Key → Nat) → Exit → St → AT → Prop) (h : ∀ γ, Zdr P T C.l n C.outs (C.r γ) c a τ (K γ))
  (hk : ∀ γ e τ' a' σ', C.G γ → K γ e τ' a' → RG (C.r γ) C.l C.outs [] τ' σ' → Is n C (Q e) σ') : LW P n C c τ Q := by
 intro γ σ hg hG
 refine ZcD (ZaS hC hT hm c a τ σ (K γ) (h γ) hG) fun e σ' hi => ?_
 obtain ⟨τ', a', σ'', h1, h2, h3⟩ := hi
 obtain ⟨γ', τ₂, σ₂, k0, k1, k2, k3⟩ := hk γ e τ' a' σ'' hg h1 h2
 exact ⟨γ', τ₂, σ₂, k0, k1, k2, h3.trans k3⟩
theorem ZEQ (hC : CxOk C) (hT : TOk P T) (hm : P.follows .mixedOrders = true) {c : Code} (a : AT) {rs : List ResultVar} {Post : AV → List Blk → Prop} (h : ∀ γ, Zdr P T C.l n C.outs (C.r γ) c a τ (KF T rs C.outs Post)) : LW P n C c τ (FQ T rs C.outs Post) :=
 ZFQ hC hT hm (fun _ => KF T rs C.outs Post) h fun γ e τ' a' σ' hg hk hG => .of hg hG (by
  cases e <;> simp only [KF] at hk
  ·exact ⟨.inl rfl, a', hk⟩
  ·exact ⟨.inr rfl, a', hk⟩)
theorem ZFj (hC : CxOk C) (hT : TOk P T) (hm : P.follows .mixedOrders = true) {c : Code} (a : AT) (lf lx : Lf) {rs : List ResultVar} {Post : AV → List Blk → Prop} (hQ : ∀ τ, FQ T rs C.outs Post .ret τ → Q .ret τ) (h : ∀ γ, Zdr P T C.l n C.outs (C.r γ) c a τ (KB T rs C.outs C.fx (C.r γ) Post lf lx Q)) : LW P n C c τ Q :=
 ZFQ hC hT hm (fun γ => KB T rs C.outs C.fx (C.r γ) Post lf lx Q) h fun γ e τ' a' σ' hg hk hG => by
  cases e <;> simp only [KB] at hk
  ·obtain ⟨τ₁, a₁, σ₁, k1, k2, k3⟩ := Zam (n := n) hC a' hk hG
   obtain ⟨γ', τ₂, σ₂, j0, j1, j2, j3⟩ := Zb2 (n := n) hC k1 hg k2
   exact ⟨γ', τ₂, σ₂, j0, j1, j2, k3.trans j3⟩
  ·obtain ⟨τ₁, a₁, σ₁, k1, k2, k3⟩ := Zam (n := n) hC a' hk hG
   obtain ⟨γ', τ₂, σ₂, j0, j1, j2, j3⟩ := Zb2 (n := n) hC k1 hg k2
   exact ⟨γ', τ₂, σ₂, j0, j1, j2, k3.trans j3⟩
  ·exact .of hg hG (hQ _ ⟨.inr rfl, a', hk⟩)
theorem ZqC {sz : Nat} : ∀ {es : List (List D)} {i j : Nat} {e : List D} {d : D}, (∀ e ∈ es, e.length = sz) → es[i]? = some e → e[j]? = some d → es.flatten[i * sz + j]? = some d
 | [], i, j, e, d, h, hi, hj => by simp at hi
 | f :: es, 0, j, e, d, h, hi, hj => by
  grind
 | f :: es, i + 1, j, e, d, h, hi, hj => by
  have hf := h f (Yw ..)
  rw [Yab, Yk (by rw [hf, YB]; omega), hf, show (i + 1) * sz + j - sz = i * sz + j from by rw [YB]; omega]
  exact ZqC (fun e he => h e (Yq _ he)) (by simpa using hi) hj
mutual
theorem Zos (hC : CxOk C) {γ : Key → Nat} {H H' : Hp} (hH : ZiO (C.r γ) H H') (hk : ∀ k, (H k).live = true → k.1 = 1 ∨ (k.1 = 0 ∧ k.2 < C.outs)) : ∀ (x : AV) {a : AT} {K : AV → AT → Prop}, frz H x a K → ∃ y a', Fz H' C.l (ren (C.r γ) x) (ren (C.r γ) y) ∧ (C.outs = 0 → ∀ r, ren r y = y) ∧ K y a'
 | .d x, a, K, h => ⟨.d x, a, by simp only [ren]; exact .keep _ rfl, fun _ r => by simp [ren], h⟩
 | .e0, a, K, h => ⟨.d (.list []), a, by simp only [ren]; exact .e0, fun _ r => by simp [ren], h⟩
 | .agg xs, a, K, h => by
  obtain ⟨ys, a', h1, h0, h2⟩ := ZeV hC hH hk xs h
  exact ⟨.agg ys, a', by simp only [ren]; exact .agg _ _ h1.1 h1.2, fun e r => by simp only [ren]; rw [h0 e r], h2⟩
 | .ref k g off m, a, K, h => by
  unfold frz at h
  split at h
  ·rename_i hk0 hl
   have hk0 := Ya hk0
   have hlt : k.2 < C.outs := by
    rcases hk k (Za9 hl).2 with h1 | h1
    ·omega
    grind
   obtain ⟨k1, k2⟩ := k
   simp only at hk0 hlt
   subst hk0
   exact ⟨.ref (0, k2) g off m, a, by simp only [ren]; exact .keep _ (decide_eq_true (hC.out k2 hlt)), fun e => by omega, h⟩
  ·rename_i _ hk hl
   split at h
   case h_2 => exact h.elim
   rename_i es a'
   obtain ⟨⟨h1, h2, h3, h4, h5⟩, h6⟩ := h
   have hk := Ya hk
   obtain ⟨g1, g2, g3, g4, g5⟩ := hH.at hl
   obtain ⟨k1, k2⟩ := k
   simp only at hk
   subst hk
   refine ⟨.d (.list es), a', ?_, fun _ r => by simp [ren], h6⟩
   simp only [ren]
   rw [g1]
   have hκ : (C.r γ).κ (1, k2) = (C.l + 1, k2) := hC.own k2
   refine .ref _ off m es (by rw [hκ]) g2 h1 (by rw [g4]; exact h2) (by rw [g4]; exact h3) (by rw [g4, g5, ZaB]; exact h4) (fun i j e d x hi hj hx => ?_)
   have hil : i < m := by
    grind
   have hjl : j < (H (1, k2)).sz := by
    grind
   have e1 := ZqC h3 hi hj
   have hlt : i * (H (1, k2)).sz + j < m * (H (1, k2)).sz := by
    have : (i + 1) * (H (1, k2)).sz ≤ m * (H (1, k2)).sz := YJ _ hil
    grind
   have e2 : (H (1, k2)).cells[(off + i) * (H (1, k2)).sz + j]? = some (.d d) := by
    have := congrArg (fun l => l[i * (H (1, k2)).sz + j]?) h5
    grind
   rw [g4, g5, ZdM, e2] at hx
   simp only [YC, ren, Ye] at hx
   subst hx
   exact .keep _ rfl
  grind
 | .top, a, K, h => by simp only [frz] at h
 | .p _, a, K, h => by simp only [frz] at h
 | .ptr _ _ _, a, K, h => by simp only [frz] at h
 | .mp k g, a, K, h => by
  unfold frz at h
  split at h
  ·rename_i hk0 hl
   have hk0 := Ya hk0
   have hlt : k.2 < C.outs := by
    rcases hk k (Za9 hl).2 with h1 | h1
    ·omega
    grind
   obtain ⟨k1, k2⟩ := k
   simp only at hk0 hlt
   subst hk0
   exact ⟨.mp (0, k2) g, a, by simp only [ren]; exact .keep _ (decide_eq_true (hC.out k2 hlt)), fun e => by omega, h⟩
  ·rename_i q es _ hk hl he
   have hk := Ya hk
   obtain ⟨g1, g2, g3, _, _⟩ := hH.at hl
   obtain ⟨k1, k2⟩ := k
   simp only at hk
   subst hk
   refine ⟨.d (.map q es), a, ?_, fun _ r => by simp [ren], h⟩
   simp only [ren]
   rw [g1]
   have hκ : (C.r γ).κ (1, k2) = (C.l + 1, k2) := hC.own k2
   exact .mp _ q es (by rw [hκ]) g2 (by rw [g3, he])
  grind
 | .iptr _ _, a, K, h => by simp only [frz] at h
 | .ifc t ds q, a, K, h => ⟨.ifc t ds q, a, by simp only [ren]; exact .keep _ rfl, fun _ r => by simp [ren], h⟩
 | .fn _ _ _, a, K, h => by simp only [frz] at h
 | .tup _, a, K, h => by simp only [frz] at h
theorem ZeV (hC : CxOk C) {γ : Key → Nat} {H H' : Hp} (hH : ZiO (C.r γ) H H') (hk : ∀ k, (H k).live = true → k.1 = 1 ∨ (k.1 = 0 ∧ k.2 < C.outs)) : ∀ (xs : List AV) {a : AT} {K : List AV → AT → Prop}, ZuK H xs a K →
  ∃ ys a', ((Zan (C.r γ) xs).length = (Zan (C.r γ) ys).length ∧ ∀ (i : Nat) (x y : AV), (Zan (C.r γ) xs)[i]? = some x → (Zan (C.r γ) ys)[i]? = some y → Fz H' C.l x y) ∧ (C.outs = 0 → ∀ r, Zan r ys = ys) ∧ K ys a'
 | [], a, K, h => ⟨[], a, ⟨by simp [Zan], fun i x y hx => by simp [Zan] at hx⟩, fun _ r => by simp [Zan], h⟩
 | x :: xs, a, K, h => by
  simp only [ZuK] at h
  obtain ⟨y, a', h1, e1, h2⟩ := Zos hC hH hk x h
  obtain ⟨ys, a'', h3, e3, h4⟩ := ZeV hC hH hk xs h2
  refine ⟨y :: ys, a'', ⟨by simp [Zan, h3.1], fun i x' y' hx hy => ?_⟩, fun e r => by simp only [Zan]; rw [e1 e r, e3 e r], h4⟩
  cases i with
  | zero => simp only [Zan, YG, Ye] at hx hy; subst hx; subst hy; exact h1
  | succ i => simp only [Zan, YY] at hx hy; exact h3.2 i x' y' hx hy
end
theorem Zpo (hT : TOk P T) {γ : Key → Nat} (hG : RG (C.r γ) C.l C.outs [] τ σ) {v : ResultVar} {K : AV → Prop} (h : ldR T τ v K) : ∃ x, K x ∧ ∀ rs (K' : List AV → Prop), Zlk P σ rs (fun xs => K' (ren (C.r γ) x :: xs)) → Zlk P σ (v :: rs) K' := by
 cases v with
 | tmp t => exact ⟨_, h, fun rs K' h' => by unfold Zlk; rw [(hG.s t).1 Zak]; exact h'⟩
 | cell p t =>
  simp only [ldR] at h
  split at h
  case h_2 => exact h.elim
  rename_i k g off i hp hi
  have hp' : σ.s p = ren (C.r γ) (.ptr k g off) := by rw [(hG.s p).1 Zak, hp]
  split at h
  ·rename_i hl hag
   split at h
   case h_2 => exact h.elim
   rename_i c h1 h2
   refine ⟨_, h, fun rs K' h' => ?_⟩
   have := Zeq (a := .go .nil) (g := none) (K := fun v _ => v = .agg c) (hT _ _ hi) hG.h (fun b e => by cases e) (x := .ptr k g off) (by simp only [ZlB, hl, hag, h1, h2])
   unfold Zlk
   rw [hp']
   refine Zgj (fun y hy => ?_) this
   obtain ⟨v, a', rfl, rfl⟩ := hy
   exact h'
  ·rename_i hl hag
   split at h
   case h_2 => exact h.elim
   rename_i c hc
   refine ⟨_, h, fun rs K' h' => ?_⟩
   have := Zeq (a := .go .nil) (g := none) (K := fun v _ => v = c) (hT _ _ hi) hG.h (fun b e => by cases e) (x := .ptr k g off) (by simp only [ZlB, hl, hag, hc])
   unfold Zlk
   rw [hp']
   refine Zgj (fun y hy => ?_) this
   obtain ⟨v, a', rfl, rfl⟩ := hy
   exact h'
  grind
theorem ZgU (hT : TOk P T) {γ : Key → Nat} (hG : RG (C.r γ) C.l C.outs [] τ σ) : ∀ (rs : List ResultVar) {K : List AV → Prop}, ZJb T τ rs K → ∃ xs, K xs ∧ ∀ K' : List AV → Prop, K' (Zan (C.r γ) xs) → Zlk P σ rs K'
 | [], K, h => ⟨[], h, fun K' h' => by unfold Zlk; simpa [Zan] using h'⟩
 | v :: rs, K, h => by
  obtain ⟨x, h1, h2⟩ := Zpo hT hG h
  obtain ⟨xs, h3, h4⟩ := ZgU hT hG rs h1
  exact ⟨x :: xs, h3, fun K' h' => h2 rs K' (h4 _ (by simpa [Zan] using h'))⟩
structure OutsOk (C : Cx) (γ : Key → Nat) (bs : List Blk) (H' : Hp) : Prop where
 len : bs.length = C.outs
 g : ∀ i b, bs[i]? = some b → (H' (C.κ (0, i))).g = γ (0, i) + b.g
 live : ∀ i b, bs[i]? = some b → b.live = true → H' (C.κ (0, i)) = ZaZ (C.r γ) (0, i) b
 o : ∀ k : Key, ¬ C.no k → H' k = C.H0 k
theorem ZhK {H : Hp} : ∀ (n i j : Nat), (ZiS H n i)[j]? = if j < n then some (H (0, i + j)) else none
 | 0, i, j => by simp [ZiS]
 | n + 1, i, 0 => by simp [ZiS]
 | n + 1, i, j + 1 => by
  simp only [ZiS, YY, ZhK n (i + 1) j]
  grind
theorem Zic {H : Hp} : ∀ (n i : Nat), (ZiS H n i).length = n
 | 0, i => rfl
 | n + 1, i => by simp [ZiS, Zic n]
theorem ZAi (hC : CxOk C) (hT : TOk P T) {rs : List ResultVar} {LPost : AV → List Blk → Prop} {Post : AV → Hp → Prop} {e : Exit} (hp : ∀ γ y bs H', C.G γ → LPost y bs → OutsOk C γ bs H' → (C.outs = 0 → ∀ r, ren r y = y) → Post (ren (C.r γ) y) H')
  (h : Is n C (FQ T rs C.outs LPost e) σ) : ∃ σ', fins P C.l C.H0 rs Post e σ' ∧ Wk n C σ σ' := by
 obtain ⟨γ, τ, σ', hg, ⟨h1, a, h2⟩, hG, hw⟩ := h
 refine ⟨σ', ⟨h1, ?_⟩, hw⟩
 obtain ⟨xs, h3, h4⟩ := ZgU (P := P) hT hG rs h2
 obtain ⟨ys, a', h5, h0, h6⟩ := ZeV hC hG.h hG.k xs h3
 refine h4 _ ⟨ren (C.r γ) (ZiI ys), ?_, ?_⟩
 ·have hl := h5.1
  have h5 := h5.2
  have e1 : ren (C.r γ) (ZiI ys) = ZiI (Zan (C.r γ) ys) := by
   match ys with
   | [] => simp [ZiI, ren, Zan]
   | [y] => simp [ZiI, Zan]
   | y :: y' :: ys => simp [ZiI, ren, Zan]
  rw [e1]
  generalize Zan (C.r γ) ys = zs' at hl h5
  generalize Zan (C.r γ) xs = zs at hl h5
  match zs, zs', hl with
  | [], [], _ => exact .tup _ _ rfl fun i x y hx => by simp at hx
  | [x], [y], _ => exact h5 0 x y rfl rfl
  | x :: x' :: zs, y :: y' :: ys, hl => exact .tup _ _ hl h5
 ·refine hp γ _ _ _ hg h6 ⟨Zic _ _, fun i b hi => ?_, fun i b hi hb => ?_, fun k hk => ?_⟩ (fun e r => ?_)
  ·rw [ZhK] at hi
   split at hi
   ·rename_i hlt
    simp only [Yz, Ye] at hi
    subst hi
    rw [show mrg C.l σ'.H C.H0 (C.κ (0, i)) = σ'.H (C.κ (0, i)) from if_pos (hC.out i hlt)]
    exact hG.go i hlt
   grind
  ·rw [ZhK] at hi
   split at hi
   ·rename_i hlt
    simp only [Yz, Ye] at hi
    subst hi
    rw [show mrg C.l σ'.H C.H0 (C.κ (0, i)) = σ'.H (C.κ (0, i)) from if_pos (hC.out i hlt)]
    exact hG.h _ hb
   grind
  ·unfold mrg
   split
   ·rename_i hk'; exact hG.o k hk' hk
   ·rfl
  ·have := h0 e r
   match ys with
   | [] => simp [ZiI, ren, Zan]
   | [y] => simp only [Zan, List.cons.injEq, and_true] at this; simpa [ZiI] using this
   | y :: y' :: ys => simp only [ZiI, ren, this]
def Zjn : Nat → List AV → List (Nat × AV)
 | _, [] => []
 | i, x :: xs => (i, x) :: Zjn (i + 1) xs
theorem Zo5 {r : Ren} : ∀ (ys : List AV) (i j : Nat), ren r (lkS (Zjn i ys) (i + j)) = args (Zan r ys) j
 | [], i, j => by simp [Zjn, lkS, ren, Zan, args]
 | y :: ys, i, 0 => by simp [Zjn, lkS, Zan, args]
 | y :: ys, i, j + 1 => by
  have ih := Zo5 (r := r) ys (i + 1) j
  simp only [Zjn, lkS]
  split
  ·rename_i h; have := Ya h; omega
  ·rw [show i + (j + 1) = i + 1 + j from by omega, ih]
   simp [args, Zan]
theorem ZkK {f : FuncId} {fn : Func} (rs : List ResultVar) {c : Code} {l : Nat} {xs : List AV} {H : Hp} {Post : AV → Hp → Prop} {LPost : AV → List Blk → Prop} (C : Base → Cx) {γ : Key → Nat} {ys : List AV} {hs : List (Key × Blk)}
  (hf : P.funcs[f]? = some fn) (hb : fn.body = some c) (hname : (fn.name == "runtime.NumGoroutine") = false) (hn : fn.ntmps = n) (hr : fn.results.toList = rs) (hx : xs.length ≤ n) (hT : TOk P T)
  (hC : ∀ B, CxOk (C B)) (hB : ∀ B, (C B).l = l ∧ (C B).B = B ∧ (C B).H0 = H ∧ (C B).G γ) (hxs : ∀ B, Zan ((C B).r γ) ys = xs) (hγ : ∀ d, γ (1, d) = 0) (hh : ∀ d, lkH hs (1, d) = ZlH)
  (hhs : ∀ B k, (lkH hs k).live = true → k.1 = 0 ∧ k.2 < (C B).outs ∧ H ((C B).κ k) = ZaZ ((C B).r γ) k (lkH hs k)) (hgs : ∀ B i, i < (C B).outs → (H ((C B).κ (0, i))).g = γ (0, i) + (lkH hs (0, i)).g)
  (hp : ∀ B γ y bs H', (C B).G γ → LPost y bs → OutsOk (C B) γ bs H' → ((C B).outs = 0 → ∀ r, ren r y = y) → Post (ren ((C B).r γ) y) H')
  (h : ∀ B : Base, LW P n (C B) c (mkS (Zjn 0 ys) hs) (FQ T rs (C B).outs LPost)) : ZbY P f l xs H Post := by
 refine Zsv rs hf hb hname hn hr hx fun B => ?_
 obtain ⟨hl, hBB, hH0, hg⟩ := hB B
 have hG : RG ((C B).r γ) (C B).l (C B).outs [] (mkS (Zjn 0 ys) hs) ⟨args xs, clr l H⟩ := by
  refine ⟨fun j => ⟨fun _ => ?_, fun hn => absurd Zak hn⟩, fun k hk => ?_, fun d => ?_, fun i hi => ?_, fun k hk => .inr ⟨(hhs B k hk).1, (hhs B k hk).2.1⟩, fun k hk _ => ?_⟩
  ·have := Zo5 (r := (C B).r γ) ys 0 j
   rw [Yz, hxs] at this
   exact this.symm
  ·obtain ⟨h1, h2, h3⟩ := hhs B k hk
   show clr l H ((C B).κ k) = _
   obtain ⟨k1, k2⟩ := k
   simp only at h1 h2
   subst h1
   rw [Zoc (by rw [← hl]; exact (hC B).out _ h2)]
   exact h3
  ·show (clr l H ((C B).l + 1, d)).g = γ (1, d) + (lkH hs (1, d)).g
   rw [hl, Zzo, hγ, hh]
   rfl
  ·show (clr l H ((C B).κ (0, i))).g = γ (0, i) + (lkH hs (0, i)).g
   rw [Zoc (by rw [← hl]; exact (hC B).out _ hi)]
   grind
  ·show clr l H k = (C B).H0 k
   rw [hH0]
   exact Zoc (by rw [← hl]; exact hk)
 have := h B γ _ hg hG
 intro act w hR
 rw [hl, hBB] at this
 refine wp_mono (this act w hR) fun e a' w' ⟨σ', hq, hR'⟩ => ?_
 obtain ⟨σ'', h1, h2⟩ := ZAi (P := P) (hC B) hT (hp B) hq
 rw [hl, hH0] at h1
 have h3 := h2 act w
 refine ⟨σ'', h1, ?_⟩
 have h4 := h2 a' w'
 grind
end
end Go.Eng
namespace Go.Eng
set_option linter.all false
open Go Go.RowKit
def lkT : List (Nat × TI) → Nat → Option TI
 | [], _ => none
 | (i, x) :: r, j => match Nat.beq i j with | true => some x | false => lkT r j
theorem ZvR {P : Program} : ∀ (tl : List (Nat × TI)), (∀ p ∈ tl, TIok P p.1 p.2) → TOk P (lkT tl)
 | [], _, t, i, h => by simp [lkT] at h
 | (j, x) :: r, hp, t, i, h => by
  simp only [lkT] at h
  split at h
  ·rename_i he
   have he := Ya he
   cases h
   subst he
   exact hp _ (Yw ..)
  ·exact ZvR r (fun p hp' => hp p (Yq _ hp')) t i h
theorem TIok.of {P : Program} {t : TypeId} {i : TI} (h1 : Zjh P t = some i.agg) (h2 : Go.Eng.kin P t = i.kin) (h3 : P.cellsOf t = i.siz) (h4 : i.elm = none ∨ Go.Eng.elm P t = i.elm)
  (h5 : ((List.range i.fld.length).map fun j => (Go.Eng.fld P t j, ZD8 P t j)) = i.fld.map fun x => (some (x.1, x.2.1), some x)) (h6 : i.zer = none ∨ Go.Eng.zer P t = i.zer) (h7 : i.eqt = none ∨ eqT P t = i.eqt) (h8 : i.str = false ∨ ZBV P t = true)
  (h9 : i.ik = none ∨ P.underlying t = i.ik.map .int) (h10 : i.byt = none ∨ (∃ b, P.bytesOf t ≤ b ∧ P.bytesOf t ≠ 0 ∧ i.byt = some b)) (h11 : i.zer = none ∨ (i.zer.getD []).all AV.flat = true) (h12 : i.mp = none ∨ Zvt P t = i.mp := by first | exact .inl rfl | exact .inr (by kernel_rfl)) : TIok P t i where
 agg := h1
 kin := h2
 siz := h3
 elm := fun e h => by rcases h4 with h' | h' <;> rw [h] at h' <;> first | exact h' | cases h'
 fld := fun j x h => by
  have := congrArg (fun l => l[j]?) h5
  grind
 zer := fun e h => by rcases h6 with h' | h' <;> rw [h] at h' <;> first | exact h' | cases h'
 eqt := fun e h => by rcases h7 with h' | h' <;> rw [h] at h' <;> first | exact h' | cases h'
 str := fun h => by rcases h8 with h' | h' <;> first | exact h' | (rw [h] at h'; cases h')
 ik := fun e h => by rcases h9 with h' | h' <;> rw [h] at h' <;> first | exact h' | cases h'
 byt := fun e h => by
  grind
 mp := fun z h => by rcases h12 with h' | h' <;> rw [h] at h' <;> first | exact h' | cases h'
 flt := fun z h => by rcases h11 with h' | h' <;> rw [h] at h' <;> first | exact h' | cases h'
def cxP (l : Nat) (θ : Nat → AV) (H : Hp) (B : Base) : Cx := ⟨l, B, fun k => (l + 1, k.2), θ, H, 0, fun _ => False, [], fun _ => True⟩
theorem Zf2 (l : Nat) (B : Base) (θ : Nat → AV) (H : Hp) : CxOk (cxP l θ H B) := ⟨fun _ => rfl, fun i h => absurd h (Yah _), fun i j h => absurd h (Yah _), fun _ h => h.elim, fun _ _ _ h => h⟩
theorem Zum {l : Nat} {θ : Nat → AV} {H : Hp} {B : Base} {γ : Key → Nat} {bs : List Blk} {H' : Hp} (h : OutsOk (cxP l θ H B) γ bs H') : H' = H := funext fun k => h.o k id
end Go.Eng
