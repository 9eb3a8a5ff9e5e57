import Derived.Test.YthhipejbnbochaaCs09
import Derived.Test.YthhipejbnbochaaCs00
namespace Go.Eng
set_option linter.all false
open Go Go.RowKit
def KF (T : Nat → Option TI) (rs : List ResultVar) (os : Nat) (Post : AV → List Blk → Prop) : Exit → St → AT → Prop
 | .normal, τ, a => ZxD T rs os τ a Post
 | .ret, τ, a => ZxD T rs os τ a Post
 | _, _, _ => False
def KB (T : Nat → Option TI) (rs : List ResultVar) (os : Nat) (fx : List Nat) (r : Ren) (Post : AV → List Blk → Prop) (lf lx : Lf) (Q : Exit → St → Prop) : Exit → St → AT → Prop
 | .ret, τ, a => ZxD T rs os τ a Post
 | .normal, τ, a => ZcN r os a τ (fun τ _ => Zfy fx lf τ (Q .normal))
 | .exit i, τ, a => ZcN r os a τ (fun τ _ => Zfy fx lx τ (Q (.exit i)))
 | _, _, _ => False
section
variable {P : Program} {T : Nat → Option TI} {n : Nat} {C : Cx} {τ σ : St} {Q : Exit → St → Prop}
theorem Zes {l : Nat} {ds : List (Option Nat)} : ∀ (ops : List Oper) {K K' : St → Prop} {σ : St}, (∀ σ, K σ → K' σ) → Zif P l n ds ops K σ → Zif P l n ds ops K' σ
 | [], K, K', σ, hk, h => hk _ h
 | o :: rest, K, K', σ, hk, h => by
  unfold Zif at h ⊢
  split at h
  ·exact Zew (fun σ h => Zes rest hk h) h
  ·split at h
   ·refine ⟨fun e => Zew (fun σ h => Zes rest hk h) (h.1 e), fun e => ?_⟩
    have h2 := h.2 e
    split at h2
    ·exact ⟨h2.1, Zes rest hk h2.2⟩
    grind
   grind
theorem Zdd {γ : Key → Nat} {env : Env} (h : RG (C.r γ) C.l C.outs env τ σ) : ∃ σ', RG (C.r γ) C.l C.outs [] (Zkv env τ) σ' ∧ Wk n C σ σ' := by
 refine ⟨⟨fun j => ren (C.r γ) ((Zkv env τ).s j), σ.H⟩, ⟨fun j => ⟨fun _ => rfl, fun hn => absurd Zag hn⟩, h.h, h.g, h.go, h.k, h.o⟩, fun act w hR => ?_⟩
 obtain ⟨s, H⟩ := σ
 refine R.weaken hR fun j => ?_
 simp only [Zkv]
 split
 ·rename_i he
  left
  exact ((h.s j).1 (by rw [he]; exact Zag)).symm
 ·right; simp [ren]
def Zyy (n : Nat) (C : Cx) (γ : Key → Nat) (K : Exit → St → AT → Prop) (e : Exit) (σ : St) : Prop := ∃ τ a σ', K e τ a ∧ RG (C.r γ) C.l C.outs [] τ σ' ∧ Wk n C σ σ'
theorem Zg7 {r : Ren} {H H' : Hp} (hr : RenOk r C.l C.outs) (hH : Zhc r H H') {d : Nat} {s s' : Nat → AV} (hs : ∀ j, s' j = ren r (s j)) {A : Prop} : ∀ {js : List (Nat × List (List D))}, jsP H d s A js → A ∧ ∀ p ∈ js, ∃ off c, s' p.1 = .ref (C.l + 1, d) (H' (C.l + 1, d)).g off c ∧
  p.2.length = c ∧ (∀ e ∈ p.2, e.length = (H' (C.l + 1, d)).sz) ∧ (off + c) * (H' (C.l + 1, d)).sz ≤ (H' (C.l + 1, d)).cells.length ∧ ((H' (C.l + 1, d)).cells.drop (off * (H' (C.l + 1, d)).sz)).take (c * (H' (C.l + 1, d)).sz) = p.2.flatten.map .d
 | [], h => ⟨h, fun p hp => by cases hp⟩
 | (j, es) :: js, h => by
  simp only [jsP] at h
  split at h
  case h_2 => exact h.elim
  rename_i k q off c hj
  split at h
  case h_2 => exact h.elim
  rename_i hk hl
  have hk := ZaQ.1 hk
  subst hk
  obtain ⟨⟨f1, f2, f3, f4, f5⟩, h⟩ := h
  obtain ⟨h1, h2⟩ := Zg7 hr hH hs h
  obtain ⟨g1, g2, g3, g4, g5⟩ := hH.at hl
  rw [hr.own] at g1 g2 g3 g4 g5
  refine ⟨h1, fun p hp => ?_⟩
  rcases Yo.1 hp with rfl | hp
  ·refine ⟨off, c, by rw [hs, hj]; simp [ren, hr.own, g1], f1, by rw [g4]; exact f3, by rw [g4, g5, ZaC]; exact f4, ?_⟩
   rw [g4, g5, Za1, Za8, f5, ZfG]
  grind
theorem ZgX {r : Ren} {H H' : Hp} (hr : RenOk r C.l C.outs) (hH : Zhc r H H') {d : Nat} {A : Prop} : ∀ {cs : List (Key × Nat × List (List D))}, csP H d A cs → A ∧ ∀ p ∈ cs, p.1.1 = 1 ∧ p.1 ≠ (1, d) ∧ (H p.1).live = true ∧ ∃ off c, (H' (r.κ p.1)).cells[p.2.1]? = some (.ref (C.l + 1, d) (H' (C.l + 1, d)).g off c) ∧
  p.2.2.length = c ∧ (∀ e ∈ p.2.2, e.length = (H' (C.l + 1, d)).sz) ∧ (off + c) * (H' (C.l + 1, d)).sz ≤ (H' (C.l + 1, d)).cells.length ∧ ((H' (C.l + 1, d)).cells.drop (off * (H' (C.l + 1, d)).sz)).take (c * (H' (C.l + 1, d)).sz) = p.2.2.flatten.map .d
 | [], h => ⟨h, fun p hp => by cases hp⟩
 | (k, i, es) :: cs, h => by
  simp only [csP] at h
  split at h
  case h_2 => exact h.elim
  rename_i k' q off c ho hne hlv hc
  split at h
  case h_2 => exact h.elim
  rename_i hk hl
  have hk := ZaQ.1 hk
  subst hk
  obtain ⟨⟨f1, f2, f3, f4, f5⟩, h⟩ := h
  obtain ⟨h1, h2⟩ := ZgX hr hH h
  obtain ⟨g1, g2, g3, g4, g5⟩ := hH.at hl
  rw [hr.own] at g1 g2 g3 g4 g5
  refine ⟨h1, fun p hp => ?_⟩
  rcases Yo.1 hp with rfl | hp
  ·have hb := hH k hlv
   have hnk : k ≠ (1, d) := fun e => by rw [ZaQ.2 e] at hne; cases hne
   refine ⟨Ya ho, hnk, hlv, off, c, ?_, f1, by rw [g4]; exact f3, by rw [g4, g5, ZaC]; exact f4, ?_⟩
   ·rw [hb]
    simp only [ZaN, Zcz]
    rw [Za2] at hc
    rw [hc]
    simp [ren, hr.own, g1]
   ·rw [g4, g5, Za1, Za8, f5, ZfG]
  grind
theorem Zjq {r : Ren} : ∀ (js : List (Nat × List (List D))) {s s' : Nat → AV}, (∀ j, s' j = ren r (s j)) → ∀ j, Zqw js s' j = ren r (Zqw js s j)
 | [], s, s', h, j => h j
 | (i, es) :: js, s, s', h, j => Zjq js (s := upd s i (.d (.list es))) (s' := upd s' i (.d (.list es))) (fun q => by
   simp only [upd]
   by_cases hq : q = i
   ·rw [if_pos hq, if_pos hq]; simp [ren]
   ·rw [if_neg hq, if_neg hq]; exact h q) j
theorem Zgu {r : Ren} (xs : List AV) (i : Nat) (x : AV) : (Zan r xs).set i (ren r x) = Zan r (xs.set i x) := by rw [ZbK, ZbK, List.map_set]
theorem ZlI {γ : Key → Nat} (hC : CxOk C) : ∀ (cs : List (Key × Nat × List (List D))) {τ σ : St}, (∀ p ∈ cs, p.1.1 = 1 ∧ (τ.H p.1).live = true) → RG (C.r γ) C.l C.outs [] τ σ →
  RG (C.r γ) C.l C.outs [] ⟨τ.s, Zqc cs τ.H⟩ ⟨σ.s, Zqc (cs.map fun p => ((C.r γ).κ p.1, p.2)) σ.H⟩
 | [], τ, σ, _, h => h
 | (k, i, es) :: cs, τ, σ, hp, h => by
  obtain ⟨h1, h2⟩ := hp _ (Yu ..)
  have hb := h.h k h2
  have h8 := RG.updH (hC.ren γ) h k ⟨(τ.H k).g, true, (τ.H k).e, (τ.H k).sz, (τ.H k).cells.set i (.d (.list es))⟩ rfl (.inl h1)
  have e3 : ZaN (C.r γ) k ⟨(τ.H k).g, true, (τ.H k).e, (τ.H k).sz, (τ.H k).cells.set i (.d (.list es))⟩ = ⟨(σ.H ((C.r γ).κ k)).g, (σ.H ((C.r γ).κ k)).live, (σ.H ((C.r γ).κ k)).e, (σ.H ((C.r γ).κ k)).sz, (σ.H ((C.r γ).κ k)).cells.set i (.d (.list es))⟩ := by
   rw [hb]
   simp only [ZaN]
   rw [← Zgu]
   simp [ren]
  rw [e3] at h8
  have e4 : (⟨(τ.H k).g, true, (τ.H k).e, (τ.H k).sz, (τ.H k).cells.set i (.d (.list es))⟩ : Blk) = ⟨(τ.H k).g, (τ.H k).live, (τ.H k).e, (τ.H k).sz, (τ.H k).cells.set i (.d (.list es))⟩ := by rw [h2]
  rw [e4] at h8
  have := ZlI hC cs (fun p hq => by
   obtain ⟨q1, q2⟩ := hp p (List.mem_cons_of_mem _ hq)
   refine ⟨q1, ?_⟩
   show (updH τ.H k _ p.1).live = true
   unfold updH
   split
   ·exact h2
   ·exact q2) h8
  exact this
theorem ZeZ {r : Ren} {cs : List AV} (h : Zdm cs) : Zdm (Zan r cs) := fun x hx => by
 rw [ZbK] at hx
 obtain ⟨y, hy, rfl⟩ := Yr.1 hx
 have := h y hy
 cases y with
 | d d => simp [ren]
 | _ => cases this
theorem ZqU {H : Hp} {d : Nat} {s : Nat → AV} : ∀ {js : List Nat}, mpB H d s js = true → ∀ j ∈ js, ∃ g, s j = .mp (1, d) g ∧ Zbn H (1, d) g = true
 | [], _, j, hj => by cases hj
 | i :: r, h, j, hj => by
  simp only [mpB] at h
  split at h
  ·rename_i k g he
   simp only [Yc] at h
   have hk := ZaQ.1 h.1.1
   subst hk
   rcases Yo.1 hj with rfl | hj
   ·grind
   ·exact ZqU h.2 j hj
  ·cases h
theorem Zqv {H : Hp} {d : Nat} {s : Nat → AV} : ∀ {js : List Nat}, ptB H d s js = true → ∀ j ∈ js, ∃ g, s j = .ptr (1, d) g 0 ∧ Zbn H (1, d) g = true
 | [], _, j, hj => by cases hj
 | i :: r, h, j, hj => by
  simp only [ptB] at h
  split at h
  ·rename_i k g he
   simp only [Yc] at h
   have hk := ZaQ.1 h.1.1
   subst hk
   rcases Yo.1 hj with rfl | hj
   ·grind
   ·exact Zqv h.2 j hj
  ·cases h
theorem Zaq (hC : CxOk C) {γ : Key → Nat} : ∀ (a : AT) {τ σ : St} {K : St → AT → Prop}, ZcN (C.r γ) C.outs a τ K → RG (C.r γ) C.l C.outs [] τ σ → ∃ τ' a' σ', K τ' a' ∧ RG (C.r γ) C.l C.outs [] τ' σ' ∧ Wk n C σ σ'
 | .frz d js cs b, τ, σ, K, h, hG => by
  have hr := hC.ren γ
  have hs : ∀ j, σ.s j = ren (C.r γ) (τ.s j) := fun j => (hG.s j).1 Zag
  simp only [ZcN] at h
  split at h
  case h_2 => exact h.elim
  rename_i hl hz
  have hz := Yf hz
  obtain ⟨h, hjs⟩ := Zg7 hr hG.h hs h
  obtain ⟨h, hcs⟩ := ZgX hr hG.h h
  have hb := hG.h _ hl
  rw [hr.own] at hb
  have hlr : (σ.H (C.l + 1, d)).live = true := by rw [hb]; rfl
  have hszr : (σ.H (C.l + 1, d)).sz = (τ.H (1, d)).sz := by rw [hb]; rfl
  have hgr : (σ.H (C.l + 1, d)).g = (C.r γ).γ (1, d) + (τ.H (1, d)).g := by rw [hb]; rfl
  have h1 := RG.updK hr hG (1, d) ⟨(τ.H (1, d)).g, false, (τ.H (1, d)).e, (τ.H (1, d)).sz, (τ.H (1, d)).cells⟩ { σ.H (C.l + 1, d) with live := false } (fun e => by cases e) hgr (.inl rfl)
  rw [hr.own] at h1
  have h2 := ZlI hC cs (fun p hp => by
   obtain ⟨q1, q2, q3, _⟩ := hcs p hp
   refine ⟨q1, ?_⟩
   show (updH τ.H (1, d) _ p.1).live = true
   rw [Zab _ _ q2]
   exact q3) h1
  have h3 : RG (C.r γ) C.l C.outs [] ⟨Zqw js τ.s, Zqc cs (updH τ.H (1, d) ⟨(τ.H (1, d)).g, false, (τ.H (1, d)).e, (τ.H (1, d)).sz, (τ.H (1, d)).cells⟩)⟩
    ⟨Zqw js σ.s, Zqc (cs.map fun p => ((C.r γ).κ p.1, p.2)) (updH σ.H (C.l + 1, d) { σ.H (C.l + 1, d) with live := false })⟩ :=
   ⟨fun j => ⟨fun _ => Zjq js hs j, fun hn => absurd Zag hn⟩, h2.h, h2.g, h2.go, h2.k, h2.o⟩
  obtain ⟨τ', a', σ', k1, k2, k3⟩ := Zaq hC b h h3
  refine ⟨τ', a', σ', k1, k2, Wk.trans (fun act w hR => ?_) k3⟩
  obtain ⟨s, H⟩ := σ
  refine R.freeze hR (k := (C.l + 1, d)) (Yg _) hlr (by rw [hszr]; omega) js (cs.map fun p => ((C.r γ).κ p.1, p.2)) hjs (fun p hp => ?_)
  obtain ⟨pp, hpp, rfl⟩ := Yr.1 hp
  obtain ⟨q1, q2, q3, q4⟩ := hcs pp hpp
  obtain ⟨⟨p1, p2⟩, p3⟩ := pp
  simp only at q1 q2 q3 q4
  subst q1
  have hlv : (H ((C.r γ).κ (1, p2))).live = true := by have := hG.h _ q3; simp only at this; rw [this]; rfl
  exact ⟨by simp only; rw [hr.own]; intro e; simp at e; exact q2 (by rw [e]), by simp only; rw [hr.own]; exact Yg _, hlv, q4⟩
 | .adc k i d e sz b, τ, σ, K, h, hG => by
  have hr := hC.ren γ
  simp only [ZcN] at h
  split at h
  case h_2 => exact h.elim
  rename_i hk hne hlv hc
  have hk := Ya hk
  have hne : k ≠ (1, d) := fun e => by rw [ZaQ.2 e] at hne; cases hne
  obtain ⟨k1, k2⟩ := k
  simp only at hk
  subst hk
  have hb := hG.h _ hlv
  have h1 := RG.updH hr hG (1, d) ⟨(τ.H (1, d)).g + 1, true, e, sz, []⟩ rfl (.inl rfl)
  have h2 := RG.updH hr h1 (1, k2) ⟨(τ.H (1, k2)).g, true, (τ.H (1, k2)).e, (τ.H (1, k2)).sz, (τ.H (1, k2)).cells.set i (.ref (1, d) ((τ.H (1, d)).g + 1) 0 0)⟩ rfl (.inl rfl)
  have e1 : ZaN (C.r γ) (1, d) ⟨(τ.H (1, d)).g + 1, true, e, sz, []⟩ = ⟨(σ.H (C.l + 1, d)).g + 1, true, e, sz, []⟩ := by simp only [ZaN, hG.g, Zan, Yv]
  have e2 : ZaN (C.r γ) (1, k2) ⟨(τ.H (1, k2)).g, true, (τ.H (1, k2)).e, (τ.H (1, k2)).sz, (τ.H (1, k2)).cells.set i (.ref (1, d) ((τ.H (1, d)).g + 1) 0 0)⟩ =
    ⟨(σ.H (C.l + 1, k2)).g, (σ.H (C.l + 1, k2)).live, (σ.H (C.l + 1, k2)).e, (σ.H (C.l + 1, k2)).sz, (σ.H (C.l + 1, k2)).cells.set i (.ref (C.l + 1, d) ((σ.H (C.l + 1, d)).g + 1) 0 0)⟩ := by
   rw [hr.own] at hb
   rw [hb]
   simp only [ZaN]
   rw [← Zgu]
   simp [ren, hr.own, hG.g, Yv]
  rw [e1, e2, hr.own, hr.own] at h2
  obtain ⟨τ', a', σ', j1, j2, j3⟩ := Zaq hC b h h2
  refine ⟨τ', a', σ', j1, j2, Wk.trans (fun act w hR => ?_) j3⟩
  obtain ⟨s, H⟩ := σ
  rw [Za2] at hc
  exact R.adoptC hR (k := (C.l + 1, d)) (kp := (C.l + 1, k2)) rfl rfl (fun e => by simp at e; exact hne (by rw [e])) (by rw [hr.own] at hb; simp only at hb; rw [hb]; rfl) (by rw [hr.own] at hb; simp only at hb; rw [hb]; simp only [ZaN, Zcz, hc]; simp [ren])
 | .ads j d e sz b, τ, σ, K, h, hG => by
  have hr := hC.ren γ
  simp only [ZcN] at h
  split at h
  case h_2 => exact h.elim
  rename_i he
  have hsj : σ.s j = .e0 := by rw [(hG.s j).1 Zag, Zie he]; simp [ren]
  have h1 := RG.updH hr hG (1, d) ⟨(τ.H (1, d)).g + 1, true, e, sz, []⟩ rfl (.inl rfl)
  have e1 : ZaN (C.r γ) (1, d) ⟨(τ.H (1, d)).g + 1, true, e, sz, []⟩ = ⟨(σ.H (C.l + 1, d)).g + 1, true, e, sz, []⟩ := by simp only [ZaN, hG.g, Zan, Yv]
  rw [e1, hr.own] at h1
  have h3 : RG (C.r γ) C.l C.outs [] ⟨upd τ.s j (.ref (1, d) ((τ.H (1, d)).g + 1) 0 0), updH τ.H (1, d) ⟨(τ.H (1, d)).g + 1, true, e, sz, []⟩⟩ ⟨upd σ.s j (.ref (C.l + 1, d) ((σ.H (C.l + 1, d)).g + 1) 0 0), updH σ.H (C.l + 1, d) ⟨(σ.H (C.l + 1, d)).g + 1, true, e, sz, []⟩⟩ :=
   ⟨fun i => ⟨fun _ => by
    simp only [upd]
    by_cases hi : i = j
    ·rw [if_pos hi, if_pos hi]; simp [ren, hr.own, hG.g, Yv]
    ·rw [if_neg hi, if_neg hi]; exact (hG.s i).1 Zag, fun hn => absurd Zag hn⟩, h1.h, h1.g, h1.go, h1.k, h1.o⟩
  obtain ⟨τ', a', σ', k1, k2, k3⟩ := Zaq hC b h h3
  refine ⟨τ', a', σ', k1, k2, Wk.trans (fun act w hR => ?_) k3⟩
  obtain ⟨s, H⟩ := σ
  exact R.adopt (e := e) (sz := sz) hR (C.l + 1, d) rfl _ (Y0 _) hsj
 | .trim k c b, τ, σ, K, h, hG => by
  have hr := hC.ren γ
  simp only [ZcN] at h
  split at h
  case h_2 => exact h.elim
  rename_i hl
  obtain ⟨⟨m, hm⟩, h⟩ := h
  have hb := hG.h k hl
  have hko : ZcN (C.r γ) C.outs b ⟨τ.s, updH τ.H k ⟨(τ.H k).g, true, (τ.H k).e, (τ.H k).sz, c⟩⟩ K ∧ Zrz (C.r γ) C.outs k := by
   unfold trK at h
   split at h
   ·rename_i hk; exact ⟨h, .inl (Ya hk)⟩
   ·rcases hG.k k hl with h5 | ⟨_, h5⟩
    ·have := h.1.1; omega
    ·exact ⟨h.2, .inr ⟨h.1.1, h5, h.1.2⟩⟩
  obtain ⟨h, hko⟩ := hko
  have h1 := RG.updH hr hG k ⟨(τ.H k).g, true, (τ.H k).e, (τ.H k).sz, c⟩ rfl hko
  have e1 : ZaN (C.r γ) k ⟨(τ.H k).g, true, (τ.H k).e, (τ.H k).sz, c⟩ = ⟨(σ.H ((C.r γ).κ k)).g, (σ.H ((C.r γ).κ k)).live, (σ.H ((C.r γ).κ k)).e, (σ.H ((C.r γ).κ k)).sz, (σ.H ((C.r γ).κ k)).cells.take m⟩ := by
   rw [hb]
   simp only [ZaN, Za8, hm]
  rw [e1] at h1
  obtain ⟨τ', a', σ', k1, k2, k3⟩ := Zaq hC b h h1
  refine ⟨τ', a', σ', k1, k2, Wk.trans (fun act w hR => ?_) k3⟩
  obtain ⟨s, H⟩ := σ
  have hle : ((C.r γ).κ k).1 ≤ C.l + 1 := by
   obtain ⟨k1, k2⟩ := k
   have := hko.lk
   simp only at this
   rcases this with rfl | ⟨rfl, h2⟩
   ·rw [hr.own]; exact Yg _
   ·exact Nat.le_succ_of_le (hr.out k2 h2)
  exact R.trim hR hle (by have hb' := hb; simp only at hb'; rw [hb']; rfl) m
 | .reb j d m c b, τ, σ, K, h, hG => by
  have hr := hC.ren γ
  simp only [ZcN] at h
  split at h
  case h_2 => exact h.elim
  rename_i k q off n hsj
  split at h
  case h_2 => exact h.elim
  rename_i hkd hq
  have hk : k = (1, d) := ZaQ.1 hkd
  subst hk
  obtain ⟨hq1, hl⟩ := ZaX hq
  subst hq1
  obtain ⟨⟨hnm, hlen, hc⟩, h⟩ := h
  subst hc
  subst hnm
  have hb := hG.h (1, d) hl
  rw [hr.own] at hb
  have hlr : (σ.H (C.l + 1, d)).live = true := by rw [hb]; rfl
  have hszr : (σ.H (C.l + 1, d)).sz = (τ.H (1, d)).sz := by rw [hb]; rfl
  have hgr : (σ.H (C.l + 1, d)).g = (C.r γ).γ (1, d) + (τ.H (1, d)).g := by rw [hb]; rfl
  have hcr : (σ.H (C.l + 1, d)).cells = Zan (C.r γ) (τ.H (1, d)).cells := by rw [hb]; rfl
  have her : (σ.H (C.l + 1, d)).e = (τ.H (1, d)).e := by rw [hb]; rfl
  have hs : σ.s j = .ref (C.l + 1, d) (σ.H (C.l + 1, d)).g off n := by rw [(hG.s j).1 Zag, hsj]; simp only [ren]; rw [hr.own, hgr]
  have h1 := RG.updH hr hG (1, d) ⟨(τ.H (1, d)).g + 1, true, .t (τ.H (1, d)).e.ty, (τ.H (1, d)).sz, (τ.H (1, d)).cells.drop (off * (τ.H (1, d)).sz)⟩ rfl (.inl rfl)
  have e1 : ZaN (C.r γ) (1, d) ⟨(τ.H (1, d)).g + 1, true, .t (τ.H (1, d)).e.ty, (τ.H (1, d)).sz, (τ.H (1, d)).cells.drop (off * (τ.H (1, d)).sz)⟩ = ⟨(σ.H (C.l + 1, d)).g + 1, true, .t (σ.H (C.l + 1, d)).e.ty, (σ.H (C.l + 1, d)).sz, (σ.H (C.l + 1, d)).cells.drop (off * (σ.H (C.l + 1, d)).sz)⟩ := by
   simp only [ZaN, hgr, her, hszr, hcr, Za1, Yv]
  rw [e1, hr.own] at h1
  have h3 : RG (C.r γ) C.l C.outs [] ⟨upd τ.s j (.ref (1, d) ((τ.H (1, d)).g + 1) 0 n), updH τ.H (1, d) ⟨(τ.H (1, d)).g + 1, true, .t (τ.H (1, d)).e.ty, (τ.H (1, d)).sz, (τ.H (1, d)).cells.drop (off * (τ.H (1, d)).sz)⟩⟩
    ⟨upd σ.s j (.ref (C.l + 1, d) ((σ.H (C.l + 1, d)).g + 1) 0 n), updH σ.H (C.l + 1, d) ⟨(σ.H (C.l + 1, d)).g + 1, true, .t (σ.H (C.l + 1, d)).e.ty, (σ.H (C.l + 1, d)).sz, (σ.H (C.l + 1, d)).cells.drop (off * (σ.H (C.l + 1, d)).sz)⟩⟩ :=
   ⟨fun i => ⟨fun _ => by
    simp only [upd]
    by_cases hi : i = j
    ·rw [if_pos hi, if_pos hi]; simp only [ren]; rw [hr.own, hgr, Yv]
    ·rw [if_neg hi, if_neg hi]; exact (hG.s i).1 Zag, fun hn => absurd Zag hn⟩, h1.h, h1.g, h1.go, h1.k, h1.o⟩
  obtain ⟨τ', a', σ', k1, k2, k3⟩ := Zaq hC b h h3
  refine ⟨τ', a', σ', k1, k2, Wk.trans (fun act w hR => ?_) k3⟩
  obtain ⟨s, H⟩ := σ
  exact R.rebase hR (Yg _) hlr hs (by rw [hszr, hcr, ZaC]; exact hlen)
 | .mv d j b, τ, σ, K, h, hG => by
  have hr := hC.ren γ
  have hs : ∀ j, σ.s j = ren (C.r γ) (τ.s j) := fun j => (hG.s j).1 Zag
  simp only [ZcN] at h
  split at h
  case h_2 => exact h.elim
  rename_i hl
  obtain ⟨hf, ⟨hj, hno⟩, h⟩ := h
  have hb := hG.h _ hl
  have hbj := hG.go j hj
  rw [hr.own] at hb
  have hlr : (σ.H (C.l + 1, d)).live = true := by rw [hb]; rfl
  have hgr : (σ.H (C.l + 1, d)).g = (C.r γ).γ (1, d) + (τ.H (1, d)).g := by rw [hb]; rfl
  have h1 := RG.updK hr hG (1, d) ⟨(τ.H (1, d)).g, false, (τ.H (1, d)).e, (τ.H (1, d)).sz, (τ.H (1, d)).cells⟩ { σ.H (C.l + 1, d) with live := false } (fun e => by cases e) hgr (.inl rfl)
  rw [hr.own] at h1
  have h2 := RG.updH hr h1 (0, j) ⟨(τ.H (0, j)).g + 1, true, (τ.H (1, d)).e, (τ.H (1, d)).sz, (τ.H (1, d)).cells⟩ rfl (.inr ⟨rfl, hj, hno⟩)
  have e2 : ZaN (C.r γ) (0, j) ⟨(τ.H (0, j)).g + 1, true, (τ.H (1, d)).e, (τ.H (1, d)).sz, (τ.H (1, d)).cells⟩ = { σ.H (C.l + 1, d) with g := (σ.H ((C.r γ).κ (0, j))).g + 1 } := by
   rw [hb]
   simp only [ZaN, hbj, Yv]
  rw [e2] at h2
  have h3 : RG (C.r γ) C.l C.outs [] ⟨fun i => mvA (1, d) (0, j) (τ.H (1, d)).g ((τ.H (0, j)).g + 1) (τ.s i), updH (updH τ.H (1, d) ⟨(τ.H (1, d)).g, false, (τ.H (1, d)).e, (τ.H (1, d)).sz, (τ.H (1, d)).cells⟩) (0, j) ⟨(τ.H (0, j)).g + 1, true, (τ.H (1, d)).e, (τ.H (1, d)).sz, (τ.H (1, d)).cells⟩⟩
    ⟨fun i => ren (C.r γ) (mvA (1, d) (0, j) (τ.H (1, d)).g ((τ.H (0, j)).g + 1) (τ.s i)), updH (updH σ.H (C.l + 1, d) { σ.H (C.l + 1, d) with live := false }) ((C.r γ).κ (0, j)) { σ.H (C.l + 1, d) with g := (σ.H ((C.r γ).κ (0, j))).g + 1 }⟩ :=
   ⟨fun i => ⟨fun _ => rfl, fun hn => absurd Zag hn⟩, h2.h, h2.g, h2.go, h2.k, h2.o⟩
  obtain ⟨τ', a', σ', k1, k2, k3⟩ := Zaq hC b h h3
  refine ⟨τ', a', σ', k1, k2, Wk.trans (fun act w hR => ?_) k3⟩
  obtain ⟨s, H⟩ := σ
  refine R.handout hR (k := (C.l + 1, d)) rfl (hr.out j hj) hlr (by have hb' := hb; simp only at hb'; rw [hb']; exact ZeZ hf) (fun i => ?_)
  have hsi := hs i
  simp only at hsi
  cases hx : τ.s i with
  | ref q g off c =>
   rw [hx] at hsi
   rw [Zn7]
   split
   ·rename_i hc
    obtain ⟨rfl, rfl⟩ := hc
    refine .inr (.inl ⟨off, c, ?_, ?_⟩)
    ·rw [hsi]; simp only [ren]; rw [hr.own]; simp only at hgr; rw [hgr]
    ·simp only [ren]; simp only at hbj; rw [hbj, Yv]
   ·left; rw [hsi]
  | mp q g =>
   rw [hx] at hsi
   rw [ZqL]
   split
   ·rename_i hc
    obtain ⟨rfl, rfl⟩ := hc
    refine .inr (.inr ⟨?_, ?_⟩)
    ·rw [hsi]; simp only [ren]; rw [hr.own]; simp only at hgr; rw [hgr]
    ·simp only [ren]; simp only at hbj; rw [hbj, Yv]
   ·left; rw [hsi]
  | _ => left; rw [hsi, hx]; rfl
 | .rnm d d' e i b, τ, σ, K, h, hG => by
  have hr := hC.ren γ
  have hs : ∀ j, σ.s j = ren (C.r γ) (τ.s j) := fun j => (hG.s j).1 Zag
  simp only [ZcN] at h
  split at h
  case h_2 => exact h.elim
  rename_i k g off c hl hdd hed hed' hle hc
  split at h
  case h_2 => exact h.elim
  rename_i hk hg
  obtain ⟨hf, h⟩ := h
  have hk := ZaQ.1 hk
  subst hk
  have hg := Ya hg
  subst hg
  have hdd : d ≠ d' := fun q => by subst q; simp at hdd
  have hed : e ≠ d := fun q => by subst q; simp at hed
  have hed' : e ≠ d' := fun q => by subst q; simp at hed'
  have hb := hG.h _ hl
  have hbe := hG.h _ hle
  rw [hr.own] at hb hbe
  have hlr : (σ.H (C.l + 1, d)).live = true := by rw [hb]; rfl
  have hler : (σ.H (C.l + 1, e)).live = true := by rw [hbe]; rfl
  have hgr : (σ.H (C.l + 1, d)).g = (C.r γ).γ (1, d) + (τ.H (1, d)).g := by rw [hb]; rfl
  have hgd := hG.g d'
  have h1 := RG.updK hr hG (1, d) ⟨(τ.H (1, d)).g, false, (τ.H (1, d)).e, (τ.H (1, d)).sz, (τ.H (1, d)).cells⟩ { σ.H (C.l + 1, d) with live := false } (fun e => by cases e) hgr (.inl rfl)
  rw [hr.own] at h1
  have h2 := RG.updH hr h1 (1, d') ⟨(τ.H (1, d')).g + 1, true, (τ.H (1, d)).e, (τ.H (1, d)).sz, (τ.H (1, d)).cells⟩ rfl (.inl rfl)
  have e2 : ZaN (C.r γ) (1, d') ⟨(τ.H (1, d')).g + 1, true, (τ.H (1, d)).e, (τ.H (1, d)).sz, (τ.H (1, d)).cells⟩ = { σ.H (C.l + 1, d) with g := (σ.H (C.l + 1, d')).g + 1 } := by
   rw [hb]
   simp only [ZaN, hgd, Yv]
  rw [e2, hr.own] at h2
  have h4 := RG.updH hr h2 (1, e) ⟨(τ.H (1, e)).g, true, (τ.H (1, e)).e, (τ.H (1, e)).sz, (τ.H (1, e)).cells.set i (.ref (1, d') ((τ.H (1, d')).g + 1) off c)⟩ rfl (.inl rfl)
  have e4 : ZaN (C.r γ) (1, e) ⟨(τ.H (1, e)).g, true, (τ.H (1, e)).e, (τ.H (1, e)).sz, (τ.H (1, e)).cells.set i (.ref (1, d') ((τ.H (1, d')).g + 1) off c)⟩ =
    ⟨(σ.H (C.l + 1, e)).g, true, (σ.H (C.l + 1, e)).e, (σ.H (C.l + 1, e)).sz, (σ.H (C.l + 1, e)).cells.set i (.ref (C.l + 1, d') ((σ.H (C.l + 1, d')).g + 1) off c)⟩ := by
   rw [hbe]
   simp only [ZaN]
   rw [← Zgu]
   simp [ren, hr.own, hgd, Yv]
  rw [e4, hr.own] at h4
  have h3 : RG (C.r γ) C.l C.outs [] ⟨fun j => mvA (1, d) (1, d') (τ.H (1, d)).g ((τ.H (1, d')).g + 1) (τ.s j), _⟩
    ⟨fun j => ren (C.r γ) (mvA (1, d) (1, d') (τ.H (1, d)).g ((τ.H (1, d')).g + 1) (τ.s j)), _⟩ :=
   ⟨fun i => ⟨fun _ => rfl, fun hn => absurd Zag hn⟩, h4.h, h4.g, h4.go, h4.k, h4.o⟩
  obtain ⟨τ', a', σ', k1, k2, k3⟩ := Zaq hC b h h3
  refine ⟨τ', a', σ', k1, k2, Wk.trans (fun act w hR => ?_) k3⟩
  obtain ⟨s, H⟩ := σ
  rw [Za2] at hc
  refine R.rename hR (k := (C.l + 1, d)) (k' := (C.l + 1, d')) (q := (C.l + 1, e)) rfl rfl rfl (fun q => hdd (by simpa using q)) (fun q => hed (by simpa using q)) (fun q => hed' (by simpa using q)) hlr hler (by have hb' := hb; simp only at hb'; rw [hb']; exact ZeZ hf)
   (by simp only at hbe hgr; rw [hbe]; simp only [ZaN, Zcz, hc]; simp [ren, hr.own, hgr]) (fun i => ?_)
  have hsi := hs i
  simp only at hsi
  cases hx : τ.s i with
  | ref q g off c =>
   rw [hx] at hsi
   rw [Zn7]
   split
   ·rename_i hc
    obtain ⟨rfl, rfl⟩ := hc
    refine .inr (.inl ⟨off, c, ?_, ?_⟩)
    ·rw [hsi]; simp only [ren]; rw [hr.own]; simp only at hgr; rw [hgr]
    ·simp only [ren]; rw [hr.own]; simp only at hgd; rw [hgd, Yv]
   ·left; rw [hsi]
  | mp q g =>
   rw [hx] at hsi
   rw [ZqL]
   split
   ·rename_i hc
    obtain ⟨rfl, rfl⟩ := hc
    refine .inr (.inr ⟨?_, ?_⟩)
    ·rw [hsi]; simp only [ren]; rw [hr.own]; simp only at hgr; rw [hgr]
    ·simp only [ren]; rw [hr.own]; simp only at hgd; rw [hgd, Yv]
   ·left; rw [hsi]
  | _ => left; rw [hsi, hx]; rfl
 | .fzm d js b, τ, σ, K, h, hG => by
  have hr := hC.ren γ
  have hs : ∀ j, σ.s j = ren (C.r γ) (τ.s j) := fun j => (hG.s j).1 Zag
  simp only [ZcN] at h
  split at h
  case h_2 => exact h.elim
  rename_i q es hl he hm
  have hjs := ZqU hm
  have hb := hG.h _ hl
  rw [hr.own] at hb
  have hlr : (σ.H (C.l + 1, d)).live = true := by rw [hb]; rfl
  have her : (σ.H (C.l + 1, d)).e = .m q es := by rw [hb]; exact he
  have hgr : (σ.H (C.l + 1, d)).g = (C.r γ).γ (1, d) + (τ.H (1, d)).g := by rw [hb]; rfl
  have h1 := RG.updK hr hG (1, d) ⟨(τ.H (1, d)).g, false, (τ.H (1, d)).e, (τ.H (1, d)).sz, (τ.H (1, d)).cells⟩ { σ.H (C.l + 1, d) with live := false } (fun e => by cases e) hgr (.inl rfl)
  rw [hr.own] at h1
  have h3 : RG (C.r γ) C.l C.outs [] ⟨Zja (.d (.map q es)) js τ.s, updH τ.H (1, d) ⟨(τ.H (1, d)).g, false, (τ.H (1, d)).e, (τ.H (1, d)).sz, (τ.H (1, d)).cells⟩⟩ ⟨Zja (.d (.map q es)) js σ.s, updH σ.H (C.l + 1, d) { σ.H (C.l + 1, d) with live := false }⟩ :=
   ⟨fun j => ⟨fun _ => by
    simp only [Ze1]
    by_cases hj : j ∈ js
    ·rw [if_pos hj, if_pos hj]; simp [ren]
    ·rw [if_neg hj, if_neg hj]; exact hs j, fun hn => absurd Zag hn⟩, h1.h, h1.g, h1.go, h1.k, h1.o⟩
  obtain ⟨τ', a', σ', k1, k2, k3⟩ := Zaq hC b h h3
  refine ⟨τ', a', σ', k1, k2, Wk.trans (fun act w hR => ?_) k3⟩
  obtain ⟨s, H⟩ := σ
  refine R.freezeM hR (k := (C.l + 1, d)) (Yg _) hlr her js (fun j hj => ?_)
  obtain ⟨g, g1, g2⟩ := hjs j hj
  have := hs j
  simp only at this hgr
  rw [this, g1]
  simp only [ren]
  rw [hr.own, hgr, (ZaX g2).1]
 | .fzb d js b, τ, σ, K, h, hG => by
  have hr := hC.ren γ
  have hs : ∀ j, σ.s j = ren (C.r γ) (τ.s j) := fun j => (hG.s j).1 Zag
  simp only [ZcN] at h
  split at h
  case h_2 => exact h.elim
  rename_i x ds hl he hm
  have hjs := Zqv hm
  have hb := hG.h _ hl
  rw [hr.own] at hb
  have hlr : (σ.H (C.l + 1, d)).live = true := by rw [hb]; rfl
  have her : (σ.H (C.l + 1, d)).cells = (x :: ds).map .d := by rw [hb]; show Zan _ _ = _; rw [Znv he, ZfG]
  have hgr : (σ.H (C.l + 1, d)).g = (C.r γ).γ (1, d) + (τ.H (1, d)).g := by rw [hb]; rfl
  have h1 := RG.updK hr hG (1, d) ⟨(τ.H (1, d)).g, false, (τ.H (1, d)).e, (τ.H (1, d)).sz, (τ.H (1, d)).cells⟩ { σ.H (C.l + 1, d) with live := false } (fun e => by cases e) hgr (.inl rfl)
  rw [hr.own] at h1
  have h3 : RG (C.r γ) C.l C.outs [] ⟨Zja (.iptr (x :: ds) 0) js τ.s, updH τ.H (1, d) ⟨(τ.H (1, d)).g, false, (τ.H (1, d)).e, (τ.H (1, d)).sz, (τ.H (1, d)).cells⟩⟩ ⟨Zja (.iptr (x :: ds) 0) js σ.s, updH σ.H (C.l + 1, d) { σ.H (C.l + 1, d) with live := false }⟩ :=
   ⟨fun j => ⟨fun _ => by
    simp only [Ze1]
    by_cases hj : j ∈ js
    ·rw [if_pos hj, if_pos hj]; simp [ren]
    ·rw [if_neg hj, if_neg hj]; exact hs j, fun hn => absurd Zag hn⟩, h1.h, h1.g, h1.go, h1.k, h1.o⟩
  obtain ⟨τ', a', σ', k1, k2, k3⟩ := Zaq hC b h h3
  refine ⟨τ', a', σ', k1, k2, Wk.trans (fun act w hR => ?_) k3⟩
  obtain ⟨s, H⟩ := σ
  refine R.freezeB hR (k := (C.l + 1, d)) (Yg _) hlr her (by simp) js (fun j hj => ?_)
  obtain ⟨g, g1, g2⟩ := hjs j hj
  have := hs j
  simp only at this hgr
  rw [this, g1]
  simp only [ren]
  rw [hr.own, hgr, (ZaX g2).1]
 | .ents _ _, τ, σ, K, h, hG => ⟨τ, _, σ, h, hG, Wk.refl σ⟩
 | .all _ _, τ, σ, K, h, hG => ⟨τ, _, σ, h, hG, Wk.refl σ⟩
 | .nil, τ, σ, K, h, hG => ⟨τ, _, σ, h, hG, Wk.refl σ⟩
 | .sep _, τ, σ, K, h, hG => ⟨τ, _, σ, h, hG, Wk.refl σ⟩
 | .go _, τ, σ, K, h, hG => ⟨τ, _, σ, h, hG, Wk.refl σ⟩
 | .av _ _, τ, σ, K, h, hG => ⟨τ, _, σ, h, hG, Wk.refl σ⟩
 | .cs _ _, τ, σ, K, h, hG => ⟨τ, _, σ, h, hG, Wk.refl σ⟩
 | .ds _ _, τ, σ, K, h, hG => ⟨τ, _, σ, h, hG, Wk.refl σ⟩
 | .num _ _, τ, σ, K, h, hG => ⟨τ, _, σ, h, hG, Wk.refl σ⟩
 | .nat _ _, τ, σ, K, h, hG => ⟨τ, _, σ, h, hG, Wk.refl σ⟩
 | .call _ _ _, τ, σ, K, h, hG => ⟨τ, _, σ, h, hG, Wk.refl σ⟩
 | .callH _ _ _ _, τ, σ, K, h, hG => ⟨τ, _, σ, h, hG, Wk.refl σ⟩
 | .br _ _, τ, σ, K, h, hG => ⟨τ, _, σ, h, hG, Wk.refl σ⟩
 | .hard _ _ _ _ _, τ, σ, K, h, hG => ⟨τ, _, σ, h, hG, Wk.refl σ⟩
theorem Za4 (hC : CxOk C) (hT : TOk P T) (hm : P.follows .mixedOrders = true) {γ : Key → Nat} : ∀ (c : Code) (a : AT) (τ σ : St) (K : Exit → St → AT → Prop), ZcB P T C.l n C.outs (C.r γ) c a τ K → RG (C.r γ) C.l C.outs [] τ σ →
  AWp P C.l n C.B c (Zyy n C γ K) σ
 | .skip, a, τ, σ, K, h, hG => Zpg ⟨τ, a, σ, h, hG, Wk.refl σ⟩
 | .ret, a, τ, σ, K, h, hG => by
  obtain ⟨τ', a', σ', h1, h2, h3⟩ := Zaq (n := n) hC a h hG
  exact AWp.weak (ZrM ⟨τ', a', σ', h1, h2, Wk.refl σ'⟩) h3
 | .exit id, a, τ, σ, K, h, hG => ZpM ⟨τ, a, σ, h, hG, Wk.refl σ⟩
 | .seq x y, a, τ, σ, K, h, hG => by
  have ih := Za4 hC hT hm x a τ σ _ h hG
  refine Zga (ZbN ih fun e σ' hi => ?_)
  obtain ⟨τ', a', σ'', h1, h2, h3⟩ := hi
  cases e with
  | normal => exact AWp.weak (Za4 hC hT hm y a' τ' σ'' _ h1 h2) h3
  | _ => exact ⟨τ', a', σ'', h1, h2, h3⟩
 | .block id c, a, τ, σ, K, h, hG => by
  have ih := Za4 hC hT hm c a τ σ _ h hG
  refine Zg3 (ZbN ih fun e σ' hi => ?_)
  obtain ⟨τ', a', σ'', h1, h2, h3⟩ := hi
  cases e with
  | exit i =>
   unfold ZjH
   simp only at h1 ⊢
   split at h1
   ·rename_i he; rw [if_pos (Ya he)]; exact ⟨τ', a', σ'', h1, h2, h3⟩
   ·rename_i he; rw [if_neg (by rintro rfl; simp at he)]; exact ⟨τ', a', σ'', h1, h2, h3⟩
  | _ => exact ⟨τ', a', σ'', h1, h2, h3⟩
 | .cond c x y, a, τ, σ, K, h, hG => by
  have he : ∀ {b}, ev τ.s c = .d (.bool b) → ev σ.s c = .d (.bool b) := fun {b} hc => by rw [ZeQ (c := []) hG Zag (by cases c <;> rfl), hc]; simp [ren]
  unfold ZcB at h
  split at h
  ·rename_i b a1 a2 hc
   exact Zgn (he hc) (fun e => Za4 hC hT hm x a1 τ σ K (h.1 e) hG) (fun e => Za4 hC hT hm y a2 τ σ K (h.2 e) hG)
  ·rename_i b a' hc
   refine Zgn (he hc) (fun e => ?_) (fun e => ?_)
   ·subst e; exact Za4 hC hT hm x a' τ σ K h hG
   ·subst e; exact Za4 hC hT hm y a' τ σ K h hG
  ·exact h.elim
 | .region id ops draw, a, τ, σ, K, h, hG => by
  obtain ⟨opl, rfl⟩ : ∃ l : List Oper, ops = l.toArray := ⟨ops.toList, by simp⟩
  have fin : ∀ τ' env' a' σ', K .normal (Zkv env' τ') a' → RG (C.r γ) C.l C.outs env' τ' σ' → Zyy n C γ K .normal σ' := fun τ' env' a' σ' h1 h2 => by
   obtain ⟨σ'', h3, h4⟩ := Zdd (n := n) h2
   exact ⟨_, a', σ'', h1, h3, h4⟩
  unfold ZcB at h
  split at h
  ·obtain ⟨τ₁, a₁, σ₁, h, hG, hw⟩ := Zaq (n := n) hC a h hG
   refine AWp.weak ?_ hw
   intro act w hR
   have := Zcs (hC.ren γ) hT (ops := opl.toArray) (B := C.B) (K := fun τ' env a' => K .normal (Zkv env τ') a') (QQ := fun e a' w' => ∃ σ', Zyy n C γ K e σ' ∧ R C.l n C.B σ' a' w') [] (fun τ' env' a' σ' act' w' h1 h2 h3 => by
    unfold wpList
    exact ⟨σ', fin _ _ _ _ h1 h2, h3⟩) opl [] a₁ τ₁ σ₁ act w (by simpa using h) hG hR
   rw [YaL] at this
   exact wp_region_lit this
  ·split at h
   case h_2 => exact h.elim
   rename_i hb
   simp only [Yc] at hb
   obtain ⟨τ₁, a₁, σ₁, h, hG, hw⟩ := Zaq (n := n) hC a h hG
   refine AWp.weak ?_ hw
   refine ZkL hm (ZjY (by simpa using hb.1.1)) (by simpa using hb.1.2) (by simpa using hb.2) (Zes opl (fun σ' hq => ?_) (ZdG (hC.ren γ) (l := C.l) (r := C.r γ) (outs := C.outs) (K := fun τ' env a' => K .normal (Zkv env τ') a') hT opl [] a₁ τ₁ σ₁ (by simpa using hb.1.2) (by simpa using h) hG))
   obtain ⟨τ', env', a', h1, h2⟩ := hq
   exact fin _ _ _ _ h1 h2
 | .loop _, a, τ, σ, K, h, hG => h.elim
 | .rangeFunc _ _ _ _, a, τ, σ, K, h, hG => h.elim
 | .scope _, a, τ, σ, K, h, hG => h.elim
 | .label _, a, τ, σ, K, h, hG => h.elim
 | .goto _, a, τ, σ, K, h, hG => h.elim
 | .refuse _, a, τ, σ, K, h, hG => h.elim
theorem Zvr (hC : CxOk C) (hT : TOk P T) (hm : P.follows .mixedOrders = true) {c : Code} {a : AT} (K : (Key → Nat) → Exit → St → AT → Prop) (h : ∀ γ, ZcB P T C.l n C.outs (C.r γ) c a τ (K γ))
  (hk : ∀ γ e τ' a' σ', C.G γ → K γ e τ' a' → RG (C.r γ) C.l C.outs [] τ' σ' → Is n C (Q e) σ') : LW P n C c τ Q := by
 intro γ σ hg hG
 refine ZbN (Za4 hC hT hm c a τ σ (K γ) (h γ) hG) fun e σ' hi => ?_
 obtain ⟨τ', a', σ'', h1, h2, h3⟩ := hi
 obtain ⟨γ', τ₂, σ₂, k0, k1, k2, k3⟩ := hk γ e τ' a' σ'' hg h1 h2
 exact ⟨γ', τ₂, σ₂, k0, k1, k2, h3.trans k3⟩
theorem Zwo (hC : CxOk C) (hT : TOk P T) (hm : P.follows .mixedOrders = true) {c : Code} (a : AT) {rs : List ResultVar} {Post : AV → List Blk → Prop} (h : ∀ γ, ZcB P T C.l n C.outs (C.r γ) c a τ (KF T rs C.outs Post)) : LW P n C c τ (FQ T rs C.outs Post) :=
 Zvr hC hT hm (fun _ => KF T rs C.outs Post) h fun γ e τ' a' σ' hg hk hG => .of hg hG (by
  cases e <;> simp only [KF] at hk
  ·exact ⟨.inl rfl, a', hk⟩
  ·exact ⟨.inr rfl, a', hk⟩)
theorem ZuS (hC : CxOk C) (hT : TOk P T) (hm : P.follows .mixedOrders = true) {c : Code} (a : AT) (lf lx : Lf) {rs : List ResultVar} {Post : AV → List Blk → Prop} (hQ : ∀ τ, FQ T rs C.outs Post .ret τ → Q .ret τ) (h : ∀ γ, ZcB P T C.l n C.outs (C.r γ) c a τ (KB T rs C.outs C.fx (C.r γ) Post lf lx Q)) : LW P n C c τ Q :=
 Zvr hC hT hm (fun γ => KB T rs C.outs C.fx (C.r γ) Post lf lx Q) h fun γ e τ' a' σ' hg hk hG => by
  cases e <;> simp only [KB] at hk
  ·obtain ⟨τ₁, a₁, σ₁, k1, k2, k3⟩ := Zaq (n := n) hC a' hk hG
   obtain ⟨γ', τ₂, σ₂, j0, j1, j2, j3⟩ := Zbu (n := n) hC k1 hg k2
   exact ⟨γ', τ₂, σ₂, j0, j1, j2, k3.trans j3⟩
  ·obtain ⟨τ₁, a₁, σ₁, k1, k2, k3⟩ := Zaq (n := n) hC a' hk hG
   obtain ⟨γ', τ₂, σ₂, j0, j1, j2, j3⟩ := Zbu (n := n) hC k1 hg k2
   exact ⟨γ', τ₂, σ₂, j0, j1, j2, k3.trans j3⟩
  ·exact .of hg hG (hQ _ ⟨.inr rfl, a', hk⟩)
theorem Zm6 {sz : Nat} : ∀ {es : List (List D)} {i j : Nat} {e : List D} {d : D}, (∀ e ∈ es, e.length = sz) → es[i]? = some e → e[j]? = some d → es.flatten[i * sz + j]? = some d
 | [], i, j, e, d, h, hi, hj => by simp at hi
 | f :: es, 0, j, e, d, h, hi, hj => by
  grind
 | f :: es, i + 1, j, e, d, h, hi, hj => by
  have hf := h f (Yu ..)
  rw [Yav, Yp (by rw [hf, YE]; omega), hf, show (i + 1) * sz + j - sz = i * sz + j from by rw [YE]; omega]
  exact Zm6 (fun e he => h e (List.mem_cons_of_mem _ he)) (by simpa using hi) hj
mutual
theorem ZmI (hC : CxOk C) {γ : Key → Nat} {H H' : Hp} (hH : Zhc (C.r γ) H H') (hk : ∀ k, (H k).live = true → k.1 = 1 ∨ (k.1 = 0 ∧ k.2 < C.outs)) : ∀ (x : AV) {a : AT} {K : AV → AT → Prop}, frz H x a K → ∃ y a', Fz H' C.l (ren (C.r γ) x) (ren (C.r γ) y) ∧ (C.outs = 0 → ∀ r, ren r y = y) ∧ K y a'
 | .d x, a, K, h => ⟨.d x, a, by simp only [ren]; exact .keep _ rfl, fun _ r => by simp [ren], h⟩
 | .e0, a, K, h => ⟨.d (.list []), a, by simp only [ren]; exact .e0, fun _ r => by simp [ren], h⟩
 | .agg xs, a, K, h => by
  obtain ⟨ys, a', h1, h0, h2⟩ := Zd4 hC hH hk xs h
  exact ⟨.agg ys, a', by simp only [ren]; exact .agg _ _ h1.1 h1.2, fun e r => by simp only [ren]; rw [h0 e r], h2⟩
 | .ref k g off m, a, K, h => by
  unfold frz at h
  split at h
  ·rename_i hk0 hl
   have hk0 := Ya hk0
   have hlt : k.2 < C.outs := by
    rcases hk k (ZaX hl).2 with h1 | h1
    ·omega
    grind
   obtain ⟨k1, k2⟩ := k
   simp only at hk0 hlt
   subst hk0
   exact ⟨.ref (0, k2) g off m, a, by simp only [ren]; exact .keep _ (decide_eq_true (hC.out k2 hlt)), fun e => by omega, h⟩
  ·rename_i _ hk hl
   split at h
   case h_2 => exact h.elim
   rename_i es a'
   obtain ⟨⟨h1, h2, h3, h4, h5⟩, h6⟩ := h
   have hk := Ya hk
   obtain ⟨g1, g2, g3, g4, g5⟩ := hH.at hl
   obtain ⟨k1, k2⟩ := k
   simp only at hk
   subst hk
   refine ⟨.d (.list es), a', ?_, fun _ r => by simp [ren], h6⟩
   simp only [ren]
   rw [g1]
   have hκ : (C.r γ).κ (1, k2) = (C.l + 1, k2) := hC.own k2
   refine .ref _ off m es (by rw [hκ]) g2 h1 (by rw [g4]; exact h2) (by rw [g4]; exact h3) (by rw [g4, g5, ZaC]; exact h4) (fun i j e d x hi hj hx => ?_)
   have hil : i < m := by
    grind
   have hjl : j < (H (1, k2)).sz := by
    grind
   have e1 := Zm6 h3 hi hj
   have hlt : i * (H (1, k2)).sz + j < m * (H (1, k2)).sz := by
    have : (i + 1) * (H (1, k2)).sz ≤ m * (H (1, k2)).sz := YM _ hil
    grind
   have e2 : (H (1, k2)).cells[(off + i) * (H (1, k2)).sz + j]? = some (.d d) := by
    have := congrArg (fun l => l[i * (H (1, k2)).sz + j]?) h5
    grind
   rw [g4, g5, Zcz, e2] at hx
   simp only [YH, ren, Ye] at hx
   subst hx
   exact .keep _ rfl
  grind
 | .top, a, K, h => by simp only [frz] at h
 | .p _, a, K, h => by simp only [frz] at h
 | .ptr _ _ _, a, K, h => by simp only [frz] at h
 | .mp k g, a, K, h => by
  unfold frz at h
  split at h
  ·rename_i hk0 hl
   have hk0 := Ya hk0
   have hlt : k.2 < C.outs := by
    rcases hk k (ZaX hl).2 with h1 | h1
    ·omega
    grind
   obtain ⟨k1, k2⟩ := k
   simp only at hk0 hlt
   subst hk0
   exact ⟨.mp (0, k2) g, a, by simp only [ren]; exact .keep _ (decide_eq_true (hC.out k2 hlt)), fun e => by omega, h⟩
  ·rename_i q es _ hk hl he
   have hk := Ya hk
   obtain ⟨g1, g2, g3, _, _⟩ := hH.at hl
   obtain ⟨k1, k2⟩ := k
   simp only at hk
   subst hk
   refine ⟨.d (.map q es), a, ?_, fun _ r => by simp [ren], h⟩
   simp only [ren]
   rw [g1]
   have hκ : (C.r γ).κ (1, k2) = (C.l + 1, k2) := hC.own k2
   exact .mp _ q es (by rw [hκ]) g2 (by rw [g3, he])
  grind
 | .iptr _ _, a, K, h => by simp only [frz] at h
 | .fn _ _ _, a, K, h => by simp only [frz] at h
 | .tup _, a, K, h => by simp only [frz] at h
theorem Zd4 (hC : CxOk C) {γ : Key → Nat} {H H' : Hp} (hH : Zhc (C.r γ) H H') (hk : ∀ k, (H k).live = true → k.1 = 1 ∨ (k.1 = 0 ∧ k.2 < C.outs)) : ∀ (xs : List AV) {a : AT} {K : List AV → AT → Prop}, ZqQ H xs a K →
  ∃ ys a', ((Zan (C.r γ) xs).length = (Zan (C.r γ) ys).length ∧ ∀ (i : Nat) (x y : AV), (Zan (C.r γ) xs)[i]? = some x → (Zan (C.r γ) ys)[i]? = some y → Fz H' C.l x y) ∧ (C.outs = 0 → ∀ r, Zan r ys = ys) ∧ K ys a'
 | [], a, K, h => ⟨[], a, ⟨by simp [Zan], fun i x y hx => by simp [Zan] at hx⟩, fun _ r => by simp [Zan], h⟩
 | x :: xs, a, K, h => by
  simp only [ZqQ] at h
  obtain ⟨y, a', h1, e1, h2⟩ := ZmI hC hH hk x h
  obtain ⟨ys, a'', h3, e3, h4⟩ := Zd4 hC hH hk xs h2
  refine ⟨y :: ys, a'', ⟨by simp [Zan, h3.1], fun i x' y' hx hy => ?_⟩, fun e r => by simp only [Zan]; rw [e1 e r, e3 e r], h4⟩
  cases i with
  | zero => simp only [Zan, YO, Ye] at hx hy; subst hx; subst hy; exact h1
  | succ i => simp only [Zan, YV] at hx hy; exact h3.2 i x' y' hx hy
end
theorem ZmE (hT : TOk P T) {γ : Key → Nat} (hG : RG (C.r γ) C.l C.outs [] τ σ) {v : ResultVar} {K : AV → Prop} (h : ldR T τ v K) : ∃ x, K x ∧ ∀ rs (K' : List AV → Prop), ZiP P σ rs (fun xs => K' (ren (C.r γ) x :: xs)) → ZiP P σ (v :: rs) K' := by
 cases v with
 | tmp t => exact ⟨_, h, fun rs K' h' => by unfold ZiP; rw [(hG.s t).1 Zag]; exact h'⟩
 | cell p t =>
  simp only [ldR] at h
  split at h
  case h_2 => exact h.elim
  rename_i k g off i hp hi
  have hp' : σ.s p = ren (C.r γ) (.ptr k g off) := by rw [(hG.s p).1 Zag, hp]
  split at h
  ·rename_i hl hag
   split at h
   case h_2 => exact h.elim
   rename_i c h1 h2
   refine ⟨_, h, fun rs K' h' => ?_⟩
   have := Zdq (a := .go .nil) (g := none) (K := fun v _ => v = .agg c) (hT _ _ hi) hG.h (fun b e => by cases e) (x := .ptr k g off) (by simp only [ZkM, hl, hag, h1, h2])
   unfold ZiP
   rw [hp']
   refine ZeP (fun y hy => ?_) this
   obtain ⟨v, a', rfl, rfl⟩ := hy
   exact h'
  ·rename_i hl hag
   split at h
   case h_2 => exact h.elim
   rename_i c hc
   refine ⟨_, h, fun rs K' h' => ?_⟩
   have := Zdq (a := .go .nil) (g := none) (K := fun v _ => v = c) (hT _ _ hi) hG.h (fun b e => by cases e) (x := .ptr k g off) (by simp only [ZkM, hl, hag, hc])
   unfold ZiP
   rw [hp']
   refine ZeP (fun y hy => ?_) this
   obtain ⟨v, a', rfl, rfl⟩ := hy
   exact h'
  grind
theorem ZfO (hT : TOk P T) {γ : Key → Nat} (hG : RG (C.r γ) C.l C.outs [] τ σ) : ∀ (rs : List ResultVar) {K : List AV → Prop}, Zx4 T τ rs K → ∃ xs, K xs ∧ ∀ K' : List AV → Prop, K' (Zan (C.r γ) xs) → ZiP P σ rs K'
 | [], K, h => ⟨[], h, fun K' h' => by unfold ZiP; simpa [Zan] using h'⟩
 | v :: rs, K, h => by
  obtain ⟨x, h1, h2⟩ := ZmE hT hG h
  obtain ⟨xs, h3, h4⟩ := ZfO hT hG rs h1
  exact ⟨x :: xs, h3, fun K' h' => h2 rs K' (h4 _ (by simpa [Zan] using h'))⟩
structure OutsOk (C : Cx) (γ : Key → Nat) (bs : List Blk) (H' : Hp) : Prop where
 len : bs.length = C.outs
 g : ∀ i b, bs[i]? = some b → (H' (C.κ (0, i))).g = γ (0, i) + b.g
 live : ∀ i b, bs[i]? = some b → b.live = true → H' (C.κ (0, i)) = ZaN (C.r γ) (0, i) b
 o : ∀ k : Key, ¬ C.no k → H' k = C.H0 k
theorem Zgs {H : Hp} : ∀ (n i j : Nat), (ZhE H n i)[j]? = if j < n then some (H (0, i + j)) else none
 | 0, i, j => by simp [ZhE]
 | n + 1, i, 0 => by simp [ZhE]
 | n + 1, i, j + 1 => by
  simp only [ZhE, YV, Zgs n (i + 1) j]
  grind
theorem ZhO {H : Hp} : ∀ (n i : Nat), (ZhE H n i).length = n
 | 0, i => rfl
 | n + 1, i => by simp [ZhE, ZhO n]
theorem ZtE (hC : CxOk C) (hT : TOk P T) {rs : List ResultVar} {LPost : AV → List Blk → Prop} {Post : AV → Hp → Prop} {e : Exit} (hp : ∀ γ y bs H', C.G γ → LPost y bs → OutsOk C γ bs H' → (C.outs = 0 → ∀ r, ren r y = y) → Post (ren (C.r γ) y) H')
  (h : Is n C (FQ T rs C.outs LPost e) σ) : ∃ σ', fins P C.l C.H0 rs Post e σ' ∧ Wk n C σ σ' := by
 obtain ⟨γ, τ, σ', hg, ⟨h1, a, h2⟩, hG, hw⟩ := h
 refine ⟨σ', ⟨h1, ?_⟩, hw⟩
 obtain ⟨xs, h3, h4⟩ := ZfO (P := P) hT hG rs h2
 obtain ⟨ys, a', h5, h0, h6⟩ := Zd4 hC hG.h hG.k xs h3
 refine h4 _ ⟨ren (C.r γ) (Zht ys), ?_, ?_⟩
 ·have hl := h5.1
  have h5 := h5.2
  have e1 : ren (C.r γ) (Zht ys) = Zht (Zan (C.r γ) ys) := by
   match ys with
   | [] => simp [Zht, ren, Zan]
   | [y] => simp [Zht, Zan]
   | y :: y' :: ys => simp [Zht, ren, Zan]
  rw [e1]
  generalize Zan (C.r γ) ys = zs' at hl h5
  generalize Zan (C.r γ) xs = zs at hl h5
  match zs, zs', hl with
  | [], [], _ => exact .tup _ _ rfl fun i x y hx => by simp at hx
  | [x], [y], _ => exact h5 0 x y rfl rfl
  | x :: x' :: zs, y :: y' :: ys, hl => exact .tup _ _ hl h5
 ·refine hp γ _ _ _ hg h6 ⟨ZhO _ _, fun i b hi => ?_, fun i b hi hb => ?_, fun k hk => ?_⟩ (fun e r => ?_)
  ·rw [Zgs] at hi
   split at hi
   ·rename_i hlt
    simp only [Yy, Ye] at hi
    subst hi
    rw [show mrg C.l σ'.H C.H0 (C.κ (0, i)) = σ'.H (C.κ (0, i)) from if_pos (hC.out i hlt)]
    exact hG.go i hlt
   grind
  ·rw [Zgs] at hi
   split at hi
   ·rename_i hlt
    simp only [Yy, Ye] at hi
    subst hi
    rw [show mrg C.l σ'.H C.H0 (C.κ (0, i)) = σ'.H (C.κ (0, i)) from if_pos (hC.out i hlt)]
    exact hG.h _ hb
   grind
  ·unfold mrg
   split
   ·rename_i hk'; exact hG.o k hk' hk
   ·rfl
  ·have := h0 e r
   match ys with
   | [] => simp [Zht, ren, Zan]
   | [y] => simp only [Zan, List.cons.injEq, and_true] at this; simpa [Zht] using this
   | y :: y' :: ys => simp only [Zht, ren, this]
def Zib : Nat → List AV → List (Nat × AV)
 | _, [] => []
 | i, x :: xs => (i, x) :: Zib (i + 1) xs
theorem ZmB {r : Ren} : ∀ (ys : List AV) (i j : Nat), ren r (lkS (Zib i ys) (i + j)) = args (Zan r ys) j
 | [], i, j => by simp [Zib, lkS, ren, Zan, args]
 | y :: ys, i, 0 => by simp [Zib, lkS, Zan, args]
 | y :: ys, i, j + 1 => by
  have ih := ZmB (r := r) ys (i + 1) j
  simp only [Zib, lkS]
  split
  ·rename_i h; have := Ya h; omega
  ·rw [show i + (j + 1) = i + 1 + j from by omega, ih]
   simp [args, Zan]
theorem Zi2 {f : FuncId} {fn : Func} (rs : List ResultVar) {c : Code} {l : Nat} {xs : List AV} {H : Hp} {Post : AV → Hp → Prop} {LPost : AV → List Blk → Prop} (C : Base → Cx) {γ : Key → Nat} {ys : List AV} {hs : List (Key × Blk)}
  (hf : P.funcs[f]? = some fn) (hb : fn.body = some c) (hname : (fn.name == "runtime.NumGoroutine") = false) (hn : fn.ntmps = n) (hr : fn.results.toList = rs) (hx : xs.length ≤ n) (hT : TOk P T)
  (hC : ∀ B, CxOk (C B)) (hB : ∀ B, (C B).l = l ∧ (C B).B = B ∧ (C B).H0 = H ∧ (C B).G γ) (hxs : ∀ B, Zan ((C B).r γ) ys = xs) (hγ : ∀ d, γ (1, d) = 0) (hh : ∀ d, lkH hs (1, d) = ZkV)
  (hhs : ∀ B k, (lkH hs k).live = true → k.1 = 0 ∧ k.2 < (C B).outs ∧ H ((C B).κ k) = ZaN ((C B).r γ) k (lkH hs k)) (hgs : ∀ B i, i < (C B).outs → (H ((C B).κ (0, i))).g = γ (0, i) + (lkH hs (0, i)).g)
  (hp : ∀ B γ y bs H', (C B).G γ → LPost y bs → OutsOk (C B) γ bs H' → ((C B).outs = 0 → ∀ r, ren r y = y) → Post (ren ((C B).r γ) y) H')
  (h : ∀ B : Base, LW P n (C B) c (mkS (Zib 0 ys) hs) (FQ T rs (C B).outs LPost)) : Za3 P f l xs H Post := by
 refine ZpT rs hf hb hname hn hr hx fun B => ?_
 obtain ⟨hl, hBB, hH0, hg⟩ := hB B
 have hG : RG ((C B).r γ) (C B).l (C B).outs [] (mkS (Zib 0 ys) hs) ⟨args xs, clr l H⟩ := by
  refine ⟨fun j => ⟨fun _ => ?_, fun hn => absurd Zag hn⟩, fun k hk => ?_, fun d => ?_, fun i hi => ?_, fun k hk => .inr ⟨(hhs B k hk).1, (hhs B k hk).2.1⟩, fun k hk _ => ?_⟩
  ·have := ZmB (r := (C B).r γ) ys 0 j
   rw [Yy, hxs] at this
   exact this.symm
  ·obtain ⟨h1, h2, h3⟩ := hhs B k hk
   show clr l H ((C B).κ k) = _
   obtain ⟨k1, k2⟩ := k
   simp only at h1 h2
   subst h1
   rw [Zm5 (by rw [← hl]; exact (hC B).out _ h2)]
   exact h3
  ·show (clr l H ((C B).l + 1, d)).g = γ (1, d) + (lkH hs (1, d)).g
   rw [hl, Zrk, hγ, hh]
   rfl
  ·show (clr l H ((C B).κ (0, i))).g = γ (0, i) + (lkH hs (0, i)).g
   rw [Zm5 (by rw [← hl]; exact (hC B).out _ hi)]
   grind
  ·show clr l H k = (C B).H0 k
   rw [hH0]
   exact Zm5 (by rw [← hl]; exact hk)
 have := h B γ _ hg hG
 intro act w hR
 rw [hl, hBB] at this
 refine wp_mono (this act w hR) fun e a' w' ⟨σ', hq, hR'⟩ => ?_
 obtain ⟨σ'', h1, h2⟩ := ZtE (P := P) (hC B) hT (hp B) hq
 rw [hl, hH0] at h1
 have h3 := h2 act w
 refine ⟨σ'', h1, ?_⟩
 have h4 := h2 a' w'
 grind
end
end Go.Eng
namespace Go.Eng
set_option linter.all false
open Go Go.RowKit
def lkT : List (Nat × TI) → Nat → Option TI
 | [], _ => none
 | (i, x) :: r, j => match Nat.beq i j with | true => some x | false => lkT r j
theorem ZqN {P : Program} : ∀ (tl : List (Nat × TI)), (∀ p ∈ tl, TIok P p.1 p.2) → TOk P (lkT tl)
 | [], _, t, i, h => by simp [lkT] at h
 | (j, x) :: r, hp, t, i, h => by
  simp only [lkT] at h
  split at h
  ·rename_i he
   have he := Ya he
   cases h
   subst he
   exact hp _ (Yu ..)
  ·exact ZqN r (fun p hp' => hp p (List.mem_cons_of_mem _ hp')) t i h
theorem TIok.of {P : Program} {t : TypeId} {i : TI} (h1 : ZhW P t = some i.agg) (h2 : Go.Eng.kin P t = i.kin) (h3 : P.cellsOf t = i.siz) (h4 : i.elm = none ∨ Go.Eng.elm P t = i.elm)
  (h5 : ((List.range i.fld.length).map fun j => (Go.Eng.fld P t j, Zwy P t j)) = i.fld.map fun x => (some (x.1, x.2.1), some x)) (h6 : i.zer = none ∨ Go.Eng.zer P t = i.zer) (h7 : i.eqt = none ∨ eqT P t = i.eqt) (h8 : i.str = false ∨ ZxI P t = true)
  (h9 : i.ik = none ∨ P.underlying t = i.ik.map .int) (h10 : i.byt = none ∨ (∃ b, P.bytesOf t ≤ b ∧ P.bytesOf t ≠ 0 ∧ i.byt = some b)) (h11 : i.zer = none ∨ (i.zer.getD []).all AV.flat = true) (h12 : i.mp = none ∨ ZqG P t = i.mp := by first | exact .inl rfl | exact .inr (by kernel_rfl)) : TIok P t i where
 agg := h1
 kin := h2
 siz := h3
 elm := fun e h => by rcases h4 with h' | h' <;> rw [h] at h' <;> first | exact h' | cases h'
 fld := fun j x h => by
  have := congrArg (fun l => l[j]?) h5
  grind
 zer := fun e h => by rcases h6 with h' | h' <;> rw [h] at h' <;> first | exact h' | cases h'
 eqt := fun e h => by rcases h7 with h' | h' <;> rw [h] at h' <;> first | exact h' | cases h'
 str := fun h => by rcases h8 with h' | h' <;> first | exact h' | (rw [h] at h'; cases h')
 ik := fun e h => by rcases h9 with h' | h' <;> rw [h] at h' <;> first | exact h' | cases h'
 byt := fun e h => by
  grind
 mp := fun z h => by rcases h12 with h' | h' <;> rw [h] at h' <;> first | exact h' | cases h'
 flt := fun z h => by rcases h11 with h' | h' <;> rw [h] at h' <;> first | exact h' | cases h'
def cxP (l : Nat) (θ : Nat → AV) (H : Hp) (B : Base) : Cx := ⟨l, B, fun k => (l + 1, k.2), θ, H, 0, fun _ => False, [], fun _ => True⟩
theorem Zfc (l : Nat) (B : Base) (θ : Nat → AV) (H : Hp) : CxOk (cxP l θ H B) := ⟨fun _ => rfl, fun i h => absurd h (Yas _), fun i j h => absurd h (Yas _), fun _ h => h.elim, fun _ _ _ h => h⟩
theorem ZoO {l : Nat} {θ : Nat → AV} {H : Hp} {B : Base} {γ : Key → Nat} {bs : List Blk} {H' : Hp} (h : OutsOk (cxP l θ H B) γ bs H') : H' = H := funext fun k => h.o k id
end Go.Eng
namespace Go.Eng
structure Raw where
 num : Int
 wire : Int
 bits : Int
 data : ByteArray
deriving Inhabited, DecidableEq
mutual
inductive Val where
 | mk (kind bits : Int) (text : ByteArray) (list : List Val) (pairs : List Pr) (slots : List Slt) (raws : List Raw)
inductive Pr where
 | mk (key val : Val)
inductive Slt where
 | mk (num : Int) (val : Val)
end
inductive Msk where
 | mk (num : Int) (subs : List Msk)
instance : Inhabited Val := ⟨.mk 0 0 .empty [] [] [] []⟩
instance : Inhabited Pr := ⟨.mk default default⟩
instance : Inhabited Slt := ⟨.mk 0 default⟩
instance : Inhabited Msk := ⟨.mk 0 []⟩
def Val.kind : Val → Int | .mk k _ _ _ _ _ _ => k
def Val.bits : Val → Int | .mk _ b _ _ _ _ _ => b
def Val.text : Val → ByteArray | .mk _ _ t _ _ _ _ => t
def Val.list : Val → List Val | .mk _ _ _ l _ _ _ => l
def Val.pairs : Val → List Pr | .mk _ _ _ _ p _ _ => p
def Val.slots : Val → List Slt | .mk _ _ _ _ _ s _ => s
def Val.raws : Val → List Raw | .mk _ _ _ _ _ _ r => r
def Pr.key : Pr → Val | .mk k _ => k
def Pr.val : Pr → Val | .mk _ v => v
def Slt.num : Slt → Int | .mk n _ => n
def Slt.val : Slt → Val | .mk _ v => v
def Msk.num : Msk → Int | .mk n _ => n
def Msk.subs : Msk → List Msk | .mk _ s => s
def Zaj (s : ByteArray) : List D := [.str s]
def Zda (s : Int) : List D := [.int .i64 s]
def ZAu (s : Bool) : List D := [.bool s]
def Zpp (x : Raw) : List D := [.int .i64 x.num, .int .i64 x.wire, .int .u64 x.bits, .str x.data]
mutual
def Zjy : Val → List D
 | .mk k b t l p s r => [.int .i64 k, .int .u64 b, .str t, .list (ZoY l), .list (ZxH p), .list (Zp9 s), .list (r.map Zpp)]
def ZoY : List Val → List (List D)
 | [] => []
 | v :: vs => Zjy v :: ZoY vs
def rPr : Pr → List D
 | .mk k v => Zjy k ++ Zjy v
def ZxH : List Pr → List (List D)
 | [] => []
 | v :: vs => rPr v :: ZxH vs
def Zod : Slt → List D
 | .mk n v => .int .i64 n :: Zjy v
def Zp9 : List Slt → List (List D)
 | [] => []
 | v :: vs => Zod v :: Zp9 vs
end
mutual
def Zxe : Msk → List D
 | .mk n s => [.int .i64 n, .list (Zpn s)]
def Zpn : List Msk → List (List D)
 | [] => []
 | v :: vs => Zxe v :: Zpn vs
end
theorem Zn3 (l : List Val) : ZoY l = l.map Zjy := by induction l with | nil => rfl | cons v l ih => simp [ZoY, ih]
theorem ZpP (l : List Pr) : ZxH l = l.map rPr := by induction l with | nil => rfl | cons v l ih => simp [ZxH, ih]
theorem ZlB (l : List Slt) : Zp9 l = l.map Zod := by induction l with | nil => rfl | cons v l ih => simp [Zp9, ih]
theorem ZnT (l : List Msk) : Zpn l = l.map Zxe := by induction l with | nil => rfl | cons v l ih => simp [Zpn, ih]
def ZtW (x : Val) : List D := [.int .i64 x.kind, .int .u64 x.bits, .str x.text, .list (x.list.map Zjy), .list (x.pairs.map rPr), .list (x.slots.map Zod), .list (x.raws.map Zpp)]
def ePr (x : Pr) : List D := [.int .i64 x.key.kind, .int .u64 x.key.bits, .str x.key.text, .list (x.key.list.map Zjy), .list (x.key.pairs.map rPr), .list (x.key.slots.map Zod), .list (x.key.raws.map Zpp), .int .i64 x.val.kind, .int .u64 x.val.bits, .str x.val.text, .list (x.val.list.map Zjy), .list (x.val.pairs.map rPr), .list (x.val.slots.map Zod), .list (x.val.raws.map Zpp)]
def Zyi (x : Slt) : List D := [.int .i64 x.num, .int .i64 x.val.kind, .int .u64 x.val.bits, .str x.val.text, .list (x.val.list.map Zjy), .list (x.val.pairs.map rPr), .list (x.val.slots.map Zod), .list (x.val.raws.map Zpp)]
def Zy6 (x : Msk) : List D := [.int .i64 x.num, .list (x.subs.map Zxe)]
theorem Zgy (v : Val) : Zjy v = ZtW v := by
 cases v; simp [Zjy, ZtW, Zn3, ZpP, ZlB, Val.kind, Val.bits, Val.text, Val.list, Val.pairs, Val.slots, Val.raws]
theorem Zq0 (v : Pr) : rPr v = ePr v := by cases v; simp [rPr, Zgy, ZtW, ePr, Pr.key, Pr.val]
theorem ZnB (v : Slt) : Zod v = Zyi v := by cases v; simp [Zod, Zgy, ZtW, Zyi, Slt.num, Slt.val]
theorem Zyt (v : Msk) : Zxe v = Zy6 v := by cases v; simp [Zxe, Zy6, ZnT, Msk.num, Msk.subs]
structure Typ where
 kind : Int
 name : ByteArray
deriving Inhabited, DecidableEq
def ZzT (x : Typ) : List D := [.int .i64 x.kind, .str x.name]
structure Nt where
 name : ByteArray
 val : Val
deriving Inhabited
def eNt (x : Nt) : List D := [.str x.name, .int .i64 x.val.kind, .int .u64 x.val.bits, .str x.val.text, .list (x.val.list.map Zjy), .list (x.val.pairs.map rPr), .list (x.val.slots.map Zod), .list (x.val.raws.map Zpp)]
structure Fld where
 num : Int
 name : ByteArray
 card : Int
 key : Int
 type : Typ
 union : ByteArray
 hasDefault : Bool
 dflt : Val
 notes : List Nt
deriving Inhabited
def Zfl (x : Fld) : List D := [.int .i64 x.num, .str x.name, .int .i64 x.card, .int .i64 x.key, .int .i64 x.type.kind, .str x.type.name, .str x.union, .bool x.hasDefault, .int .i64 x.dflt.kind, .int .u64 x.dflt.bits, .str x.dflt.text, .list (x.dflt.list.map Zjy), .list (x.dflt.pairs.map rPr), .list (x.dflt.slots.map Zod), .list (x.dflt.raws.map Zpp), .list (x.notes.map eNt)]
structure Spn where
 lo : Int
 hi : Int
deriving Inhabited, DecidableEq
def Zs0 (x : Spn) : List D := [.int .i64 x.lo, .int .i64 x.hi]
structure By where
 b : UInt8
deriving Inhabited, DecidableEq
def By.v (x : By) : Int := x.b.toNat
def eBy (x : By) : List D := [.int .u8 x.v]
structure Msg where
 name : ByteArray
 fields : List Fld
 reserved : List Spn
 gone : List ByteArray
 notes : List Nt
deriving Inhabited
def Zbx (x : Msg) : List D := [.str x.name, .list (x.fields.map Zfl), .list (x.reserved.map Zs0), .list (x.gone.map Zaj), .list (x.notes.map eNt)]
structure Itm where
 name : ByteArray
 num : Int
 notes : List Nt
deriving Inhabited
def Zy5 (x : Itm) : List D := [.str x.name, .int .i64 x.num, .list (x.notes.map eNt)]
structure Enm where
 name : ByteArray
 opn : Bool
 items : List Itm
 reserved : List Spn
 notes : List Nt
deriving Inhabited
def ZbT (x : Enm) : List D := [.str x.name, .bool x.opn, .list (x.items.map Zy5), .list (x.reserved.map Zs0), .list (x.notes.map eNt)]
structure Mth where
 name : ByteArray
 inn : ByteArray
 out : ByteArray
 shape : Int
 notes : List Nt
deriving Inhabited
def Zzq (x : Mth) : List D := [.str x.name, .str x.inn, .str x.out, .int .i64 x.shape, .list (x.notes.map eNt)]
structure Svc where
 name : ByteArray
 methods : List Mth
 notes : List Nt
deriving Inhabited
def Zcn (x : Svc) : List D := [.str x.name, .list (x.methods.map Zzq), .list (x.notes.map eNt)]
structure Scm where
 messages : List Msg
 enums : List Enm
 services : List Svc
deriving Inhabited
def ZcE (x : Scm) : List D := [.list (x.messages.map Zbx), .list (x.enums.map ZbT), .list (x.services.map Zcn)]
structure Fil where
 name : ByteArray
 space : ByteArray
 imports : List ByteArray
 messages : List Msg
 enums : List Enm
 services : List Svc
deriving Inhabited
def ZAW (x : Fil) : List D := [.str x.name, .str x.space, .list (x.imports.map Zaj), .list (x.messages.map Zbx), .list (x.enums.map ZbT), .list (x.services.map Zcn)]
structure Prb where
 dfn : ByteArray
 num : Int
 err : Int
deriving Inhabited, DecidableEq
structure Stp where
 num : Int
 pos : Int
 hasKey : Bool
 key : Val
deriving Inhabited
structure Edt where
 path : List Stp
 kind : Int
 val : Val
deriving Inhabited
class Mv (V : Type) where
 q : Bool
 e : V → List D
 z : V
def eEt {V : Type} [Mv V] (p : ByteArray × V) : List D := .str p.1 :: Mv.e p.2
instance : Mv Bool := ⟨false, ZAu, false⟩
instance : Mv Int := ⟨false, Zda, 0⟩
instance : Mv Msg := ⟨true, Zbx, ⟨⟨#[]⟩, [], [], [], []⟩⟩
instance : Mv (List Int) := ⟨false, fun x => [.list (x.map Zda)], []⟩
instance (V : Type) [Mv V] : Mv (List (ByteArray × V)) := ⟨false, fun m => [.map (Mv.q V) (m.map eEt)], []⟩
structure Web where
 messages : List (ByteArray × Msg)
 enums : List (ByteArray × Bool)
deriving Inhabited
def Zeu (x : Web) : List D := [.map true (x.messages.map eEt), .map false (x.enums.map eEt)]
structure Lnk where
 files : List Fil
 f : Fil
 known : List ByteArray
 messages : List ByteArray
 enums : List Enm
deriving Inhabited
def Zam (x : List ByteArray) : List D := [.list (x.map Zaj)]
def ZAR : Raw := ⟨0, 0, 0, ⟨#[]⟩⟩
def Zu6 : Val := .mk 0 0 ⟨#[]⟩ [] [] [] []
def zPr : Pr := .mk Zu6 Zu6
def ZAP : Slt := .mk 0 Zu6
def ZAX : Msk := .mk 0 []
def ZAC : Typ := ⟨0, ⟨#[]⟩⟩
def zNt : Nt := ⟨⟨#[]⟩, Zu6⟩
def ZAB : Fld := ⟨0, ⟨#[]⟩, 0, 0, ZAC, ⟨#[]⟩, false, Zu6, []⟩
def ZAU : Spn := ⟨0, 0⟩
def zBy : By := ⟨0⟩
def ZAr : Msg := ⟨⟨#[]⟩, [], [], [], []⟩
def ZAS : Itm := ⟨⟨#[]⟩, 0, []⟩
def ZAG : Enm := ⟨⟨#[]⟩, false, [], [], []⟩
def ZAQ : Mth := ⟨⟨#[]⟩, ⟨#[]⟩, ⟨#[]⟩, 0, []⟩
def ZAV : Svc := ⟨⟨#[]⟩, [], []⟩
def ZAT : Fil := ⟨⟨#[]⟩, ⟨#[]⟩, [], [], [], []⟩
end Go.Eng
