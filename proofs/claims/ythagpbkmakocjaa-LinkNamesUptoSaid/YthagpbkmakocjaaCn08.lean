import Derived.Test.YthagpbkmakocjaaCn07
namespace Go.Eng
set_option linter.all false
open Go Go.RowKit
section
variable {P : Program} {T : Nat → Option TI} {n : Nat} {C : Cx} {τ σ : St} {Q : Exit → St → Prop}
theorem Wk.refl (σ : St) : Wk n C σ σ := fun _ _ h => h
theorem Wk.trans {σ σ' σ'' : St} (h : Wk n C σ σ') (k : Wk n C σ' σ'') : Wk n C σ σ'' := fun a w hR => k a w (h a w hR)
theorem R.weaken {l : Nat} {B : Base} {s s' : Nat → AV} {H : Hp} {act : Act} {w : World} (h : R l n B ⟨s, H⟩ act w) (hs : ∀ j, s' j = s j ∨ s' j = .top) : R l n B ⟨s', H⟩ act w := by
 obtain ⟨m, S, hO, hn, hdf, hS, hex⟩ := h.un
 refine ⟨m, S, hO, hn, hdf, fun i => ?_, hex⟩
 show RepA w S H m (l + 1) (s' i) _
 rcases hs i with e | e
 ·rw [e]; exact hS i
 ·rw [e]; exact .top _
theorem Is.mono {Φ Ψ : St → Prop} (h : Is n C Φ σ) (hk : ∀ τ, Φ τ → Ψ τ) : Is n C Ψ σ := by
 obtain ⟨γ, τ, σ', h0, h1, h2, h3⟩ := h; exact ⟨γ, τ, σ', h0, hk _ h1, h2, h3⟩
theorem AWp.weak {c : Code} {QQ : Exit → St → Prop} {σ' : St} (h : AWp P C.l n C.B c QQ σ') (hw : Wk n C σ σ') : AWp P C.l n C.B c QQ σ := fun a w hR => h a w (hw a w hR)
theorem LW.mono {c : Code} {Q' : Exit → St → Prop} (h : LW P n C c τ Q) (hk : ∀ e τ, Q e τ → Q' e τ) : LW P n C c τ Q' := fun γ σ hg hG => ZcC (h γ σ hg hG) fun e σ' hi => hi.mono (hk e)
theorem ZB1 {x y : Code} (h : LW P n C x τ (fun e τ' => match e with | .normal => LW P n C y τ' Q | e => Q e τ')) : LW P n C (.seq x y) τ Q := by
 intro γ σ hg hG
 refine Ziy (ZcC (h γ σ hg hG) fun e σ' hi => ?_)
 cases e with
 | normal =>
  obtain ⟨γ', τ', σ'', h0, h1, h2, h3⟩ := hi
  exact AWp.weak (h1 γ' σ'' h0 h2) h3
 | _ => exact hi
theorem ZsE {id : Nat} {c : Code} (h : LW P n C c τ (fun e τ' => match e with | .exit i => if i = id then Q .normal τ' else Q (.exit i) τ' | e => Q e τ')) : LW P n C (.block id c) τ Q := by
 intro γ σ hg hG
 refine Zjx (ZcC (h γ σ hg hG) fun e σ' hi => ?_)
 cases e with
 | exit i =>
  unfold Zl4
  simp only at hi ⊢
  split
  ·rename_i he; exact hi.mono fun τ' h => by rw [if_pos he] at h; exact h
  ·rename_i he; exact hi.mono fun τ' h => by rw [if_neg he] at h; exact h
 | _ => exact hi
theorem Zyc {c : Operand} {x y : Code} {b : Bool} (hc : ev τ.s c = .d (.bool b)) (h1 : b = true → LW P n C x τ Q) (h2 : b = false → LW P n C y τ Q) : LW P n C (.cond c x y) τ Q := by
 intro γ σ hg hG
 have he : ev σ.s c = .d (.bool b) := by
  rw [ZgM (c := []) hG Zao (by cases c <;> rfl), hc]; simp [ren]
 exact Zin he (fun e => h1 e γ σ hg hG) (fun e => h2 e γ σ hg hG)
theorem ZAr {c : Code} (h : LL P n C c τ Q) : LW P n C (.loop c) τ Q := by
 intro γ σ hg hG a w hR b k cs
 obtain ⟨e, a', w', h1, h2⟩ := h γ σ hg hG a w hR b k cs
 exact ⟨e, a', w', h1, .of_steps (.one step_loop) h2⟩
theorem ZtN {c : Code} (h : LW P n C c τ (fun e τ' => match e with | .normal => LL P n C c τ' Q | e => Q e τ')) : LL P n C c τ Q := by
 intro γ σ hg hG a w hR b k cs
 obtain ⟨e, a₁, w₁, ⟨σ₁, hq, hR₁⟩, harr⟩ := h γ σ hg hG a w hR b (.inLoop c :: k) cs
 cases e with
 | normal =>
  obtain ⟨γ', τ', σ'', h0, h1, h2, h3⟩ := hq
  obtain ⟨e₂, a₂, w₂, hq₂, harr₂⟩ := h1 γ' σ'' h0 h2 a₁ w₁ (h3 _ _ hR₁) b k cs
  exact ⟨e₂, a₂, w₂, hq₂, .of_steps (Steps.trans harr (.one step_inLoop)) harr₂⟩
 | exit id => exact ⟨_, a₁, w₁, ⟨σ₁, hq, hR₁⟩, .pass (x := .inLoop c) rfl (fun _ _ => .inl (by simp)) harr⟩
 | goto id => exact ⟨_, a₁, w₁, ⟨σ₁, hq, hR₁⟩, .pass (x := .inLoop c) rfl (fun _ _ => .inl (by simp)) harr⟩
 | ret => exact ⟨_, a₁, w₁, ⟨σ₁, hq, hR₁⟩, .pass (x := .inLoop c) rfl (fun _ _ => .inl (by simp)) harr⟩
 | panic ch => exact ⟨_, a₁, w₁, ⟨σ₁, hq, hR₁⟩, .pass (x := .inLoop c) rfl (fun _ _ => .inl (by simp)) harr⟩
 | outgrown => exact ⟨_, a₁, w₁, ⟨σ₁, hq, hR₁⟩, .pass (x := .inLoop c) rfl (fun _ _ => .inl (by simp)) harr⟩
theorem Is.of {γ : Key → Nat} {Φ : St → Prop} (hg : C.G γ) (hG : RG (C.r γ) C.l C.outs [] τ σ) (h : Φ τ) : Is n C Φ σ := ⟨γ, τ, σ, hg, h, hG, Wk.refl σ⟩
theorem Zbv {a b : Key} : Zep a b = true ↔ a = b := by
 obtain ⟨a1, a2⟩ := a
 obtain ⟨b1, b2⟩ := b
 simp [Zep]
theorem Zi2 {H : Hp} {s : Nat → AV} : ∀ (ls : List Nat) (j : Nat), lkS (ZeX H s ls) j = nzX H (s j) ∨ lkS (ZeX H s ls) j = .top
 | [], j => .inr rfl
 | i :: r, j => by
  simp only [ZeX, lkS]
  split
  ·rename_i h; rw [Nat.eq_of_beq_eq_true h]; exact .inl rfl
  ·exact Zi2 r j
def rebase (γ : Key → Nat) (H : Hp) : Key → Nat := fun k => γ k + (H k).g
mutual
theorem ZpZ {γ : Key → Nat} {H : Hp} : ∀ {x y : AV}, nzO H x = some y → ren (C.r (rebase γ H)) y = ren (C.r γ) x
 | .ref k g off m, y, h => by
  simp only [nzO] at h
  split at h
  ·rename_i hl; cases h; obtain ⟨h1, _⟩ := Zb9 hl; subst h1; simp [ren, Cx.r, rebase]
  ·cases h
 | .ptr k g off, y, h => by
  simp only [nzO] at h
  split at h
  ·rename_i hl; cases h; obtain ⟨h1, _⟩ := Zb9 hl; subst h1; simp [ren, Cx.r, rebase]
  ·cases h
 | .fn f xs ys, y, h => by
  simp only [nzO] at h
  split at h
  ·rename_i xs' ys' h1 h2
   cases h
   have e1 := ZdY (γ := γ) h1
   have e2 := ZdY (γ := γ) h2
   cases f <;> simp only [ren, e1, e2] <;> rfl
  ·cases h
 | .agg xs, y, h => by
  simp only [nzO] at h
  split at h
  ·rename_i xs' h1; cases h; simp only [ren, ZdY (γ := γ) h1]
  ·cases h
 | .tup xs, y, h => by
  simp only [nzO] at h
  split at h
  ·rename_i xs' h1; cases h; simp only [ren, ZdY (γ := γ) h1]
  ·cases h
 | .top, y, h => by simp only [nzO] at h; cases h; simp [ren]
 | .d x, y, h => by simp only [nzO] at h; cases h; simp [ren]
 | .e0, y, h => by simp only [nzO] at h; cases h; simp [ren]
 | .p x, y, h => by simp only [nzO] at h; cases h; simp [ren]
 | .iptr cs off, y, h => by simp only [nzO] at h; cases h; simp [ren]
theorem ZdY {γ : Key → Nat} {H : Hp} : ∀ {xs ys : List AV}, ZuI H xs = some ys → Zav (C.r (rebase γ H)) ys = Zav (C.r γ) xs
 | [], ys, h => by simp only [ZuI] at h; cases h; simp [Zav]
 | x :: xs, ys, h => by
  simp only [ZuI] at h
  split at h
  ·rename_i x' xs' h1 h2; cases h; simp only [Zav, ZpZ (γ := γ) h1, ZdY (γ := γ) h2]
  ·cases h
end
def BOk (C : Cx) (γ : Key → Nat) (H : Hp) (hs : List (Key × Blk)) : Prop :=
 (∀ k, (lkH hs k).g = 0) ∧ ∀ k, (lkH hs k).live = true → (H k).live = true ∧ (lkH hs k).e = (H k).e ∧ (lkH hs k).sz = (H k).sz ∧ Zav (C.r (rebase γ H)) (lkH hs k).cells = Zav (C.r γ) (H k).cells
theorem Zb3 {r : Ren} {cs : List AV} (h : Zit cs) : Zav r cs = cs := ZcN (List.all_eq_true.2 h)
theorem BOk.cons {γ : Key → Nat} {H : Hp} {hs : List (Key × Blk)} (h : BOk C γ H hs) {k : Key} {cs : List AV} (hl : (H k).live = true) (hc : Zav (C.r (rebase γ H)) cs = Zav (C.r γ) (H k).cells) : BOk C γ H ((k, ⟨0, true, (H k).e, (H k).sz, cs⟩) :: hs) := by
 refine ⟨fun q => ?_, fun q hq => ?_⟩
 ·simp only [lkH]
  split
  ·rfl
  ·exact h.1 q
 ·simp only [lkH] at hq ⊢
  split at hq
  ·rename_i he
   have he := Zbv.1 he
   subst he
   exact ⟨hl, rfl, rfl, hc⟩
  ·exact h.2 q hq
theorem Zd2 {γ : Key → Nat} {H : Hp} : ∀ (ks : List (Key × Bool)) {K : List (Key × Blk) → Prop}, ZhF H ks K → ∃ hs, K hs ∧ BOk C γ H hs
 | [], K, h => ⟨[], h, fun k => rfl, fun k hk => by simp [lkH, Zqk] at hk⟩
 | (k, fl) :: r, K, h => by
  simp only [ZhF] at h
  split at h
  ·exact Zd2 r h
  ·rename_i hl
   split at h
   ·obtain ⟨hs, h1, h2⟩ := Zd2 (γ := γ) r h.2
    exact ⟨_, h1, h2.cons hl (by rw [Zb3 h.1, Zb3 h.1])⟩
   ·split at h
    ·rename_i cs hcs
     obtain ⟨hs, h1, h2⟩ := Zd2 (γ := γ) r h
     exact ⟨_, h1, h2.cons hl (ZdY hcs)⟩
    ·exact h.elim
theorem ZBF {H : Hp} : ∀ {fx : List Nat}, gz H fx = true → ∀ i ∈ fx, (H (0, i)).g = 0
 | i :: r, h, j, hj => by
  simp only [gz, Bool.and_eq_true] at h
  rcases List.mem_cons.1 hj with rfl | hj
  ·exact Nat.eq_of_beq_eq_true h.1
  ·exact ZBF h.2 j hj
theorem Zk0 {x : AV} (h : ZEC x = true) : x = .e0 := by cases x <;> first | rfl | cases h
theorem Zej (hC : CxOk C) {Φ : St → Prop} {γ : Key → Nat} : ∀ (ad : List (Nat × Nat × TypeId × Nat)) (τ σ : St), Zjk ad τ Φ → RG (C.r γ) C.l C.outs [] τ σ → ∃ τ' σ', Φ τ' ∧ RG (C.r γ) C.l C.outs [] τ' σ' ∧ Wk n C σ σ'
 | [], τ, σ, h, hG => ⟨τ, σ, h, hG, Wk.refl σ⟩
 | (j, d, e, sz) :: r, τ, σ, h, hG => by
  simp only [Zjk] at h
  split at h
  ·rename_i he hl
   have hsj : σ.s j = .e0 := by rw [(hG.s j).1 Zao, Zk0 he]; simp [ren]
   have h1 := hG.put (e := j) (ch := []) rfl rfl (v := .ref (1, d) ((τ.H (1, d)).g + 1) 0 0) (y := .ref (C.l + 1, d) ((σ.H (C.l + 1, d)).g + 1) 0 0) (fun _ => by rw [hG.g]; simp only [ren]; rw [show (C.r γ).κ (1, d) = (C.l + 1, d) from hC.own d, Nat.add_assoc]) (fun hn => absurd Zao hn)
   have h2 := RG.updH (hC.ren γ) h1 (1, d) ⟨(τ.H (1, d)).g + 1, true, e, sz, []⟩ rfl (.inl rfl)
   have e1 : ZbQ (C.r γ) (1, d) ⟨(τ.H (1, d)).g + 1, true, e, sz, []⟩ = ⟨(σ.H (C.l + 1, d)).g + 1, true, e, sz, []⟩ := by
    simp only [ZbQ, hG.g, Zav, Nat.add_assoc]
   rw [e1, show (C.r γ).κ (1, d) = (C.l + 1, d) from hC.own d] at h2
   have h3 : RG (C.r γ) C.l C.outs [] ⟨upd τ.s j (.ref (1, d) ((τ.H (1, d)).g + 1) 0 0), updH τ.H (1, d) ⟨(τ.H (1, d)).g + 1, true, e, sz, []⟩⟩ ⟨upd σ.s j (.ref (C.l + 1, d) ((σ.H (C.l + 1, d)).g + 1) 0 0), updH σ.H (C.l + 1, d) ⟨(σ.H (C.l + 1, d)).g + 1, true, e, sz, []⟩⟩ :=
    ⟨fun i => ⟨fun _ => (h2.s i).1 (by rw [Zkt]; split <;> exact Zao), fun hn => absurd Zao hn⟩, h2.h, h2.g, h2.go, h2.k, h2.o⟩
   obtain ⟨τ', σ', k1, k2, k3⟩ := Zej hC r _ _ h h3
   refine ⟨τ', σ', k1, k2, Wk.trans (fun act w hR => ?_) k3⟩
   obtain ⟨s, H⟩ := σ
   exact R.adopt (e := e) (sz := sz) hR (C.l + 1, d) rfl _ (Nat.lt_succ_self _) hsj
  ·exact h.elim
  ·exact Zej hC r τ σ h hG
theorem Zh9 {γ : Key → Nat} : ∀ (ze : List Nat) (τ σ : St), RG (C.r γ) C.l C.outs [] τ σ → ∃ σ', RG (C.r γ) C.l C.outs [] (zeT ze τ) σ' ∧ Wk n C σ σ'
 | [], τ, σ, hG => ⟨σ, hG, Wk.refl σ⟩
 | j :: r, τ, σ, hG => by
  simp only [zeT]
  split
  ·rename_i he
   have hsj : σ.s j = .e0 := by rw [(hG.s j).1 Zao, Zk0 he]; simp [ren]
   have h1 := hG.put (e := j) (ch := []) rfl rfl (v := .d (.list [])) (y := .d (.list [])) (fun _ => by simp [ren]) (fun hn => absurd Zao hn)
   have h3 : RG (C.r γ) C.l C.outs [] ⟨upd τ.s j (.d (.list [])), τ.H⟩ ⟨upd σ.s j (.d (.list [])), σ.H⟩ :=
    ⟨fun i => ⟨fun _ => (h1.s i).1 (by rw [Zkt]; split <;> exact Zao), fun hn => absurd Zao hn⟩, h1.h, h1.g, h1.go, h1.k, h1.o⟩
   obtain ⟨σ', k1, k2⟩ := Zh9 r _ _ h3
   refine ⟨σ', k1, Wk.trans (fun act w hR => ?_) k2⟩
   obtain ⟨s, H⟩ := σ
   obtain ⟨m, S, hO, hn, hdf, hS, hex⟩ := hR.un
   refine ⟨m, S, hO, hn, hdf, fun i => ?_, hex⟩
   show RepA w S H m (C.l + 1) (upd s j (.d (.list [])) i) _
   unfold upd
   by_cases hi : i = j
   ·subst hi
    rw [if_pos rfl]
    have := hS i
    simp only at hsj
    rw [hsj] at this
    exact this.e0_d
   ·rw [if_neg hi]; exact hS i
  ·exact Zh9 r τ σ hG
theorem Zcj (hC : CxOk C) {Φ : St → Prop} {γ : Key → Nat} {f : Lf} (h : Zir C.fx f τ Φ) (hg : C.G γ) (hG : RG (C.r γ) C.l C.outs [] τ σ) : Is n C Φ σ := by
 obtain ⟨σ₀, hG0, hw0⟩ := Zh9 (n := n) f.ze τ σ hG
 obtain ⟨τ₁, σ₁, h1, h2, h3⟩ := Zej (n := n) hC f.ad (zeT f.ze τ) σ₀ h hG0
 replace h3 := Wk.trans hw0 h3
 split at h1
 case h_2 => exact h1.elim
 rename_i hgz
 obtain ⟨hs, k1, k2⟩ := Zd2 (C := C) (γ := γ) f.ks h1
 refine ⟨rebase γ τ₁.H, _, ⟨fun j => ren (C.r (rebase γ τ₁.H)) (lkS (ZeX τ₁.H τ₁.s f.ls) j), σ₁.H⟩, hC.G γ _ (fun i hi => by unfold rebase; rw [ZBF hgz i hi]; rfl) hg, k1, ⟨fun j => ⟨fun _ => rfl, fun hn => absurd Zao hn⟩, fun k hk => ?_, fun d => ?_, fun i hi => ?_, fun k hk => ?_, h2.o⟩, h3.trans fun act w hR => ?_⟩
 ·obtain ⟨b1, b3, b4, b5⟩ := k2.2 k hk
  have b2 := k2.1 k
  show σ₁.H (C.κ k) = _
  have := h2.h k b1
  rw [show (C.r γ).κ k = C.κ k from rfl] at this
  rw [this]
  simp only [ZbQ]
  show _ = Blk.mk (rebase γ τ₁.H k + (lkH hs k).g) true (lkH hs k).e (lkH hs k).sz (Zav (C.r (rebase γ τ₁.H)) (lkH hs k).cells)
  rw [b2, b3, b4, b5]
  rfl
 ·show (σ₁.H (C.l + 1, d)).g = rebase γ τ₁.H (1, d) + (lkH hs (1, d)).g
  have e0 : (lkH hs (1, d)).g = 0 := k2.1 _
  rw [e0, h2.g]
  rfl
 ·show (σ₁.H (C.κ (0, i))).g = rebase γ τ₁.H (0, i) + (lkH hs (0, i)).g
  have e0 : (lkH hs (0, i)).g = 0 := k2.1 _
  rw [e0]
  exact h2.go i hi
 ·exact h2.k k (k2.2 k hk).1
 ·obtain ⟨s, H⟩ := σ₁
  refine R.weaken hR fun j => ?_
  rcases Zi2 (H := τ₁.H) (s := τ₁.s) f.ls j with e | e
  ·simp only [e]
   unfold nzX
   split
   ·rename_i v hv
    left
    rw [ZpZ (γ := γ) hv]
    exact ((h2.s j).1 Zao).symm
   ·right; simp [ren]
  ·right; simp only [e]; simp [ren]
end
end Go.Eng
namespace Go.Eng
set_option linter.all false
open Go Go.RowKit
def KF (T : Nat → Option TI) (rs : List ResultVar) (os : Nat) (Post : AV → List Blk → Prop) : Exit → St → AT → Prop
 | .normal, τ, a => ZBq T rs os τ a Post
 | .ret, τ, a => ZBq T rs os τ a Post
 | _, _, _ => False
def KB (T : Nat → Option TI) (rs : List ResultVar) (os : Nat) (fx : List Nat) (r : Ren) (Post : AV → List Blk → Prop) (lf lx : Lf) (Q : Exit → St → Prop) : Exit → St → AT → Prop
 | .ret, τ, a => ZBq T rs os τ a Post
 | .normal, τ, a => ZeA r os a τ (fun τ _ => Zir fx lf τ (Q .normal))
 | .exit i, τ, a => ZeA r os a τ (fun τ _ => Zir fx lx τ (Q (.exit i)))
 | _, _, _ => False
section
variable {P : Program} {T : Nat → Option TI} {n : Nat} {C : Cx} {τ σ : St} {Q : Exit → St → Prop}
theorem ZfI {l : Nat} {ds : List (Option Nat)} : ∀ (ops : List Oper) {K K' : St → Prop} {σ : St}, (∀ σ, K σ → K' σ) → Zlf P l n ds ops K σ → Zlf P l n ds ops K' σ
 | [], K, K', σ, hk, h => hk _ h
 | o :: rest, K, K', σ, hk, h => by
  unfold Zlf at h ⊢
  split at h
  ·exact ZfC (fun σ h => ZfI rest hk h) h
  ·split at h
   ·refine ⟨fun e => ZfC (fun σ h => ZfI rest hk h) (h.1 e), fun e => ?_⟩
    have h2 := h.2 e
    split at h2
    ·exact ⟨h2.1, ZfI rest hk h2.2⟩
    ·exact h2.elim
   ·exact h.elim
theorem Ze5 {γ : Key → Nat} {env : Env} (h : RG (C.r γ) C.l C.outs env τ σ) : ∃ σ', RG (C.r γ) C.l C.outs [] (Zoh env τ) σ' ∧ Wk n C σ σ' := by
 refine ⟨⟨fun j => ren (C.r γ) ((Zoh env τ).s j), σ.H⟩, ⟨fun j => ⟨fun _ => rfl, fun hn => absurd Zao hn⟩, h.h, h.g, h.go, h.k, h.o⟩, fun act w hR => ?_⟩
 obtain ⟨s, H⟩ := σ
 refine R.weaken hR fun j => ?_
 simp only [Zoh]
 split
 ·rename_i he
  left
  exact ((h.s j).1 (by rw [he]; exact Zao)).symm
 ·right; simp [ren]
def ZFB (n : Nat) (C : Cx) (γ : Key → Nat) (K : Exit → St → AT → Prop) (e : Exit) (σ : St) : Prop := ∃ τ a σ', K e τ a ∧ RG (C.r γ) C.l C.outs [] τ σ' ∧ Wk n C σ σ'
theorem Zj8 {r : Ren} {H H' : Hp} (hr : RenOk r C.l C.outs) (hH : Zle r H H') {d : Nat} {s s' : Nat → AV} (hs : ∀ j, s' j = ren r (s j)) {A : Prop} : ∀ {js : List (Nat × List (List D))}, jsP H d s A js → A ∧ ∀ p ∈ js, ∃ off c, s' p.1 = .ref (C.l + 1, d) (H' (C.l + 1, d)).g off c ∧
  p.2.length = c ∧ (∀ e ∈ p.2, e.length = (H' (C.l + 1, d)).sz) ∧ (off + c) * (H' (C.l + 1, d)).sz ≤ (H' (C.l + 1, d)).cells.length ∧ ((H' (C.l + 1, d)).cells.drop (off * (H' (C.l + 1, d)).sz)).take (c * (H' (C.l + 1, d)).sz) = p.2.flatten.map .d
 | [], h => ⟨h, fun p hp => by cases hp⟩
 | (j, es) :: js, h => by
  simp only [jsP] at h
  split at h
  case h_2 => exact h.elim
  rename_i k q off c hj
  split at h
  case h_2 => exact h.elim
  rename_i hk hl
  have hk := Zbv.1 hk
  subst hk
  obtain ⟨⟨f1, f2, f3, f4, f5⟩, h⟩ := h
  obtain ⟨h1, h2⟩ := Zj8 hr hH hs h
  obtain ⟨g1, g2, g3, g4, g5⟩ := hH.at hl
  rw [hr.own] at g1 g2 g3 g4 g5
  refine ⟨h1, fun p hp => ?_⟩
  rcases List.mem_cons.1 hp with rfl | hp
  ·refine ⟨off, c, by rw [hs, hj]; simp [ren, hr.own, g1], f1, by rw [g4]; exact f3, by rw [g4, g5, Za6]; exact f4, ?_⟩
   rw [g4, g5, ZbA, ZbM, f5, ZiV]
  ·exact h2 p hp
theorem Zji {r : Ren} {H H' : Hp} (hr : RenOk r C.l C.outs) (hH : Zle r H H') {d : Nat} {A : Prop} : ∀ {cs : List (Key × Nat × List (List D))}, csP H d A cs → A ∧ ∀ p ∈ cs, p.1.1 = 1 ∧ p.1 ≠ (1, d) ∧ (H p.1).live = true ∧ ∃ off c, (H' (r.κ p.1)).cells[p.2.1]? = some (.ref (C.l + 1, d) (H' (C.l + 1, d)).g off c) ∧
  p.2.2.length = c ∧ (∀ e ∈ p.2.2, e.length = (H' (C.l + 1, d)).sz) ∧ (off + c) * (H' (C.l + 1, d)).sz ≤ (H' (C.l + 1, d)).cells.length ∧ ((H' (C.l + 1, d)).cells.drop (off * (H' (C.l + 1, d)).sz)).take (c * (H' (C.l + 1, d)).sz) = p.2.2.flatten.map .d
 | [], h => ⟨h, fun p hp => by cases hp⟩
 | (k, i, es) :: cs, h => by
  simp only [csP] at h
  split at h
  case h_2 => exact h.elim
  rename_i k' q off c ho hne hlv hc
  split at h
  case h_2 => exact h.elim
  rename_i hk hl
  have hk := Zbv.1 hk
  subst hk
  obtain ⟨⟨f1, f2, f3, f4, f5⟩, h⟩ := h
  obtain ⟨h1, h2⟩ := Zji hr hH h
  obtain ⟨g1, g2, g3, g4, g5⟩ := hH.at hl
  rw [hr.own] at g1 g2 g3 g4 g5
  refine ⟨h1, fun p hp => ?_⟩
  rcases List.mem_cons.1 hp with rfl | hp
  ·have hb := hH k hlv
   have hnk : k ≠ (1, d) := fun e => by rw [Zbv.2 e] at hne; cases hne
   refine ⟨Nat.eq_of_beq_eq_true ho, hnk, hlv, off, c, ?_, f1, by rw [g4]; exact f3, by rw [g4, g5, Za6]; exact f4, ?_⟩
   ·rw [hb]
    simp only [ZbQ, Zem]
    rw [Zct] at hc
    rw [hc]
    simp [ren, hr.own, g1]
   ·rw [g4, g5, ZbA, ZbM, f5, ZiV]
  ·exact h2 p hp
theorem Zlq {r : Ren} : ∀ (js : List (Nat × List (List D))) {s s' : Nat → AV}, (∀ j, s' j = ren r (s j)) → ∀ j, ZvS js s' j = ren r (ZvS js s j)
 | [], s, s', h, j => h j
 | (i, es) :: js, s, s', h, j => Zlq js (s := upd s i (.d (.list es))) (s' := upd s' i (.d (.list es))) (fun q => by
   simp only [upd]
   by_cases hq : q = i
   ·rw [if_pos hq, if_pos hq]; simp [ren]
   ·rw [if_neg hq, if_neg hq]; exact h q) j
theorem ZlE {r : Ren} (xs : List AV) (i : Nat) (x : AV) : (Zav r xs).set i (ren r x) = Zav r (xs.set i x) := by rw [ZcI, ZcI, List.map_set]
theorem Zpu {γ : Key → Nat} (hC : CxOk C) : ∀ (cs : List (Key × Nat × List (List D))) {τ σ : St}, (∀ p ∈ cs, p.1.1 = 1 ∧ (τ.H p.1).live = true) → RG (C.r γ) C.l C.outs [] τ σ →
  RG (C.r γ) C.l C.outs [] ⟨τ.s, Zt0 cs τ.H⟩ ⟨σ.s, Zt0 (cs.map fun p => ((C.r γ).κ p.1, p.2)) σ.H⟩
 | [], τ, σ, _, h => h
 | (k, i, es) :: cs, τ, σ, hp, h => by
  obtain ⟨h1, h2⟩ := hp _ (List.mem_cons_self ..)
  have hb := h.h k h2
  have h8 := RG.updH (hC.ren γ) h k ⟨(τ.H k).g, true, (τ.H k).e, (τ.H k).sz, (τ.H k).cells.set i (.d (.list es))⟩ rfl (.inl h1)
  have e3 : ZbQ (C.r γ) k ⟨(τ.H k).g, true, (τ.H k).e, (τ.H k).sz, (τ.H k).cells.set i (.d (.list es))⟩ = ⟨(σ.H ((C.r γ).κ k)).g, (σ.H ((C.r γ).κ k)).live, (σ.H ((C.r γ).κ k)).e, (σ.H ((C.r γ).κ k)).sz, (σ.H ((C.r γ).κ k)).cells.set i (.d (.list es))⟩ := by
   rw [hb]
   simp only [ZbQ]
   rw [← ZlE]
   simp [ren]
  rw [e3] at h8
  have e4 : (⟨(τ.H k).g, true, (τ.H k).e, (τ.H k).sz, (τ.H k).cells.set i (.d (.list es))⟩ : Blk) = ⟨(τ.H k).g, (τ.H k).live, (τ.H k).e, (τ.H k).sz, (τ.H k).cells.set i (.d (.list es))⟩ := by rw [h2]
  rw [e4] at h8
  have := Zpu hC cs (fun p hq => by
   obtain ⟨q1, q2⟩ := hp p (List.mem_cons_of_mem _ hq)
   refine ⟨q1, ?_⟩
   show (updH τ.H k _ p.1).live = true
   unfold updH
   split
   ·exact h2
   ·exact q2) h8
  exact this
theorem ZkB {r : Ren} {cs : List AV} (h : ZhJ cs) : ZhJ (Zav r cs) := fun x hx => by
 rw [ZcI] at hx
 obtain ⟨y, hy, rfl⟩ := List.mem_map.1 hx
 have := h y hy
 cases y with
 | d d => simp [ren]
 | _ => cases this
theorem ZaH (hC : CxOk C) {γ : Key → Nat} : ∀ (a : AT) {τ σ : St} {K : St → AT → Prop}, ZeA (C.r γ) C.outs a τ K → RG (C.r γ) C.l C.outs [] τ σ → ∃ τ' a' σ', K τ' a' ∧ RG (C.r γ) C.l C.outs [] τ' σ' ∧ Wk n C σ σ'
 | .frz d js cs b, τ, σ, K, h, hG => by
  have hr := hC.ren γ
  have hs : ∀ j, σ.s j = ren (C.r γ) (τ.s j) := fun j => (hG.s j).1 Zao
  simp only [ZeA] at h
  split at h
  case h_2 => exact h.elim
  rename_i hl hz
  have hz := Nat.le_of_ble_eq_true hz
  obtain ⟨h, hjs⟩ := Zj8 hr hG.h hs h
  obtain ⟨h, hcs⟩ := Zji hr hG.h h
  have hb := hG.h _ hl
  rw [hr.own] at hb
  have hlr : (σ.H (C.l + 1, d)).live = true := by rw [hb]; rfl
  have hszr : (σ.H (C.l + 1, d)).sz = (τ.H (1, d)).sz := by rw [hb]; rfl
  have hgr : (σ.H (C.l + 1, d)).g = (C.r γ).γ (1, d) + (τ.H (1, d)).g := by rw [hb]; rfl
  have h1 := RG.updK hr hG (1, d) ⟨(τ.H (1, d)).g, false, (τ.H (1, d)).e, (τ.H (1, d)).sz, (τ.H (1, d)).cells⟩ { σ.H (C.l + 1, d) with live := false } (fun e => by cases e) hgr (.inl rfl)
  rw [hr.own] at h1
  have h2 := Zpu hC cs (fun p hp => by
   obtain ⟨q1, q2, q3, _⟩ := hcs p hp
   refine ⟨q1, ?_⟩
   show (updH τ.H (1, d) _ p.1).live = true
   rw [Zal _ _ q2]
   exact q3) h1
  have h3 : RG (C.r γ) C.l C.outs [] ⟨ZvS js τ.s, Zt0 cs (updH τ.H (1, d) ⟨(τ.H (1, d)).g, false, (τ.H (1, d)).e, (τ.H (1, d)).sz, (τ.H (1, d)).cells⟩)⟩
    ⟨ZvS js σ.s, Zt0 (cs.map fun p => ((C.r γ).κ p.1, p.2)) (updH σ.H (C.l + 1, d) { σ.H (C.l + 1, d) with live := false })⟩ :=
   ⟨fun j => ⟨fun _ => Zlq js hs j, fun hn => absurd Zao hn⟩, h2.h, h2.g, h2.go, h2.k, h2.o⟩
  obtain ⟨τ', a', σ', k1, k2, k3⟩ := ZaH hC b h h3
  refine ⟨τ', a', σ', k1, k2, Wk.trans (fun act w hR => ?_) k3⟩
  obtain ⟨s, H⟩ := σ
  refine R.freeze hR (k := (C.l + 1, d)) (Nat.le_refl _) hlr (by rw [hszr]; omega) js (cs.map fun p => ((C.r γ).κ p.1, p.2)) hjs (fun p hp => ?_)
  obtain ⟨pp, hpp, rfl⟩ := List.mem_map.1 hp
  obtain ⟨q1, q2, q3, q4⟩ := hcs pp hpp
  obtain ⟨⟨p1, p2⟩, p3⟩ := pp
  simp only at q1 q2 q3 q4
  subst q1
  have hlv : (H ((C.r γ).κ (1, p2))).live = true := by have := hG.h _ q3; simp only at this; rw [this]; rfl
  exact ⟨by simp only; rw [hr.own]; intro e; simp at e; exact q2 (by rw [e]), by simp only; rw [hr.own]; exact Nat.le_refl _, hlv, q4⟩
 | .adc k i d e sz b, τ, σ, K, h, hG => by
  have hr := hC.ren γ
  simp only [ZeA] at h
  split at h
  case h_2 => exact h.elim
  rename_i hk hne hlv hc
  have hk := Nat.eq_of_beq_eq_true hk
  have hne : k ≠ (1, d) := fun e => by rw [Zbv.2 e] at hne; cases hne
  obtain ⟨k1, k2⟩ := k
  simp only at hk
  subst hk
  have hb := hG.h _ hlv
  have h1 := RG.updH hr hG (1, d) ⟨(τ.H (1, d)).g + 1, true, e, sz, []⟩ rfl (.inl rfl)
  have h2 := RG.updH hr h1 (1, k2) ⟨(τ.H (1, k2)).g, true, (τ.H (1, k2)).e, (τ.H (1, k2)).sz, (τ.H (1, k2)).cells.set i (.ref (1, d) ((τ.H (1, d)).g + 1) 0 0)⟩ rfl (.inl rfl)
  have e1 : ZbQ (C.r γ) (1, d) ⟨(τ.H (1, d)).g + 1, true, e, sz, []⟩ = ⟨(σ.H (C.l + 1, d)).g + 1, true, e, sz, []⟩ := by simp only [ZbQ, hG.g, Zav, Nat.add_assoc]
  have e2 : ZbQ (C.r γ) (1, k2) ⟨(τ.H (1, k2)).g, true, (τ.H (1, k2)).e, (τ.H (1, k2)).sz, (τ.H (1, k2)).cells.set i (.ref (1, d) ((τ.H (1, d)).g + 1) 0 0)⟩ =
    ⟨(σ.H (C.l + 1, k2)).g, (σ.H (C.l + 1, k2)).live, (σ.H (C.l + 1, k2)).e, (σ.H (C.l + 1, k2)).sz, (σ.H (C.l + 1, k2)).cells.set i (.ref (C.l + 1, d) ((σ.H (C.l + 1, d)).g + 1) 0 0)⟩ := by
   rw [hr.own] at hb
   rw [hb]
   simp only [ZbQ]
   rw [← ZlE]
   simp [ren, hr.own, hG.g, Nat.add_assoc]
  rw [e1, e2, hr.own, hr.own] at h2
  obtain ⟨τ', a', σ', j1, j2, j3⟩ := ZaH hC b h h2
  refine ⟨τ', a', σ', j1, j2, Wk.trans (fun act w hR => ?_) j3⟩
  obtain ⟨s, H⟩ := σ
  rw [Zct] at hc
  exact R.adoptC hR (k := (C.l + 1, d)) (kp := (C.l + 1, k2)) rfl rfl (fun e => by simp at e; exact hne (by rw [e])) (by rw [hr.own] at hb; simp only at hb; rw [hb]; rfl) (by rw [hr.own] at hb; simp only at hb; rw [hb]; simp only [ZbQ, Zem, hc]; simp [ren])
 | .ads j d e sz b, τ, σ, K, h, hG => by
  have hr := hC.ren γ
  simp only [ZeA] at h
  split at h
  case h_2 => exact h.elim
  rename_i he
  have hsj : σ.s j = .e0 := by rw [(hG.s j).1 Zao, Zk0 he]; simp [ren]
  have h1 := RG.updH hr hG (1, d) ⟨(τ.H (1, d)).g + 1, true, e, sz, []⟩ rfl (.inl rfl)
  have e1 : ZbQ (C.r γ) (1, d) ⟨(τ.H (1, d)).g + 1, true, e, sz, []⟩ = ⟨(σ.H (C.l + 1, d)).g + 1, true, e, sz, []⟩ := by simp only [ZbQ, hG.g, Zav, Nat.add_assoc]
  rw [e1, hr.own] at h1
  have h3 : RG (C.r γ) C.l C.outs [] ⟨upd τ.s j (.ref (1, d) ((τ.H (1, d)).g + 1) 0 0), updH τ.H (1, d) ⟨(τ.H (1, d)).g + 1, true, e, sz, []⟩⟩ ⟨upd σ.s j (.ref (C.l + 1, d) ((σ.H (C.l + 1, d)).g + 1) 0 0), updH σ.H (C.l + 1, d) ⟨(σ.H (C.l + 1, d)).g + 1, true, e, sz, []⟩⟩ :=
   ⟨fun i => ⟨fun _ => by
    simp only [upd]
    by_cases hi : i = j
    ·rw [if_pos hi, if_pos hi]; simp [ren, hr.own, hG.g, Nat.add_assoc]
    ·rw [if_neg hi, if_neg hi]; exact (hG.s i).1 Zao, fun hn => absurd Zao hn⟩, h1.h, h1.g, h1.go, h1.k, h1.o⟩
  obtain ⟨τ', a', σ', k1, k2, k3⟩ := ZaH hC b h h3
  refine ⟨τ', a', σ', k1, k2, Wk.trans (fun act w hR => ?_) k3⟩
  obtain ⟨s, H⟩ := σ
  exact R.adopt (e := e) (sz := sz) hR (C.l + 1, d) rfl _ (Nat.lt_succ_self _) hsj
 | .trim k c b, τ, σ, K, h, hG => by
  have hr := hC.ren γ
  simp only [ZeA] at h
  split at h
  case h_2 => exact h.elim
  rename_i hl
  obtain ⟨⟨m, hm⟩, h⟩ := h
  have hb := hG.h k hl
  have hko : ZeA (C.r γ) C.outs b ⟨τ.s, updH τ.H k ⟨(τ.H k).g, true, (τ.H k).e, (τ.H k).sz, c⟩⟩ K ∧ ZA0 (C.r γ) C.outs k := by
   unfold trK at h
   split at h
   ·rename_i hk; exact ⟨h, .inl (Nat.eq_of_beq_eq_true hk)⟩
   ·rcases hG.k k hl with h5 | ⟨_, h5⟩
    ·have := h.1.1; omega
    ·exact ⟨h.2, .inr ⟨h.1.1, h5, h.1.2⟩⟩
  obtain ⟨h, hko⟩ := hko
  have h1 := RG.updH hr hG k ⟨(τ.H k).g, true, (τ.H k).e, (τ.H k).sz, c⟩ rfl hko
  have e1 : ZbQ (C.r γ) k ⟨(τ.H k).g, true, (τ.H k).e, (τ.H k).sz, c⟩ = ⟨(σ.H ((C.r γ).κ k)).g, (σ.H ((C.r γ).κ k)).live, (σ.H ((C.r γ).κ k)).e, (σ.H ((C.r γ).κ k)).sz, (σ.H ((C.r γ).κ k)).cells.take m⟩ := by
   rw [hb]
   simp only [ZbQ, ZbM, hm]
  rw [e1] at h1
  obtain ⟨τ', a', σ', k1, k2, k3⟩ := ZaH hC b h h1
  refine ⟨τ', a', σ', k1, k2, Wk.trans (fun act w hR => ?_) k3⟩
  obtain ⟨s, H⟩ := σ
  have hle : ((C.r γ).κ k).1 ≤ C.l + 1 := by
   obtain ⟨k1, k2⟩ := k
   have := hko.lk
   simp only at this
   rcases this with rfl | ⟨rfl, h2⟩
   ·rw [hr.own]; exact Nat.le_refl _
   ·exact Nat.le_succ_of_le (hr.out k2 h2)
  exact R.trim hR hle (by have hb' := hb; simp only at hb'; rw [hb']; rfl) m
 | .reb j d m c b, τ, σ, K, h, hG => by
  have hr := hC.ren γ
  simp only [ZeA] at h
  split at h
  case h_2 => exact h.elim
  rename_i k q off n hsj
  split at h
  case h_2 => exact h.elim
  rename_i hkd hq
  have hk : k = (1, d) := Zbv.1 hkd
  subst hk
  obtain ⟨hq1, hl⟩ := Zb9 hq
  subst hq1
  obtain ⟨⟨hnm, hlen, hc⟩, h⟩ := h
  subst hc
  subst hnm
  have hb := hG.h (1, d) hl
  rw [hr.own] at hb
  have hlr : (σ.H (C.l + 1, d)).live = true := by rw [hb]; rfl
  have hszr : (σ.H (C.l + 1, d)).sz = (τ.H (1, d)).sz := by rw [hb]; rfl
  have hgr : (σ.H (C.l + 1, d)).g = (C.r γ).γ (1, d) + (τ.H (1, d)).g := by rw [hb]; rfl
  have hcr : (σ.H (C.l + 1, d)).cells = Zav (C.r γ) (τ.H (1, d)).cells := by rw [hb]; rfl
  have her : (σ.H (C.l + 1, d)).e = (τ.H (1, d)).e := by rw [hb]; rfl
  have hs : σ.s j = .ref (C.l + 1, d) (σ.H (C.l + 1, d)).g off n := by rw [(hG.s j).1 Zao, hsj]; simp only [ren]; rw [hr.own, hgr]
  have h1 := RG.updH hr hG (1, d) ⟨(τ.H (1, d)).g + 1, true, (τ.H (1, d)).e, (τ.H (1, d)).sz, (τ.H (1, d)).cells.drop (off * (τ.H (1, d)).sz)⟩ rfl (.inl rfl)
  have e1 : ZbQ (C.r γ) (1, d) ⟨(τ.H (1, d)).g + 1, true, (τ.H (1, d)).e, (τ.H (1, d)).sz, (τ.H (1, d)).cells.drop (off * (τ.H (1, d)).sz)⟩ = ⟨(σ.H (C.l + 1, d)).g + 1, true, (σ.H (C.l + 1, d)).e, (σ.H (C.l + 1, d)).sz, (σ.H (C.l + 1, d)).cells.drop (off * (σ.H (C.l + 1, d)).sz)⟩ := by
   simp only [ZbQ, hgr, her, hszr, hcr, ZbA, Nat.add_assoc]
  rw [e1, hr.own] at h1
  have h3 : RG (C.r γ) C.l C.outs [] ⟨upd τ.s j (.ref (1, d) ((τ.H (1, d)).g + 1) 0 n), updH τ.H (1, d) ⟨(τ.H (1, d)).g + 1, true, (τ.H (1, d)).e, (τ.H (1, d)).sz, (τ.H (1, d)).cells.drop (off * (τ.H (1, d)).sz)⟩⟩
    ⟨upd σ.s j (.ref (C.l + 1, d) ((σ.H (C.l + 1, d)).g + 1) 0 n), updH σ.H (C.l + 1, d) ⟨(σ.H (C.l + 1, d)).g + 1, true, (σ.H (C.l + 1, d)).e, (σ.H (C.l + 1, d)).sz, (σ.H (C.l + 1, d)).cells.drop (off * (σ.H (C.l + 1, d)).sz)⟩⟩ :=
   ⟨fun i => ⟨fun _ => by
    simp only [upd]
    by_cases hi : i = j
    ·rw [if_pos hi, if_pos hi]; simp only [ren]; rw [hr.own, hgr, Nat.add_assoc]
    ·rw [if_neg hi, if_neg hi]; exact (hG.s i).1 Zao, fun hn => absurd Zao hn⟩, h1.h, h1.g, h1.go, h1.k, h1.o⟩
  obtain ⟨τ', a', σ', k1, k2, k3⟩ := ZaH hC b h h3
  refine ⟨τ', a', σ', k1, k2, Wk.trans (fun act w hR => ?_) k3⟩
  obtain ⟨s, H⟩ := σ
  exact R.rebase hR (Nat.le_refl _) hlr hs (by rw [hszr, hcr, Za6]; exact hlen)
 | .mv d j b, τ, σ, K, h, hG => by
  have hr := hC.ren γ
  have hs : ∀ j, σ.s j = ren (C.r γ) (τ.s j) := fun j => (hG.s j).1 Zao
  simp only [ZeA] at h
  split at h
  case h_2 => exact h.elim
  rename_i hl
  obtain ⟨hf, ⟨hj, hno⟩, h⟩ := h
  have hb := hG.h _ hl
  have hbj := hG.go j hj
  rw [hr.own] at hb
  have hlr : (σ.H (C.l + 1, d)).live = true := by rw [hb]; rfl
  have hgr : (σ.H (C.l + 1, d)).g = (C.r γ).γ (1, d) + (τ.H (1, d)).g := by rw [hb]; rfl
  have h1 := RG.updK hr hG (1, d) ⟨(τ.H (1, d)).g, false, (τ.H (1, d)).e, (τ.H (1, d)).sz, (τ.H (1, d)).cells⟩ { σ.H (C.l + 1, d) with live := false } (fun e => by cases e) hgr (.inl rfl)
  rw [hr.own] at h1
  have h2 := RG.updH hr h1 (0, j) ⟨(τ.H (0, j)).g + 1, true, (τ.H (1, d)).e, (τ.H (1, d)).sz, (τ.H (1, d)).cells⟩ rfl (.inr ⟨rfl, hj, hno⟩)
  have e2 : ZbQ (C.r γ) (0, j) ⟨(τ.H (0, j)).g + 1, true, (τ.H (1, d)).e, (τ.H (1, d)).sz, (τ.H (1, d)).cells⟩ = { σ.H (C.l + 1, d) with g := (σ.H ((C.r γ).κ (0, j))).g + 1 } := by
   rw [hb]
   simp only [ZbQ, hbj, Nat.add_assoc]
  rw [e2] at h2
  have h3 : RG (C.r γ) C.l C.outs [] ⟨fun i => mvA (1, d) (0, j) (τ.H (1, d)).g ((τ.H (0, j)).g + 1) (τ.s i), updH (updH τ.H (1, d) ⟨(τ.H (1, d)).g, false, (τ.H (1, d)).e, (τ.H (1, d)).sz, (τ.H (1, d)).cells⟩) (0, j) ⟨(τ.H (0, j)).g + 1, true, (τ.H (1, d)).e, (τ.H (1, d)).sz, (τ.H (1, d)).cells⟩⟩
    ⟨fun i => ren (C.r γ) (mvA (1, d) (0, j) (τ.H (1, d)).g ((τ.H (0, j)).g + 1) (τ.s i)), updH (updH σ.H (C.l + 1, d) { σ.H (C.l + 1, d) with live := false }) ((C.r γ).κ (0, j)) { σ.H (C.l + 1, d) with g := (σ.H ((C.r γ).κ (0, j))).g + 1 }⟩ :=
   ⟨fun i => ⟨fun _ => rfl, fun hn => absurd Zao hn⟩, h2.h, h2.g, h2.go, h2.k, h2.o⟩
  obtain ⟨τ', a', σ', k1, k2, k3⟩ := ZaH hC b h h3
  refine ⟨τ', a', σ', k1, k2, Wk.trans (fun act w hR => ?_) k3⟩
  obtain ⟨s, H⟩ := σ
  refine R.handout hR (k := (C.l + 1, d)) rfl (hr.out j hj) hlr (by have hb' := hb; simp only at hb'; rw [hb']; exact ZkB hf) (fun i => ?_)
  have hsi := hs i
  simp only at hsi
  cases hx : τ.s i with
  | ref q g off c =>
   rw [hx] at hsi
   rw [ZyS]
   split
   ·rename_i hc
    obtain ⟨rfl, rfl⟩ := hc
    refine .inr ⟨off, c, ?_, ?_⟩
    ·rw [hsi]; simp only [ren]; rw [hr.own]; simp only at hgr; rw [hgr]
    ·simp only [ren]; simp only at hbj; rw [hbj, Nat.add_assoc]
   ·left; rw [hsi]
  | _ => left; rw [hsi, hx]; rfl
 | .nil, τ, σ, K, h, hG => ⟨τ, _, σ, h, hG, Wk.refl σ⟩
 | .sep _, τ, σ, K, h, hG => ⟨τ, _, σ, h, hG, Wk.refl σ⟩
 | .go _, τ, σ, K, h, hG => ⟨τ, _, σ, h, hG, Wk.refl σ⟩
 | .av _ _, τ, σ, K, h, hG => ⟨τ, _, σ, h, hG, Wk.refl σ⟩
 | .cs _ _, τ, σ, K, h, hG => ⟨τ, _, σ, h, hG, Wk.refl σ⟩
 | .ds _ _, τ, σ, K, h, hG => ⟨τ, _, σ, h, hG, Wk.refl σ⟩
 | .num _ _, τ, σ, K, h, hG => ⟨τ, _, σ, h, hG, Wk.refl σ⟩
 | .nat _ _, τ, σ, K, h, hG => ⟨τ, _, σ, h, hG, Wk.refl σ⟩
 | .call _ _ _, τ, σ, K, h, hG => ⟨τ, _, σ, h, hG, Wk.refl σ⟩
 | .callH _ _ _ _, τ, σ, K, h, hG => ⟨τ, _, σ, h, hG, Wk.refl σ⟩
 | .br _ _, τ, σ, K, h, hG => ⟨τ, _, σ, h, hG, Wk.refl σ⟩
 | .hard _ _ _ _ _, τ, σ, K, h, hG => ⟨τ, _, σ, h, hG, Wk.refl σ⟩
theorem Zbt (hC : CxOk C) (hT : TOk P T) (hm : P.follows .mixedOrders = true) {γ : Key → Nat} : ∀ (c : Code) (a : AT) (τ σ : St) (K : Exit → St → AT → Prop), Zc2 P T C.l n C.outs (C.r γ) c a τ K → RG (C.r γ) C.l C.outs [] τ σ →
  AWp P C.l n C.B c (ZFB n C γ K) σ
 | .skip, a, τ, σ, K, h, hG => Zuy ⟨τ, a, σ, h, hG, Wk.refl σ⟩
 | .ret, a, τ, σ, K, h, hG => by
  obtain ⟨τ', a', σ', h1, h2, h3⟩ := ZaH (n := n) hC a h hG
  exact AWp.weak (ZwU ⟨τ', a', σ', h1, h2, Wk.refl σ'⟩) h3
 | .exit id, a, τ, σ, K, h, hG => ZsR ⟨τ, a, σ, h, hG, Wk.refl σ⟩
 | .seq x y, a, τ, σ, K, h, hG => by
  have ih := Zbt hC hT hm x a τ σ _ h hG
  refine Ziy (ZcC ih fun e σ' hi => ?_)
  obtain ⟨τ', a', σ'', h1, h2, h3⟩ := hi
  cases e with
  | normal => exact AWp.weak (Zbt hC hT hm y a' τ' σ'' _ h1 h2) h3
  | _ => exact ⟨τ', a', σ'', h1, h2, h3⟩
 | .block id c, a, τ, σ, K, h, hG => by
  have ih := Zbt hC hT hm c a τ σ _ h hG
  refine Zjx (ZcC ih fun e σ' hi => ?_)
  obtain ⟨τ', a', σ'', h1, h2, h3⟩ := hi
  cases e with
  | exit i =>
   unfold Zl4
   simp only at h1 ⊢
   split at h1
   ·rename_i he; rw [if_pos (Nat.eq_of_beq_eq_true he)]; exact ⟨τ', a', σ'', h1, h2, h3⟩
   ·rename_i he; rw [if_neg (by rintro rfl; simp at he)]; exact ⟨τ', a', σ'', h1, h2, h3⟩
  | _ => exact ⟨τ', a', σ'', h1, h2, h3⟩
 | .cond c x y, a, τ, σ, K, h, hG => by
  have he : ∀ {b}, ev τ.s c = .d (.bool b) → ev σ.s c = .d (.bool b) := fun {b} hc => by rw [ZgM (c := []) hG Zao (by cases c <;> rfl), hc]; simp [ren]
  unfold Zc2 at h
  split at h
  ·rename_i b a1 a2 hc
   exact Zin (he hc) (fun e => Zbt hC hT hm x a1 τ σ K (h.1 e) hG) (fun e => Zbt hC hT hm y a2 τ σ K (h.2 e) hG)
  ·rename_i b a' hc
   refine Zin (he hc) (fun e => ?_) (fun e => ?_)
   ·subst e; exact Zbt hC hT hm x a' τ σ K h hG
   ·subst e; exact Zbt hC hT hm y a' τ σ K h hG
  ·exact h.elim
 | .region id ops draw, a, τ, σ, K, h, hG => by
  obtain ⟨opl, rfl⟩ : ∃ l : List Oper, ops = l.toArray := ⟨ops.toList, by simp⟩
  have fin : ∀ τ' env' a' σ', K .normal (Zoh env' τ') a' → RG (C.r γ) C.l C.outs env' τ' σ' → ZFB n C γ K .normal σ' := fun τ' env' a' σ' h1 h2 => by
   obtain ⟨σ'', h3, h4⟩ := Ze5 (n := n) h2
   exact ⟨_, a', σ'', h1, h3, h4⟩
  unfold Zc2 at h
  split at h
  ·obtain ⟨τ₁, a₁, σ₁, h, hG, hw⟩ := ZaH (n := n) hC a h hG
   refine AWp.weak ?_ hw
   intro act w hR
   have := Zc5 (hC.ren γ) hT (ops := opl.toArray) (B := C.B) (K := fun τ' env a' => K .normal (Zoh env τ') a') (QQ := fun e a' w' => ∃ σ', ZFB n C γ K e σ' ∧ R C.l n C.B σ' a' w') [] (fun τ' env' a' σ' act' w' h1 h2 h3 => by
    unfold wpList
    exact ⟨σ', fin _ _ _ _ h1 h2, h3⟩) opl [] a₁ τ₁ σ₁ act w (by simpa using h) hG hR
   rw [List.append_nil] at this
   exact wp_region_lit this
  ·split at h
   case h_2 => exact h.elim
   rename_i hb
   simp only [Bool.and_eq_true] at hb
   obtain ⟨τ₁, a₁, σ₁, h, hG, hw⟩ := ZaH (n := n) hC a h hG
   refine AWp.weak ?_ hw
   refine Zn6 hm (Znz (by simpa using hb.1.1)) (by simpa using hb.1.2) (by simpa using hb.2) (ZfI opl (fun σ' hq => ?_) (ZfU (hC.ren γ) (l := C.l) (r := C.r γ) (outs := C.outs) (K := fun τ' env a' => K .normal (Zoh env τ') a') hT opl [] a₁ τ₁ σ₁ (by simpa using hb.1.2) (by simpa using h) hG))
   obtain ⟨τ', env', a', h1, h2⟩ := hq
   exact fin _ _ _ _ h1 h2
 | .loop _, a, τ, σ, K, h, hG => h.elim
 | .rangeFunc _ _ _ _, a, τ, σ, K, h, hG => h.elim
 | .scope _, a, τ, σ, K, h, hG => h.elim
 | .label _, a, τ, σ, K, h, hG => h.elim
 | .goto _, a, τ, σ, K, h, hG => h.elim
 | .refuse _, a, τ, σ, K, h, hG => h.elim
theorem ZD5 (hC : CxOk C) (hT : TOk P T) (hm : P.follows .mixedOrders = true) {c : Code} {a : AT} (K : (Key → Nat) → Exit → St → AT → Prop) (h : ∀ γ, Zc2 P T C.l n C.outs (C.r γ) c a τ (K γ))
  (hk : ∀ γ e τ' a' σ', C.G γ → K γ e τ' a' → RG (C.r γ) C.l C.outs [] τ' σ' → Is n C (Q e) σ') : LW P n C c τ Q := by
 intro γ σ hg hG
 refine ZcC (Zbt hC hT hm c a τ σ (K γ) (h γ) hG) fun e σ' hi => ?_
 obtain ⟨τ', a', σ'', h1, h2, h3⟩ := hi
 obtain ⟨γ', τ₂, σ₂, k0, k1, k2, k3⟩ := hk γ e τ' a' σ'' hg h1 h2
 exact ⟨γ', τ₂, σ₂, k0, k1, k2, h3.trans k3⟩
theorem ZBW (hC : CxOk C) (hT : TOk P T) (hm : P.follows .mixedOrders = true) {c : Code} (a : AT) {rs : List ResultVar} {Post : AV → List Blk → Prop} (h : ∀ γ, Zc2 P T C.l n C.outs (C.r γ) c a τ (KF T rs C.outs Post)) : LW P n C c τ (FQ T rs C.outs Post) :=
 ZD5 hC hT hm (fun _ => KF T rs C.outs Post) h fun γ e τ' a' σ' hg hk hG => .of hg hG (by
  cases e <;> simp only [KF] at hk
  ·exact ⟨.inl rfl, a', hk⟩
  ·exact ⟨.inr rfl, a', hk⟩)
theorem ZBg (hC : CxOk C) (hT : TOk P T) (hm : P.follows .mixedOrders = true) {c : Code} (a : AT) (lf lx : Lf) {rs : List ResultVar} {Post : AV → List Blk → Prop} (hQ : ∀ τ, FQ T rs C.outs Post .ret τ → Q .ret τ) (h : ∀ γ, Zc2 P T C.l n C.outs (C.r γ) c a τ (KB T rs C.outs C.fx (C.r γ) Post lf lx Q)) : LW P n C c τ Q :=
 ZD5 hC hT hm (fun γ => KB T rs C.outs C.fx (C.r γ) Post lf lx Q) h fun γ e τ' a' σ' hg hk hG => by
  cases e <;> simp only [KB] at hk
  ·obtain ⟨τ₁, a₁, σ₁, k1, k2, k3⟩ := ZaH (n := n) hC a' hk hG
   obtain ⟨γ', τ₂, σ₂, j0, j1, j2, j3⟩ := Zcj (n := n) hC k1 hg k2
   exact ⟨γ', τ₂, σ₂, j0, j1, j2, k3.trans j3⟩
  ·obtain ⟨τ₁, a₁, σ₁, k1, k2, k3⟩ := ZaH (n := n) hC a' hk hG
   obtain ⟨γ', τ₂, σ₂, j0, j1, j2, j3⟩ := Zcj (n := n) hC k1 hg k2
   exact ⟨γ', τ₂, σ₂, j0, j1, j2, k3.trans j3⟩
  ·exact .of hg hG (hQ _ ⟨.inr rfl, a', hk⟩)
theorem Zps {sz : Nat} : ∀ {es : List (List D)} {i j : Nat} {e : List D} {d : D}, (∀ e ∈ es, e.length = sz) → es[i]? = some e → e[j]? = some d → es.flatten[i * sz + j]? = some d
 | [], i, j, e, d, h, hi, hj => by simp at hi
 | f :: es, 0, j, e, d, h, hi, hj => by
  simp only [List.getElem?_cons_zero, Option.some.injEq] at hi
  subst hi
  rw [List.flatten_cons, Nat.zero_mul, Nat.zero_add, List.getElem?_append_left]
  ·exact hj
  ·rcases Nat.lt_or_ge j f.length with hlt | hge
   ·exact hlt
   ·rw [List.getElem?_eq_none hge] at hj; cases hj
 | f :: es, i + 1, j, e, d, h, hi, hj => by
  have hf := h f (List.mem_cons_self ..)
  rw [List.flatten_cons, List.getElem?_append_right (by rw [hf, Nat.add_mul]; omega), hf, show (i + 1) * sz + j - sz = i * sz + j from by rw [Nat.add_mul]; omega]
  exact Zps (fun e he => h e (List.mem_cons_of_mem _ he)) (by simpa using hi) hj
mutual
theorem Zq6 (hC : CxOk C) {γ : Key → Nat} {H H' : Hp} (hH : Zle (C.r γ) H H') (hk : ∀ k, (H k).live = true → k.1 = 1 ∨ (k.1 = 0 ∧ k.2 < C.outs)) : ∀ (x : AV) {a : AT} {K : AV → AT → Prop}, frz H x a K → ∃ y a', Fz H' C.l (ren (C.r γ) x) (ren (C.r γ) y) ∧ (C.outs = 0 → ∀ r, ren r y = y) ∧ K y a'
 | .d x, a, K, h => ⟨.d x, a, by simp only [ren]; exact .keep _ rfl, fun _ r => by simp [ren], h⟩
 | .e0, a, K, h => ⟨.d (.list []), a, by simp only [ren]; exact .e0, fun _ r => by simp [ren], h⟩
 | .agg xs, a, K, h => by
  obtain ⟨ys, a', h1, h0, h2⟩ := Ze6 hC hH hk xs h
  exact ⟨.agg ys, a', by simp only [ren]; exact .agg _ _ h1.1 h1.2, fun e r => by simp only [ren]; rw [h0 e r], h2⟩
 | .ref k g off m, a, K, h => by
  unfold frz at h
  split at h
  ·rename_i hk0 hl
   have hk0 := Nat.eq_of_beq_eq_true hk0
   have hlt : k.2 < C.outs := by
    rcases hk k (Zb9 hl).2 with h1 | h1
    ·omega
    ·exact h1.2
   obtain ⟨k1, k2⟩ := k
   simp only at hk0 hlt
   subst hk0
   exact ⟨.ref (0, k2) g off m, a, by simp only [ren]; exact .keep _ (decide_eq_true (hC.out k2 hlt)), fun e => by omega, h⟩
  ·rename_i _ hk hl
   split at h
   case h_2 => exact h.elim
   rename_i es a'
   obtain ⟨⟨h1, h2, h3, h4, h5⟩, h6⟩ := h
   have hk := Nat.eq_of_beq_eq_true hk
   obtain ⟨g1, g2, g3, g4, g5⟩ := hH.at hl
   obtain ⟨k1, k2⟩ := k
   simp only at hk
   subst hk
   refine ⟨.d (.list es), a', ?_, fun _ r => by simp [ren], h6⟩
   simp only [ren]
   rw [g1]
   have hκ : (C.r γ).κ (1, k2) = (C.l + 1, k2) := hC.own k2
   refine .ref _ off m es (by rw [hκ]) g2 h1 (by rw [g4]; exact h2) (by rw [g4]; exact h3) (by rw [g4, g5, Za6]; exact h4) (fun i j e d x hi hj hx => ?_)
   have hil : i < m := by
    rw [← h1]
    rcases Nat.lt_or_ge i es.length with h | h
    ·exact h
    ·rw [List.getElem?_eq_none h] at hi; cases hi
   have hjl : j < (H (1, k2)).sz := by
    rw [← h3 e (List.mem_of_getElem? hi)]
    rcases Nat.lt_or_ge j e.length with h | h
    ·exact h
    ·rw [List.getElem?_eq_none h] at hj; cases hj
   have e1 := Zps h3 hi hj
   have hlt : i * (H (1, k2)).sz + j < m * (H (1, k2)).sz := by
    have : (i + 1) * (H (1, k2)).sz ≤ m * (H (1, k2)).sz := Nat.mul_le_mul_right _ hil
    rw [Nat.add_mul] at this
    omega
   have e2 : (H (1, k2)).cells[(off + i) * (H (1, k2)).sz + j]? = some (.d d) := by
    have := congrArg (fun l => l[i * (H (1, k2)).sz + j]?) h5
    simp only [List.getElem?_take, if_pos hlt, List.getElem?_drop, List.getElem?_map, e1, Option.map_some] at this
    rw [← this, Nat.add_mul, Nat.add_assoc]
   rw [g4, g5, Zem, e2] at hx
   simp only [Option.map_some, ren, Option.some.injEq] at hx
   subst hx
   exact .keep _ rfl
  ·exact h.elim
 | .top, a, K, h => by simp only [frz] at h
 | .p _, a, K, h => by simp only [frz] at h
 | .ptr _ _ _, a, K, h => by simp only [frz] at h
 | .iptr _ _, a, K, h => by simp only [frz] at h
 | .fn _ _ _, a, K, h => by simp only [frz] at h
 | .tup _, a, K, h => by simp only [frz] at h
theorem Ze6 (hC : CxOk C) {γ : Key → Nat} {H H' : Hp} (hH : Zle (C.r γ) H H') (hk : ∀ k, (H k).live = true → k.1 = 1 ∨ (k.1 = 0 ∧ k.2 < C.outs)) : ∀ (xs : List AV) {a : AT} {K : List AV → AT → Prop}, ZvD H xs a K →
  ∃ ys a', ((Zav (C.r γ) xs).length = (Zav (C.r γ) ys).length ∧ ∀ (i : Nat) (x y : AV), (Zav (C.r γ) xs)[i]? = some x → (Zav (C.r γ) ys)[i]? = some y → Fz H' C.l x y) ∧ (C.outs = 0 → ∀ r, Zav r ys = ys) ∧ K ys a'
 | [], a, K, h => ⟨[], a, ⟨by simp [Zav], fun i x y hx => by simp [Zav] at hx⟩, fun _ r => by simp [Zav], h⟩
 | x :: xs, a, K, h => by
  simp only [ZvD] at h
  obtain ⟨y, a', h1, e1, h2⟩ := Zq6 hC hH hk x h
  obtain ⟨ys, a'', h3, e3, h4⟩ := Ze6 hC hH hk xs h2
  refine ⟨y :: ys, a'', ⟨by simp [Zav, h3.1], fun i x' y' hx hy => ?_⟩, fun e r => by simp only [Zav]; rw [e1 e r, e3 e r], h4⟩
  cases i with
  | zero => simp only [Zav, List.getElem?_cons_zero, Option.some.injEq] at hx hy; subst hx; subst hy; exact h1
  | succ i => simp only [Zav, List.getElem?_cons_succ] at hx hy; exact h3.2 i x' y' hx hy
end
theorem ZpA (hT : TOk P T) {γ : Key → Nat} (hG : RG (C.r γ) C.l C.outs [] τ σ) {v : ResultVar} {K : AV → Prop} (h : ldR T τ v K) : ∃ x, K x ∧ ∀ rs (K' : List AV → Prop), Zmc P σ rs (fun xs => K' (ren (C.r γ) x :: xs)) → Zmc P σ (v :: rs) K' := by
 cases v with
 | tmp t => exact ⟨_, h, fun rs K' h' => by unfold Zmc; rw [(hG.s t).1 Zao]; exact h'⟩
 | cell p t =>
  simp only [ldR] at h
  split at h
  case h_2 => exact h.elim
  rename_i k g off i hp hi
  have hp' : σ.s p = ren (C.r γ) (.ptr k g off) := by rw [(hG.s p).1 Zao, hp]
  split at h
  ·rename_i hl hag
   split at h
   case h_2 => exact h.elim
   rename_i c h1 h2
   refine ⟨_, h, fun rs K' h' => ?_⟩
   have := Zeg (a := .go .nil) (g := none) (K := fun v _ => v = .agg c) (hT _ _ hi) hG.h (fun b e => by cases e) (x := .ptr k g off) (by simp only [ZnK, hl, hag, h1, h2])
   unfold Zmc
   rw [hp']
   refine ZgE (fun y hy => ?_) this
   obtain ⟨v, a', rfl, rfl⟩ := hy
   exact h'
  ·rename_i hl hag
   split at h
   case h_2 => exact h.elim
   rename_i c hc
   refine ⟨_, h, fun rs K' h' => ?_⟩
   have := Zeg (a := .go .nil) (g := none) (K := fun v _ => v = c) (hT _ _ hi) hG.h (fun b e => by cases e) (x := .ptr k g off) (by simp only [ZnK, hl, hag, hc])
   unfold Zmc
   rw [hp']
   refine ZgE (fun y hy => ?_) this
   obtain ⟨v, a', rfl, rfl⟩ := hy
   exact h'
  ·exact h.elim
theorem Zhy (hT : TOk P T) {γ : Key → Nat} (hG : RG (C.r γ) C.l C.outs [] τ σ) : ∀ (rs : List ResultVar) {K : List AV → Prop}, ZFF T τ rs K → ∃ xs, K xs ∧ ∀ K' : List AV → Prop, K' (Zav (C.r γ) xs) → Zmc P σ rs K'
 | [], K, h => ⟨[], h, fun K' h' => by unfold Zmc; simpa [Zav] using h'⟩
 | v :: rs, K, h => by
  obtain ⟨x, h1, h2⟩ := ZpA hT hG h
  obtain ⟨xs, h3, h4⟩ := Zhy hT hG rs h1
  exact ⟨x :: xs, h3, fun K' h' => h2 rs K' (h4 _ (by simpa [Zav] using h'))⟩
structure OutsOk (C : Cx) (γ : Key → Nat) (bs : List Blk) (H' : Hp) : Prop where
 len : bs.length = C.outs
 g : ∀ i b, bs[i]? = some b → (H' (C.κ (0, i))).g = γ (0, i) + b.g
 live : ∀ i b, bs[i]? = some b → b.live = true → H' (C.κ (0, i)) = ZbQ (C.r γ) (0, i) b
 o : ∀ k : Key, ¬ C.no k → H' k = C.H0 k
theorem ZhZ {H : Hp} : ∀ (n i j : Nat), (Zj3 H n i)[j]? = if j < n then some (H (0, i + j)) else none
 | 0, i, j => by simp [Zj3]
 | n + 1, i, 0 => by simp [Zj3]
 | n + 1, i, j + 1 => by
  simp only [Zj3, List.getElem?_cons_succ, ZhZ n (i + 1) j]
  by_cases h : j < n
  ·rw [if_pos h, if_pos (by omega), show i + 1 + j = i + (j + 1) from by omega]
  ·rw [if_neg h, if_neg (by omega)]
theorem ZjJ {H : Hp} : ∀ (n i : Nat), (Zj3 H n i).length = n
 | 0, i => rfl
 | n + 1, i => by simp [Zj3, ZjJ n]
theorem ZAM (hC : CxOk C) (hT : TOk P T) {rs : List ResultVar} {LPost : AV → List Blk → Prop} {Post : AV → Hp → Prop} {e : Exit} (hp : ∀ γ y bs H', C.G γ → LPost y bs → OutsOk C γ bs H' → (C.outs = 0 → ∀ r, ren r y = y) → Post (ren (C.r γ) y) H')
  (h : Is n C (FQ T rs C.outs LPost e) σ) : ∃ σ', fins P C.l C.H0 rs Post e σ' ∧ Wk n C σ σ' := by
 obtain ⟨γ, τ, σ', hg, ⟨h1, a, h2⟩, hG, hw⟩ := h
 refine ⟨σ', ⟨h1, ?_⟩, hw⟩
 obtain ⟨xs, h3, h4⟩ := Zhy (P := P) hT hG rs h2
 obtain ⟨ys, a', h5, h0, h6⟩ := Ze6 hC hG.h hG.k xs h3
 refine h4 _ ⟨ren (C.r γ) (ZkY ys), ?_, ?_⟩
 ·have hl := h5.1
  have h5 := h5.2
  have e1 : ren (C.r γ) (ZkY ys) = ZkY (Zav (C.r γ) ys) := by
   match ys with
   | [] => simp [ZkY, ren, Zav]
   | [y] => simp [ZkY, Zav]
   | y :: y' :: ys => simp [ZkY, ren, Zav]
  rw [e1]
  generalize Zav (C.r γ) ys = zs' at hl h5
  generalize Zav (C.r γ) xs = zs at hl h5
  match zs, zs', hl with
  | [], [], _ => exact .tup _ _ rfl fun i x y hx => by simp at hx
  | [x], [y], _ => exact h5 0 x y rfl rfl
  | x :: x' :: zs, y :: y' :: ys, hl => exact .tup _ _ hl h5
 ·refine hp γ _ _ _ hg h6 ⟨ZjJ _ _, fun i b hi => ?_, fun i b hi hb => ?_, fun k hk => ?_⟩ (fun e r => ?_)
  ·rw [ZhZ] at hi
   split at hi
   ·rename_i hlt
    simp only [Nat.zero_add, Option.some.injEq] at hi
    subst hi
    rw [show mrg C.l σ'.H C.H0 (C.κ (0, i)) = σ'.H (C.κ (0, i)) from if_pos (hC.out i hlt)]
    exact hG.go i hlt
   ·cases hi
  ·rw [ZhZ] at hi
   split at hi
   ·rename_i hlt
    simp only [Nat.zero_add, Option.some.injEq] at hi
    subst hi
    rw [show mrg C.l σ'.H C.H0 (C.κ (0, i)) = σ'.H (C.κ (0, i)) from if_pos (hC.out i hlt)]
    exact hG.h _ hb
   ·cases hi
  ·unfold mrg
   split
   ·rename_i hk'; exact hG.o k hk' hk
   ·rfl
  ·have := h0 e r
   match ys with
   | [] => simp [ZkY, ren, Zav]
   | [y] => simp only [Zav, List.cons.injEq, and_true] at this; simpa [ZkY] using this
   | y :: y' :: ys => simp only [ZkY, ren, this]
def Zom : Nat → List AV → List (Nat × AV)
 | _, [] => []
 | i, x :: xs => (i, x) :: Zom (i + 1) xs
theorem Zq1 {r : Ren} : ∀ (ys : List AV) (i j : Nat), ren r (lkS (Zom i ys) (i + j)) = args (Zav r ys) j
 | [], i, j => by simp [Zom, lkS, ren, Zav, args]
 | y :: ys, i, 0 => by simp [Zom, lkS, Zav, args]
 | y :: ys, i, j + 1 => by
  have ih := Zq1 (r := r) ys (i + 1) j
  simp only [Zom, lkS]
  split
  ·rename_i h; have := Nat.eq_of_beq_eq_true h; omega
  ·rw [show i + (j + 1) = i + 1 + j from by omega, ih]
   simp [args, Zav]
theorem ZlZ {f : FuncId} {fn : Func} (rs : List ResultVar) {c : Code} {l : Nat} {xs : List AV} {H : Hp} {Post : AV → Hp → Prop} {LPost : AV → List Blk → Prop} (C : Base → Cx) {γ : Key → Nat} {ys : List AV} {hs : List (Key × Blk)}
  (hf : P.funcs[f]? = some fn) (hb : fn.body = some c) (hname : (fn.name == "runtime.NumGoroutine") = false) (hn : fn.ntmps = n) (hr : fn.results.toList = rs) (hx : xs.length ≤ n) (hT : TOk P T)
  (hC : ∀ B, CxOk (C B)) (hB : ∀ B, (C B).l = l ∧ (C B).B = B ∧ (C B).H0 = H ∧ (C B).G γ) (hxs : ∀ B, Zav ((C B).r γ) ys = xs) (hγ : ∀ d, γ (1, d) = 0) (hh : ∀ d, lkH hs (1, d) = Zqk)
  (hhs : ∀ B k, (lkH hs k).live = true → k.1 = 0 ∧ k.2 < (C B).outs ∧ H ((C B).κ k) = ZbQ ((C B).r γ) k (lkH hs k)) (hgs : ∀ B i, i < (C B).outs → (H ((C B).κ (0, i))).g = γ (0, i) + (lkH hs (0, i)).g)
  (hp : ∀ B γ y bs H', (C B).G γ → LPost y bs → OutsOk (C B) γ bs H' → ((C B).outs = 0 → ∀ r, ren r y = y) → Post (ren ((C B).r γ) y) H')
  (h : ∀ B : Base, LW P n (C B) c (mkS (Zom 0 ys) hs) (FQ T rs (C B).outs LPost)) : Zcu P f l xs H Post := by
 refine Zul rs hf hb hname hn hr hx fun B => ?_
 obtain ⟨hl, hBB, hH0, hg⟩ := hB B
 have hG : RG ((C B).r γ) (C B).l (C B).outs [] (mkS (Zom 0 ys) hs) ⟨args xs, clr l H⟩ := by
  refine ⟨fun j => ⟨fun _ => ?_, fun hn => absurd Zao hn⟩, fun k hk => ?_, fun d => ?_, fun i hi => ?_, fun k hk => .inr ⟨(hhs B k hk).1, (hhs B k hk).2.1⟩, fun k hk _ => ?_⟩
  ·have := Zq1 (r := (C B).r γ) ys 0 j
   rw [Nat.zero_add, hxs] at this
   exact this.symm
  ·obtain ⟨h1, h2, h3⟩ := hhs B k hk
   show clr l H ((C B).κ k) = _
   obtain ⟨k1, k2⟩ := k
   simp only at h1 h2
   subst h1
   rw [ZqS (by rw [← hl]; exact (hC B).out _ h2)]
   exact h3
  ·show (clr l H ((C B).l + 1, d)).g = γ (1, d) + (lkH hs (1, d)).g
   rw [hl, ZwR, hγ, hh]
   rfl
  ·show (clr l H ((C B).κ (0, i))).g = γ (0, i) + (lkH hs (0, i)).g
   rw [ZqS (by rw [← hl]; exact (hC B).out _ hi)]
   exact hgs B i hi
  ·show clr l H k = (C B).H0 k
   rw [hH0]
   exact ZqS (by rw [← hl]; exact hk)
 have := h B γ _ hg hG
 intro act w hR
 rw [hl, hBB] at this
 refine wp_mono (this act w hR) fun e a' w' ⟨σ', hq, hR'⟩ => ?_
 obtain ⟨σ'', h1, h2⟩ := ZAM (P := P) (hC B) hT (hp B) hq
 rw [hl, hH0] at h1
 have h3 := h2 act w
 refine ⟨σ'', h1, ?_⟩
 have h4 := h2 a' w'
 rw [hl, hBB] at h4
 exact h4 hR'
end
end Go.Eng
namespace Go.Eng
set_option linter.all false
open Go Go.RowKit
def lkT : List (Nat × TI) → Nat → Option TI
 | [], _ => none
 | (i, x) :: r, j => match Nat.beq i j with | true => some x | false => lkT r j
theorem ZvB {P : Program} : ∀ (tl : List (Nat × TI)), (∀ p ∈ tl, TIok P p.1 p.2) → TOk P (lkT tl)
 | [], _, t, i, h => by simp [lkT] at h
 | (j, x) :: r, hp, t, i, h => by
  simp only [lkT] at h
  split at h
  ·rename_i he
   have he := Nat.eq_of_beq_eq_true he
   cases h
   subst he
   exact hp _ (List.mem_cons_self ..)
  ·exact ZvB r (fun p hp' => hp p (List.mem_cons_of_mem _ hp')) t i h
theorem TIok.of {P : Program} {t : TypeId} {i : TI} (h1 : Zm3 P t = some i.agg) (h2 : Go.Eng.kin P t = i.kin) (h3 : P.cellsOf t = i.siz) (h4 : i.elm = none ∨ Go.Eng.elm P t = i.elm)
  (h5 : ((List.range i.fld.length).map fun j => (Go.Eng.fld P t j, ZDI P t j)) = i.fld.map fun x => (some (x.1, x.2.1), some x)) (h6 : i.zer = none ∨ Go.Eng.zer P t = i.zer) (h7 : i.eqt = none ∨ eqT P t = i.eqt) (h8 : i.str = false ∨ ZEy P t = true)
  (h9 : i.ik = none ∨ P.underlying t = i.ik.map .int) (h10 : i.byt = none ∨ (∃ b, P.bytesOf t ≤ b ∧ P.bytesOf t ≠ 0 ∧ i.byt = some b)) (h11 : i.zer = none ∨ (i.zer.getD []).all AV.flat = true) : TIok P t i where
 agg := h1
 kin := h2
 siz := h3
 elm := fun e h => by rcases h4 with h' | h' <;> rw [h] at h' <;> first | exact h' | cases h'
 fld := fun j x h => by
  have := congrArg (fun l => l[j]?) h5
  have hlt : j < i.fld.length := by
   rcases Nat.lt_or_ge j i.fld.length with h' | h'
   ·exact h'
   ·rw [List.getElem?_eq_none h'] at h; cases h
  simp only [List.getElem?_map, h, Option.map_some, List.getElem?_range hlt, Option.some.injEq, Prod.mk.injEq] at this
  exact this
 zer := fun e h => by rcases h6 with h' | h' <;> rw [h] at h' <;> first | exact h' | cases h'
 eqt := fun e h => by rcases h7 with h' | h' <;> rw [h] at h' <;> first | exact h' | cases h'
 str := fun h => by rcases h8 with h' | h' <;> first | exact h' | (rw [h] at h'; cases h')
 ik := fun e h => by rcases h9 with h' | h' <;> rw [h] at h' <;> first | exact h' | cases h'
 byt := fun e h => by
  rcases h10 with h' | ⟨b, h1, h2, h'⟩ <;> rw [h] at h'
  ·cases h'
  ·cases h'; exact ⟨h1, h2⟩
 flt := fun z h => by rcases h11 with h' | h' <;> rw [h] at h' <;> first | exact h' | cases h'
def cxP (l : Nat) (θ : Nat → AV) (H : Hp) (B : Base) : Cx := ⟨l, B, fun k => (l + 1, k.2), θ, H, 0, fun _ => False, [], fun _ => True⟩
theorem Zkc (l : Nat) (B : Base) (θ : Nat → AV) (H : Hp) : CxOk (cxP l θ H B) := ⟨fun _ => rfl, fun i h => absurd h (Nat.not_lt_zero _), fun i j h => absurd h (Nat.not_lt_zero _), fun _ h => h.elim, fun _ _ _ h => h⟩
theorem Zsw {l : Nat} {θ : Nat → AV} {H : Hp} {B : Base} {γ : Key → Nat} {bs : List Blk} {H' : Hp} (h : OutsOk (cxP l θ H B) γ bs H') : H' = H := funext fun k => h.o k id
end Go.Eng
