import Derived.Test.YthagpbkmakocjaaGreatCz08
import Derived.Test.YthagpbkmakocjaaGreatCz00
namespace Go.Eng
set_option linter.all false
open Go Go.RowKit
section
variable {P : Program} {T : Nat → Option TI} {n : Nat} {C : Cx} {τ σ : St} {Q : Exit → St → Prop}
theorem Wk.refl (σ : St) : Wk n C σ σ := fun _ _ h => h
theorem Wk.trans {σ σ' σ'' : St} (h : Wk n C σ σ') (k : Wk n C σ' σ'') : Wk n C σ σ'' := fun a w hR => k a w (h a w hR)
theorem R.weaken {l : Nat} {B : Base} {s s' : Nat → AV} {H : Hp} {act : Act} {w : World} (h : R l n B ⟨s, H⟩ act w) (hs : ∀ j, s' j = s j ∨ s' j = .top) : R l n B ⟨s', H⟩ act w := by
 obtain ⟨m, S, hO, hn, hdf, hS, hex⟩ := h.un
 refine ⟨m, S, hO, hn, hdf, fun i => ?_, hex⟩
 show RepA w S H m (l + 1) (s' i) _
 rcases hs i with e | e
 ·rw [e]; exact hS i
 ·rw [e]; exact .top _
theorem Is.mono {Φ Ψ : St → Prop} (h : Is n C Φ σ) (hk : ∀ τ, Φ τ → Ψ τ) : Is n C Ψ σ := by
 obtain ⟨γ, τ, σ', h0, h1, h2, h3⟩ := h; exact ⟨γ, τ, σ', h0, hk _ h1, h2, h3⟩
theorem AWp.weak {c : Code} {QQ : Exit → St → Prop} {σ' : St} (h : AWp P C.l n C.B c QQ σ') (hw : Wk n C σ σ') : AWp P C.l n C.B c QQ σ := fun a w hR => h a w (hw a w hR)
theorem Zxn.weak {c : Code} {QQ : Exit → St → Prop} {σ' : St} (h : Zxn P C.l n C.B c QQ σ') (hw : Wk n C σ σ') : Zxn P C.l n C.B c QQ σ := fun a w hR => h a w (hw a w hR)
theorem LW.mono {c : Code} {Q' : Exit → St → Prop} (h : LW P n C c τ Q) (hk : ∀ e τ, Q e τ → Q' e τ) : LW P n C c τ Q' := fun γ σ hg hG => Zdk (h γ σ hg hG) fun e σ' hi => hi.mono (hk e)
theorem ZF0 {x y : Code} (h : LW P n C x τ (fun e τ' => match e with | .normal => LW P n C y τ' Q | e => Q e τ')) : LW P n C (.seq x y) τ Q := by
 intro γ σ hg hG
 refine ZiX (Zdk (h γ σ hg hG) fun e σ' hi => ?_)
 cases e with
 | normal =>
  obtain ⟨γ', τ', σ'', h0, h1, h2, h3⟩ := hi
  exact AWp.weak (h1 γ' σ'' h0 h2) h3
 | _ => exact hi
theorem ZxV {id : Nat} {c : Code} (h : LW P n C c τ (fun e τ' => match e with | .exit i => if i = id then Q .normal τ' else Q (.exit i) τ' | e => Q e τ')) : LW P n C (.block id c) τ Q := by
 intro γ σ hg hG
 refine Zj0 (Zdk (h γ σ hg hG) fun e σ' hi => ?_)
 cases e with
 | exit i =>
  unfold ZnS
  simp only at hi ⊢
  split
  ·rename_i he; exact hi.mono fun τ' h => by rw [if_pos he] at h; exact h
  ·rename_i he; exact hi.mono fun τ' h => by rw [if_neg he] at h; exact h
 | _ => exact hi
theorem ZEt {c : Operand} {x y : Code} {b : Bool} (hc : ev τ.s c = .d (.bool b)) (h1 : b = true → LW P n C x τ Q) (h2 : b = false → LW P n C y τ Q) : LW P n C (.cond c x y) τ Q := by
 intro γ σ hg hG
 have he : ev σ.s c = .d (.bool b) := by
  rw [Zg0 (c := []) hG Zak (by cases c <;> rfl), hc]; simp [ren]
 exact Zjc he (fun e => h1 e γ σ hg hG) (fun e => h2 e γ σ hg hG)
theorem ZE1 {c : Code} (h : LL P n C c τ Q) : LW P n C (.loop c) τ Q := by
 intro γ σ hg hG a w hR b k cs
 obtain ⟨e, a', w', h1, h2⟩ := h γ σ hg hG a w hR b k cs
 exact ⟨e, a', w', h1, .of_steps (.one step_loop) h2⟩
theorem ZwC {c : Code} (h : LW P n C c τ (fun e τ' => match e with | .normal => LL P n C c τ' Q | e => Q e τ')) : LL P n C c τ Q := by
 intro γ σ hg hG a w hR b k cs
 obtain ⟨e, a₁, w₁, ⟨σ₁, hq, hR₁⟩, harr⟩ := h γ σ hg hG a w hR b (.inLoop c :: k) cs
 cases e with
 | normal =>
  obtain ⟨γ', τ', σ'', h0, h1, h2, h3⟩ := hq
  obtain ⟨e₂, a₂, w₂, hq₂, harr₂⟩ := h1 γ' σ'' h0 h2 a₁ w₁ (h3 _ _ hR₁) b k cs
  exact ⟨e₂, a₂, w₂, hq₂, .of_steps (Steps.trans harr (.one step_inLoop)) harr₂⟩
 | exit id => exact ⟨_, a₁, w₁, ⟨σ₁, hq, hR₁⟩, .pass (x := .inLoop c) rfl (fun _ _ => .inl (by simp)) harr⟩
 | goto id => exact ⟨_, a₁, w₁, ⟨σ₁, hq, hR₁⟩, .pass (x := .inLoop c) rfl (fun _ _ => .inl (by simp)) harr⟩
 | ret => exact ⟨_, a₁, w₁, ⟨σ₁, hq, hR₁⟩, .pass (x := .inLoop c) rfl (fun _ _ => .inl (by simp)) harr⟩
 | panic ch => exact ⟨_, a₁, w₁, ⟨σ₁, hq, hR₁⟩, .pass (x := .inLoop c) rfl (fun _ _ => .inl (by simp)) harr⟩
 | outgrown => exact ⟨_, a₁, w₁, ⟨σ₁, hq, hR₁⟩, .pass (x := .inLoop c) rfl (fun _ _ => .inl (by simp)) harr⟩
theorem Is.of {γ : Key → Nat} {Φ : St → Prop} (hg : C.G γ) (hG : RG (C.r γ) C.l C.outs [] τ σ) (h : Φ τ) : Is n C Φ σ := ⟨γ, τ, σ, hg, h, hG, Wk.refl σ⟩
theorem Zbz {a b : Key} : Zfk a b = true ↔ a = b := by
 obtain ⟨a1, a2⟩ := a
 obtain ⟨b1, b2⟩ := b
 simp [Zfk]
theorem Zk9 {H : Hp} {s : Nat → AV} : ∀ (ls : List Nat) (j : Nat), lkS (ZfX H s ls) j = nzX H (s j) ∨ lkS (ZfX H s ls) j = .top
 | [], j => .inr rfl
 | i :: r, j => by
  simp only [ZfX, lkS]
  split
  ·rename_i h; rw [Yb h]; exact .inl rfl
  ·exact Zk9 r j
def rebase (γ : Key → Nat) (H : Hp) : Key → Nat := fun k => γ k + (H k).g
mutual
theorem Zr3 {γ : Key → Nat} {H : Hp} : ∀ {x y : AV}, nzO H x = some y → ren (C.r (rebase γ H)) y = ren (C.r γ) x
 | .ref k g off m, y, h => by
  simp only [nzO] at h
  split at h
  ·rename_i hl; cases h; obtain ⟨h1, _⟩ := ZbF hl; subst h1; simp [ren, Cx.r, rebase]
  ·cases h
 | .ptr k g off, y, h => by
  simp only [nzO] at h
  split at h
  ·rename_i hl; cases h; obtain ⟨h1, _⟩ := ZbF hl; subst h1; simp [ren, Cx.r, rebase]
  ·cases h
 | .mp k g, y, h => by
  simp only [nzO] at h
  split at h
  ·rename_i hl; cases h; obtain ⟨h1, _⟩ := ZbF hl; subst h1; simp [ren, Cx.r, rebase]
  ·cases h
 | .fn f xs ys, y, h => by
  simp only [nzO] at h
  split at h
  ·rename_i xs' ys' h1 h2
   cases h
   have e1 := ZeS (γ := γ) h1
   have e2 := ZeS (γ := γ) h2
   cases f <;> simp only [ren, e1, e2] <;> rfl
  ·cases h
 | .agg xs, y, h => by
  simp only [nzO] at h
  split at h
  ·rename_i xs' h1; cases h; simp only [ren, ZeS (γ := γ) h1]
  ·cases h
 | .tup xs, y, h => by
  simp only [nzO] at h
  split at h
  ·rename_i xs' h1; cases h; simp only [ren, ZeS (γ := γ) h1]
  ·cases h
 | .top, y, h => by simp only [nzO] at h; cases h; simp [ren]
 | .d x, y, h => by simp only [nzO] at h; cases h; simp [ren]
 | .e0, y, h => by simp only [nzO] at h; cases h; simp [ren]
 | .p x, y, h => by simp only [nzO] at h; cases h; simp [ren]
 | .iptr cs off, y, h => by simp only [nzO] at h; cases h; simp [ren]
theorem ZeS {γ : Key → Nat} {H : Hp} : ∀ {xs ys : List AV}, ZvA H xs = some ys → Zao (C.r (rebase γ H)) ys = Zao (C.r γ) xs
 | [], ys, h => by simp only [ZvA] at h; cases h; simp [Zao]
 | x :: xs, ys, h => by
  simp only [ZvA] at h
  split at h
  ·rename_i x' xs' h1 h2; cases h; simp only [Zao, Zr3 (γ := γ) h1, ZeS (γ := γ) h2]
  ·cases h
end
def BOk (C : Cx) (γ : Key → Nat) (H : Hp) (hs : List (Key × Blk)) : Prop :=
 (∀ k, (lkH hs k).g = 0) ∧ ∀ k, (lkH hs k).live = true → (H k).live = true ∧ (lkH hs k).e = (H k).e ∧ (lkH hs k).sz = (H k).sz ∧ Zao (C.r (rebase γ H)) (lkH hs k).cells = Zao (C.r γ) (H k).cells
theorem ZcL {r : Ren} {cs : List AV} (h : ZhQ cs) : Zao r cs = cs := Zdq (Yp.2 h)
theorem BOk.cons {γ : Key → Nat} {H : Hp} {hs : List (Key × Blk)} (h : BOk C γ H hs) {k : Key} {cs : List AV} (hl : (H k).live = true) (hc : Zao (C.r (rebase γ H)) cs = Zao (C.r γ) (H k).cells) : BOk C γ H ((k, ⟨0, true, (H k).e, (H k).sz, cs⟩) :: hs) := by
 refine ⟨fun q => ?_, fun q hq => ?_⟩
 ·simp only [lkH]
  split
  ·rfl
  ·exact h.1 q
 ·simp only [lkH] at hq ⊢
  split at hq
  ·rename_i he
   have he := Zbz.1 he
   grind
  ·exact h.2 q hq
theorem ZeX {γ : Key → Nat} {H : Hp} : ∀ (ks : List (Key × Bool)) {K : List (Key × Blk) → Prop}, Zir H ks K → ∃ hs, K hs ∧ BOk C γ H hs
 | [], K, h => ⟨[], h, fun k => rfl, fun k hk => by simp [lkH, Zqg] at hk⟩
 | (k, fl) :: r, K, h => by
  simp only [Zir] at h
  split at h
  ·exact ZeX r h
  ·rename_i hl
   split at h
   ·obtain ⟨hs, h1, h2⟩ := ZeX (γ := γ) r h.2
    exact ⟨_, h1, h2.cons hl (by rw [ZcL h.1, ZcL h.1])⟩
   ·split at h
    ·rename_i cs hcs
     obtain ⟨hs, h1, h2⟩ := ZeX (γ := γ) r h
     exact ⟨_, h1, h2.cons hl (ZeS hcs)⟩
    grind
theorem ZHJ {H : Hp} : ∀ {fx : List Nat}, gz H fx = true → ∀ i ∈ fx, (H (0, i)).g = 0
 | i :: r, h, j, hj => by
  simp only [gz, Yd] at h
  rcases Yx.1 hj with rfl | hj
  ·exact Yb h.1
  ·exact ZHJ h.2 j hj
theorem ZlA {x : AV} (h : ZLT x = true) : x = .e0 := by cases x <;> first | rfl | cases h
theorem Zfl (hC : CxOk C) {Φ : St → Prop} {γ : Key → Nat} : ∀ (ad : List (Nat × Nat × TypeId × Nat)) (τ σ : St), Zjy ad τ Φ → RG (C.r γ) C.l C.outs [] τ σ → ∃ τ' σ', Φ τ' ∧ RG (C.r γ) C.l C.outs [] τ' σ' ∧ Wk n C σ σ'
 | [], τ, σ, h, hG => ⟨τ, σ, h, hG, Wk.refl σ⟩
 | (j, d, e, sz) :: r, τ, σ, h, hG => by
  simp only [Zjy] at h
  split at h
  ·rename_i he hl
   have hsj : σ.s j = .e0 := by rw [(hG.s j).1 Zak, ZlA he]; simp [ren]
   have h1 := hG.put (e := j) (ch := []) rfl rfl (v := .ref (1, d) ((τ.H (1, d)).g + 1) 0 0) (y := .ref (C.l + 1, d) ((σ.H (C.l + 1, d)).g + 1) 0 0) (fun _ => by rw [hG.g]; simp only [ren]; rw [show (C.r γ).κ (1, d) = (C.l + 1, d) from hC.own d, YD]) (fun hn => absurd Zak hn)
   have h2 := RG.updH (hC.ren γ) h1 (1, d) ⟨(τ.H (1, d)).g + 1, true, e, sz, []⟩ rfl (.inl rfl)
   have e1 : Zb7 (C.r γ) (1, d) ⟨(τ.H (1, d)).g + 1, true, e, sz, []⟩ = ⟨(σ.H (C.l + 1, d)).g + 1, true, e, sz, []⟩ := by
    simp only [Zb7, hG.g, Zao, YD]
   rw [e1, show (C.r γ).κ (1, d) = (C.l + 1, d) from hC.own d] at h2
   have h3 : RG (C.r γ) C.l C.outs [] ⟨upd τ.s j (.ref (1, d) ((τ.H (1, d)).g + 1) 0 0), updH τ.H (1, d) ⟨(τ.H (1, d)).g + 1, true, e, sz, []⟩⟩ ⟨upd σ.s j (.ref (C.l + 1, d) ((σ.H (C.l + 1, d)).g + 1) 0 0), updH σ.H (C.l + 1, d) ⟨(σ.H (C.l + 1, d)).g + 1, true, e, sz, []⟩⟩ :=
    ⟨fun i => ⟨fun _ => (h2.s i).1 (by rw [ZlM]; split <;> exact Zak), fun hn => absurd Zak hn⟩, h2.h, h2.g, h2.go, h2.k, h2.o⟩
   obtain ⟨τ', σ', k1, k2, k3⟩ := Zfl hC r _ _ h h3
   refine ⟨τ', σ', k1, k2, Wk.trans (fun act w hR => ?_) k3⟩
   obtain ⟨s, H⟩ := σ
   exact R.adopt (e := e) (sz := sz) hR (C.l + 1, d) rfl _ (YB _) hsj
  ·grind
  ·exact Zfl hC r τ σ h hG
theorem ZiD {γ : Key → Nat} : ∀ (ze : List Nat) (τ σ : St), RG (C.r γ) C.l C.outs [] τ σ → ∃ σ', RG (C.r γ) C.l C.outs [] (zeT ze τ) σ' ∧ Wk n C σ σ'
 | [], τ, σ, hG => ⟨σ, hG, Wk.refl σ⟩
 | j :: r, τ, σ, hG => by
  simp only [zeT]
  split
  ·rename_i he
   have hsj : σ.s j = .e0 := by rw [(hG.s j).1 Zak, ZlA he]; simp [ren]
   have h1 := hG.put (e := j) (ch := []) rfl rfl (v := .d (.list [])) (y := .d (.list [])) (fun _ => by simp [ren]) (fun hn => absurd Zak hn)
   have h3 : RG (C.r γ) C.l C.outs [] ⟨upd τ.s j (.d (.list [])), τ.H⟩ ⟨upd σ.s j (.d (.list [])), σ.H⟩ :=
    ⟨fun i => ⟨fun _ => (h1.s i).1 (by rw [ZlM]; split <;> exact Zak), fun hn => absurd Zak hn⟩, h1.h, h1.g, h1.go, h1.k, h1.o⟩
   obtain ⟨σ', k1, k2⟩ := ZiD r _ _ h3
   refine ⟨σ', k1, Wk.trans (fun act w hR => ?_) k2⟩
   obtain ⟨s, H⟩ := σ
   obtain ⟨m, S, hO, hn, hdf, hS, hex⟩ := hR.un
   refine ⟨m, S, hO, hn, hdf, fun i => ?_, hex⟩
   show RepA w S H m (C.l + 1) (upd s j (.d (.list [])) i) _
   unfold upd
   by_cases hi : i = j
   ·subst hi
    rw [if_pos rfl]
    have := hS i
    simp only at hsj
    rw [hsj] at this
    exact this.e0_d
   ·rw [if_neg hi]; exact hS i
  ·exact ZiD r τ σ hG
theorem ZcM (hC : CxOk C) {Φ : St → Prop} {γ : Key → Nat} {f : Lf} (h : Zf5 C.fx f τ Φ) (hg : C.G γ) (hG : RG (C.r γ) C.l C.outs [] τ σ) : Is n C Φ σ := by
 obtain ⟨σ₀, hG0, hw0⟩ := ZiD (n := n) f.ze τ σ hG
 obtain ⟨τ₁, σ₁, h1, h2, h3⟩ := Zfl (n := n) hC f.ad (zeT f.ze τ) σ₀ h hG0
 replace h3 := Wk.trans hw0 h3
 split at h1
 case h_2 => exact h1.elim
 rename_i hgz
 obtain ⟨hs, k1, k2⟩ := ZeX (C := C) (γ := γ) f.ks h1
 refine ⟨rebase γ τ₁.H, _, ⟨fun j => ren (C.r (rebase γ τ₁.H)) (lkS (ZfX τ₁.H τ₁.s f.ls) j), σ₁.H⟩, hC.G γ _ (fun i hi => by unfold rebase; rw [ZHJ hgz i hi]; rfl) hg, k1, ⟨fun j => ⟨fun _ => rfl, fun hn => absurd Zak hn⟩, fun k hk => ?_, fun d => ?_, fun i hi => ?_, fun k hk => ?_, h2.o⟩, h3.trans fun act w hR => ?_⟩
 ·obtain ⟨b1, b3, b4, b5⟩ := k2.2 k hk
  have b2 := k2.1 k
  show σ₁.H (C.κ k) = _
  have := h2.h k b1
  rw [show (C.r γ).κ k = C.κ k from rfl] at this
  rw [this]
  simp only [Zb7]
  show _ = Blk.mk (rebase γ τ₁.H k + (lkH hs k).g) true (lkH hs k).e (lkH hs k).sz (Zao (C.r (rebase γ τ₁.H)) (lkH hs k).cells)
  rw [b2, b3, b4, b5]
  rfl
 ·show (σ₁.H (C.l + 1, d)).g = rebase γ τ₁.H (1, d) + (lkH hs (1, d)).g
  have e0 : (lkH hs (1, d)).g = 0 := k2.1 _
  rw [e0, h2.g]
  rfl
 ·show (σ₁.H (C.κ (0, i))).g = rebase γ τ₁.H (0, i) + (lkH hs (0, i)).g
  have e0 : (lkH hs (0, i)).g = 0 := k2.1 _
  rw [e0]
  exact h2.go i hi
 ·exact h2.k k (k2.2 k hk).1
 ·obtain ⟨s, H⟩ := σ₁
  refine R.weaken hR fun j => ?_
  rcases Zk9 (H := τ₁.H) (s := τ₁.s) f.ls j with e | e
  ·simp only [e]
   unfold nzX
   split
   ·rename_i v hv
    left
    rw [Zr3 (γ := γ) hv]
    exact ((h2.s j).1 Zak).symm
   ·right; simp [ren]
  ·right; simp only [e]; simp [ren]
end
end Go.Eng
namespace Go.Eng
set_option linter.all false
open Go Go.RowKit
def KF (T : Nat → Option TI) (rs : List ResultVar) (os : Nat) (Post : AV → List Blk → Prop) : Exit → St → AT → Prop
 | .normal, τ, a => ZIG T rs os τ a Post
 | .ret, τ, a => ZIG T rs os τ a Post
 | _, _, _ => False
def KB (T : Nat → Option TI) (rs : List ResultVar) (os : Nat) (fx : List Nat) (r : Ren) (Post : AV → List Blk → Prop) (lf lx : Lf) (Q : Exit → St → Prop) : Exit → St → AT → Prop
 | .ret, τ, a => ZIG T rs os τ a Post
 | .normal, τ, a => Zd1 r os a τ (fun τ _ => Zf5 fx lf τ (Q .normal))
 | .exit i, τ, a => Zd1 r os a τ (fun τ _ => Zf5 fx lx τ (Q (.exit i)))
 | _, _, _ => False
section
variable {P : Program} {T : Nat → Option TI} {n : Nat} {C : Cx} {τ σ : St} {Q : Exit → St → Prop}
theorem Zgz {l : Nat} {ds : List (Option Nat)} : ∀ (ops : List Oper) {K K' : St → Prop} {σ : St}, (∀ σ, K σ → K' σ) → ZmJ P l n ds ops K σ → ZmJ P l n ds ops K' σ
 | [], K, K', σ, hk, h => hk _ h
 | o :: rest, K, K', σ, hk, h => by
  unfold ZmJ at h ⊢
  split at h
  ·exact ZgE (fun σ h => Zgz rest hk h) h
  ·split at h
   ·refine ⟨fun e => ZgE (fun σ h => Zgz rest hk h) (h.1 e), fun e => ?_⟩
    have h2 := h.2 e
    split at h2
    ·exact ⟨h2.1, Zgz rest hk h2.2⟩
    grind
   grind
theorem ZeQ {γ : Key → Nat} {env : Env} (h : RG (C.r γ) C.l C.outs env τ σ) : ∃ σ', RG (C.r γ) C.l C.outs [] (Zls env τ) σ' ∧ Wk n C σ σ' := by
 refine ⟨⟨fun j => ren (C.r γ) ((Zls env τ).s j), σ.H⟩, ⟨fun j => ⟨fun _ => rfl, fun hn => absurd Zak hn⟩, h.h, h.g, h.go, h.k, h.o⟩, fun act w hR => ?_⟩
 obtain ⟨s, H⟩ := σ
 refine R.weaken hR fun j => ?_
 simp only [Zls]
 split
 ·rename_i he
  left
  exact ((h.s j).1 (by rw [he]; exact Zak)).symm
 ·right; simp [ren]
def ZNc (n : Nat) (C : Cx) (γ : Key → Nat) (K : Exit → St → AT → Prop) (e : Exit) (σ : St) : Prop := ∃ τ a σ', K e τ a ∧ RG (C.r γ) C.l C.outs [] τ σ' ∧ Wk n C σ σ'
theorem Zke {r : Ren} {H H' : Hp} (hr : RenOk r C.l C.outs) (hH : ZkU r H H') {d : Nat} {s s' : Nat → AV} (hs : ∀ j, s' j = ren r (s j)) {A : Prop} : ∀ {js : List (Nat × List (List D))}, jsP H d s A js → A ∧ ∀ p ∈ js, ∃ off c, s' p.1 = .ref (C.l + 1, d) (H' (C.l + 1, d)).g off c ∧
  p.2.length = c ∧ (∀ e ∈ p.2, e.length = (H' (C.l + 1, d)).sz) ∧ (off + c) * (H' (C.l + 1, d)).sz ≤ (H' (C.l + 1, d)).cells.length ∧ ((H' (C.l + 1, d)).cells.drop (off * (H' (C.l + 1, d)).sz)).take (c * (H' (C.l + 1, d)).sz) = p.2.flatten.map .d
 | [], h => ⟨h, fun p hp => by cases hp⟩
 | (j, es) :: js, h => by
  simp only [jsP] at h
  split at h
  case h_2 => exact h.elim
  rename_i k q off c hj
  split at h
  case h_2 => exact h.elim
  rename_i hk hl
  have hk := Zbz.1 hk
  subst hk
  obtain ⟨⟨f1, f2, f3, f4, f5⟩, h⟩ := h
  obtain ⟨h1, h2⟩ := Zke hr hH hs h
  obtain ⟨g1, g2, g3, g4, g5⟩ := hH.at hl
  rw [hr.own] at g1 g2 g3 g4 g5
  refine ⟨h1, fun p hp => ?_⟩
  rcases Yx.1 hp with rfl | hp
  ·refine ⟨off, c, by rw [hs, hj]; simp [ren, hr.own, g1], f1, by rw [g4]; exact f3, by rw [g4, g5, Za3]; exact f4, ?_⟩
   rw [g4, g5, Zb5, Zcd, f5, Zhg]
  grind
theorem ZjJ {r : Ren} {H H' : Hp} (hr : RenOk r C.l C.outs) (hH : ZkU r H H') {d : Nat} {A : Prop} : ∀ {cs : List (Key × Nat × List (List D))}, csP H d A cs → A ∧ ∀ p ∈ cs, p.1.1 = 1 ∧ p.1 ≠ (1, d) ∧ (H p.1).live = true ∧ ∃ off c, (H' (r.κ p.1)).cells[p.2.1]? = some (.ref (C.l + 1, d) (H' (C.l + 1, d)).g off c) ∧
  p.2.2.length = c ∧ (∀ e ∈ p.2.2, e.length = (H' (C.l + 1, d)).sz) ∧ (off + c) * (H' (C.l + 1, d)).sz ≤ (H' (C.l + 1, d)).cells.length ∧ ((H' (C.l + 1, d)).cells.drop (off * (H' (C.l + 1, d)).sz)).take (c * (H' (C.l + 1, d)).sz) = p.2.2.flatten.map .d
 | [], h => ⟨h, fun p hp => by cases hp⟩
 | (k, i, es) :: cs, h => by
  simp only [csP] at h
  split at h
  case h_2 => exact h.elim
  rename_i k' q off c ho hne hlv hc
  split at h
  case h_2 => exact h.elim
  rename_i hk hl
  have hk := Zbz.1 hk
  subst hk
  obtain ⟨⟨f1, f2, f3, f4, f5⟩, h⟩ := h
  obtain ⟨h1, h2⟩ := ZjJ hr hH h
  obtain ⟨g1, g2, g3, g4, g5⟩ := hH.at hl
  rw [hr.own] at g1 g2 g3 g4 g5
  refine ⟨h1, fun p hp => ?_⟩
  rcases Yx.1 hp with rfl | hp
  ·have hb := hH k hlv
   have hnk : k ≠ (1, d) := fun e => by rw [Zbz.2 e] at hne; cases hne
   refine ⟨Yb ho, hnk, hlv, off, c, ?_, f1, by rw [g4]; exact f3, by rw [g4, g5, Za3]; exact f4, ?_⟩
   ·rw [hb]
    simp only [Zb7, Zfn]
    rw [Zcp] at hc
    rw [hc]
    simp [ren, hr.own, g1]
   ·rw [g4, g5, Zb5, Zcd, f5, Zhg]
  grind
theorem Zoo {r : Ren} : ∀ (js : List (Nat × List (List D))) {s s' : Nat → AV}, (∀ j, s' j = ren r (s j)) → ∀ j, Zzc js s' j = ren r (Zzc js s j)
 | [], s, s', h, j => h j
 | (i, es) :: js, s, s', h, j => Zoo js (s := upd s i (.d (.list es))) (s' := upd s' i (.d (.list es))) (fun q => by
   simp only [upd]
   by_cases hq : q = i
   ·rw [if_pos hq, if_pos hq]; simp [ren]
   ·rw [if_neg hq, if_neg hq]; exact h q) j
theorem ZnA {r : Ren} (xs : List AV) (i : Nat) (x : AV) : (Zao r xs).set i (ren r x) = Zao r (xs.set i x) := by rw [Zde, Zde, List.map_set]
theorem Zrs {γ : Key → Nat} (hC : CxOk C) : ∀ (cs : List (Key × Nat × List (List D))) {τ σ : St}, (∀ p ∈ cs, p.1.1 = 1 ∧ (τ.H p.1).live = true) → RG (C.r γ) C.l C.outs [] τ σ →
  RG (C.r γ) C.l C.outs [] ⟨τ.s, ZwI cs τ.H⟩ ⟨σ.s, ZwI (cs.map fun p => ((C.r γ).κ p.1, p.2)) σ.H⟩
 | [], τ, σ, _, h => h
 | (k, i, es) :: cs, τ, σ, hp, h => by
  obtain ⟨h1, h2⟩ := hp _ (Yt ..)
  have hb := h.h k h2
  have h8 := RG.updH (hC.ren γ) h k ⟨(τ.H k).g, true, (τ.H k).e, (τ.H k).sz, (τ.H k).cells.set i (.d (.list es))⟩ rfl (.inl h1)
  have e3 : Zb7 (C.r γ) k ⟨(τ.H k).g, true, (τ.H k).e, (τ.H k).sz, (τ.H k).cells.set i (.d (.list es))⟩ = ⟨(σ.H ((C.r γ).κ k)).g, (σ.H ((C.r γ).κ k)).live, (σ.H ((C.r γ).κ k)).e, (σ.H ((C.r γ).κ k)).sz, (σ.H ((C.r γ).κ k)).cells.set i (.d (.list es))⟩ := by
   rw [hb]
   simp only [Zb7]
   rw [← ZnA]
   simp [ren]
  rw [e3] at h8
  have e4 : (⟨(τ.H k).g, true, (τ.H k).e, (τ.H k).sz, (τ.H k).cells.set i (.d (.list es))⟩ : Blk) = ⟨(τ.H k).g, (τ.H k).live, (τ.H k).e, (τ.H k).sz, (τ.H k).cells.set i (.d (.list es))⟩ := by rw [h2]
  rw [e4] at h8
  have := Zrs hC cs (fun p hq => by
   obtain ⟨q1, q2⟩ := hp p (Yq _ hq)
   refine ⟨q1, ?_⟩
   show (updH τ.H k _ p.1).live = true
   unfold updH
   split
   ·exact h2
   ·exact q2) h8
  exact this
theorem Zmt {r : Ren} {cs : List AV} (h : ZgW cs) : ZgW (Zao r cs) := fun x hx => by
 rw [Zde] at hx
 obtain ⟨y, hy, rfl⟩ := Yy.1 hx
 have := h y hy
 cases y with
 | d d => simp [ren]
 | _ => cases this
theorem Zy9 {H : Hp} {d : Nat} {s : Nat → AV} : ∀ {js : List Nat}, mpB H d s js = true → ∀ j ∈ js, ∃ g, s j = .mp (1, d) g ∧ Zcs H (1, d) g = true
 | [], _, j, hj => by cases hj
 | i :: r, h, j, hj => by
  simp only [mpB] at h
  split at h
  ·rename_i k g he
   simp only [Yd] at h
   have hk := Zbz.1 h.1.1
   subst hk
   rcases Yx.1 hj with rfl | hj
   ·grind
   ·exact Zy9 h.2 j hj
  ·cases h
theorem ZyS {H : Hp} {d : Nat} {s : Nat → AV} : ∀ {js : List Nat}, ptB H d s js = true → ∀ j ∈ js, ∃ g, s j = .ptr (1, d) g 0 ∧ Zcs H (1, d) g = true
 | [], _, j, hj => by cases hj
 | i :: r, h, j, hj => by
  simp only [ptB] at h
  split at h
  ·rename_i k g he
   simp only [Yd] at h
   have hk := Zbz.1 h.1.1
   subst hk
   rcases Yx.1 hj with rfl | hj
   ·grind
   ·exact ZyS h.2 j hj
  ·cases h
theorem Zar (hC : CxOk C) {γ : Key → Nat} : ∀ (a : AT) {τ σ : St} {K : St → AT → Prop}, Zd1 (C.r γ) C.outs a τ K → RG (C.r γ) C.l C.outs [] τ σ → ∃ τ' a' σ', K τ' a' ∧ RG (C.r γ) C.l C.outs [] τ' σ' ∧ Wk n C σ σ'
 | .frz d js cs b, τ, σ, K, h, hG => by
  have hr := hC.ren γ
  have hs : ∀ j, σ.s j = ren (C.r γ) (τ.s j) := fun j => (hG.s j).1 Zak
  simp only [Zd1] at h
  split at h
  case h_2 => exact h.elim
  rename_i hl hz
  have hz := Yh hz
  obtain ⟨h, hjs⟩ := Zke hr hG.h hs h
  obtain ⟨h, hcs⟩ := ZjJ hr hG.h h
  have hb := hG.h _ hl
  rw [hr.own] at hb
  have hlr : (σ.H (C.l + 1, d)).live = true := by rw [hb]; rfl
  have hszr : (σ.H (C.l + 1, d)).sz = (τ.H (1, d)).sz := by rw [hb]; rfl
  have hgr : (σ.H (C.l + 1, d)).g = (C.r γ).γ (1, d) + (τ.H (1, d)).g := by rw [hb]; rfl
  have h1 := RG.updK hr hG (1, d) ⟨(τ.H (1, d)).g, false, (τ.H (1, d)).e, (τ.H (1, d)).sz, (τ.H (1, d)).cells⟩ { σ.H (C.l + 1, d) with live := false } (fun e => by cases e) hgr (.inl rfl)
  rw [hr.own] at h1
  have h2 := Zrs hC cs (fun p hp => by
   obtain ⟨q1, q2, q3, _⟩ := hcs p hp
   refine ⟨q1, ?_⟩
   show (updH τ.H (1, d) _ p.1).live = true
   rw [Zad _ _ q2]
   exact q3) h1
  have h3 : RG (C.r γ) C.l C.outs [] ⟨Zzc js τ.s, ZwI cs (updH τ.H (1, d) ⟨(τ.H (1, d)).g, false, (τ.H (1, d)).e, (τ.H (1, d)).sz, (τ.H (1, d)).cells⟩)⟩
    ⟨Zzc js σ.s, ZwI (cs.map fun p => ((C.r γ).κ p.1, p.2)) (updH σ.H (C.l + 1, d) { σ.H (C.l + 1, d) with live := false })⟩ :=
   ⟨fun j => ⟨fun _ => Zoo js hs j, fun hn => absurd Zak hn⟩, h2.h, h2.g, h2.go, h2.k, h2.o⟩
  obtain ⟨τ', a', σ', k1, k2, k3⟩ := Zar hC b h h3
  refine ⟨τ', a', σ', k1, k2, Wk.trans (fun act w hR => ?_) k3⟩
  obtain ⟨s, H⟩ := σ
  refine R.freeze hR (k := (C.l + 1, d)) (Nat.le_refl _) hlr (by rw [hszr]; omega) js (cs.map fun p => ((C.r γ).κ p.1, p.2)) hjs (fun p hp => ?_)
  obtain ⟨pp, hpp, rfl⟩ := Yy.1 hp
  obtain ⟨q1, q2, q3, q4⟩ := hcs pp hpp
  obtain ⟨⟨p1, p2⟩, p3⟩ := pp
  simp only at q1 q2 q3 q4
  subst q1
  have hlv : (H ((C.r γ).κ (1, p2))).live = true := by have := hG.h _ q3; simp only at this; rw [this]; rfl
  exact ⟨by simp only; rw [hr.own]; intro e; simp at e; exact q2 (by rw [e]), by simp only; rw [hr.own]; exact Nat.le_refl _, hlv, q4⟩
 | .adc k i d e sz b, τ, σ, K, h, hG => by
  have hr := hC.ren γ
  simp only [Zd1] at h
  split at h
  case h_2 => exact h.elim
  rename_i hk hne hlv hc
  have hk := Yb hk
  have hne : k ≠ (1, d) := fun e => by rw [Zbz.2 e] at hne; cases hne
  obtain ⟨k1, k2⟩ := k
  simp only at hk
  subst hk
  have hb := hG.h _ hlv
  have h1 := RG.updH hr hG (1, d) ⟨(τ.H (1, d)).g + 1, true, e, sz, []⟩ rfl (.inl rfl)
  have h2 := RG.updH hr h1 (1, k2) ⟨(τ.H (1, k2)).g, true, (τ.H (1, k2)).e, (τ.H (1, k2)).sz, (τ.H (1, k2)).cells.set i (.ref (1, d) ((τ.H (1, d)).g + 1) 0 0)⟩ rfl (.inl rfl)
  have e1 : Zb7 (C.r γ) (1, d) ⟨(τ.H (1, d)).g + 1, true, e, sz, []⟩ = ⟨(σ.H (C.l + 1, d)).g + 1, true, e, sz, []⟩ := by simp only [Zb7, hG.g, Zao, YD]
  have e2 : Zb7 (C.r γ) (1, k2) ⟨(τ.H (1, k2)).g, true, (τ.H (1, k2)).e, (τ.H (1, k2)).sz, (τ.H (1, k2)).cells.set i (.ref (1, d) ((τ.H (1, d)).g + 1) 0 0)⟩ =
    ⟨(σ.H (C.l + 1, k2)).g, (σ.H (C.l + 1, k2)).live, (σ.H (C.l + 1, k2)).e, (σ.H (C.l + 1, k2)).sz, (σ.H (C.l + 1, k2)).cells.set i (.ref (C.l + 1, d) ((σ.H (C.l + 1, d)).g + 1) 0 0)⟩ := by
   rw [hr.own] at hb
   rw [hb]
   simp only [Zb7]
   rw [← ZnA]
   simp [ren, hr.own, hG.g, YD]
  rw [e1, e2, hr.own, hr.own] at h2
  obtain ⟨τ', a', σ', j1, j2, j3⟩ := Zar hC b h h2
  refine ⟨τ', a', σ', j1, j2, Wk.trans (fun act w hR => ?_) j3⟩
  obtain ⟨s, H⟩ := σ
  rw [Zcp] at hc
  exact R.adoptC hR (k := (C.l + 1, d)) (kp := (C.l + 1, k2)) rfl rfl (fun e => by simp at e; exact hne (by rw [e])) (by rw [hr.own] at hb; simp only at hb; rw [hb]; rfl) (by rw [hr.own] at hb; simp only at hb; rw [hb]; simp only [Zb7, Zfn, hc]; simp [ren])
 | .ads j d e sz b, τ, σ, K, h, hG => by
  have hr := hC.ren γ
  simp only [Zd1] at h
  split at h
  case h_2 => exact h.elim
  rename_i he
  have hsj : σ.s j = .e0 := by rw [(hG.s j).1 Zak, ZlA he]; simp [ren]
  have h1 := RG.updH hr hG (1, d) ⟨(τ.H (1, d)).g + 1, true, e, sz, []⟩ rfl (.inl rfl)
  have e1 : Zb7 (C.r γ) (1, d) ⟨(τ.H (1, d)).g + 1, true, e, sz, []⟩ = ⟨(σ.H (C.l + 1, d)).g + 1, true, e, sz, []⟩ := by simp only [Zb7, hG.g, Zao, YD]
  rw [e1, hr.own] at h1
  have h3 : RG (C.r γ) C.l C.outs [] ⟨upd τ.s j (.ref (1, d) ((τ.H (1, d)).g + 1) 0 0), updH τ.H (1, d) ⟨(τ.H (1, d)).g + 1, true, e, sz, []⟩⟩ ⟨upd σ.s j (.ref (C.l + 1, d) ((σ.H (C.l + 1, d)).g + 1) 0 0), updH σ.H (C.l + 1, d) ⟨(σ.H (C.l + 1, d)).g + 1, true, e, sz, []⟩⟩ :=
   ⟨fun i => ⟨fun _ => by
    simp only [upd]
    by_cases hi : i = j
    ·rw [if_pos hi, if_pos hi]; simp [ren, hr.own, hG.g, YD]
    ·rw [if_neg hi, if_neg hi]; exact (hG.s i).1 Zak, fun hn => absurd Zak hn⟩, h1.h, h1.g, h1.go, h1.k, h1.o⟩
  obtain ⟨τ', a', σ', k1, k2, k3⟩ := Zar hC b h h3
  refine ⟨τ', a', σ', k1, k2, Wk.trans (fun act w hR => ?_) k3⟩
  obtain ⟨s, H⟩ := σ
  exact R.adopt (e := e) (sz := sz) hR (C.l + 1, d) rfl _ (YB _) hsj
 | .trim k c b, τ, σ, K, h, hG => by
  have hr := hC.ren γ
  simp only [Zd1] at h
  split at h
  case h_2 => exact h.elim
  rename_i hl
  obtain ⟨⟨m, hm⟩, h⟩ := h
  have hb := hG.h k hl
  have hko : Zd1 (C.r γ) C.outs b ⟨τ.s, updH τ.H k ⟨(τ.H k).g, true, (τ.H k).e, (τ.H k).sz, c⟩⟩ K ∧ ZAr (C.r γ) C.outs k := by
   unfold trK at h
   split at h
   ·rename_i hk; exact ⟨h, .inl (Yb hk)⟩
   ·rcases hG.k k hl with h5 | ⟨_, h5⟩
    ·have := h.1.1; omega
    ·exact ⟨h.2, .inr ⟨h.1.1, h5, h.1.2⟩⟩
  obtain ⟨h, hko⟩ := hko
  have h1 := RG.updH hr hG k ⟨(τ.H k).g, true, (τ.H k).e, (τ.H k).sz, c⟩ rfl hko
  have e1 : Zb7 (C.r γ) k ⟨(τ.H k).g, true, (τ.H k).e, (τ.H k).sz, c⟩ = ⟨(σ.H ((C.r γ).κ k)).g, (σ.H ((C.r γ).κ k)).live, (σ.H ((C.r γ).κ k)).e, (σ.H ((C.r γ).κ k)).sz, (σ.H ((C.r γ).κ k)).cells.take m⟩ := by
   rw [hb]
   simp only [Zb7, Zcd, hm]
  rw [e1] at h1
  obtain ⟨τ', a', σ', k1, k2, k3⟩ := Zar hC b h h1
  refine ⟨τ', a', σ', k1, k2, Wk.trans (fun act w hR => ?_) k3⟩
  obtain ⟨s, H⟩ := σ
  have hle : ((C.r γ).κ k).1 ≤ C.l + 1 := by
   obtain ⟨k1, k2⟩ := k
   have := hko.lk
   simp only at this
   rcases this with rfl | ⟨rfl, h2⟩
   ·rw [hr.own]; exact Nat.le_refl _
   ·exact Nat.le_succ_of_le (hr.out k2 h2)
  exact R.trim hR hle (by have hb' := hb; simp only at hb'; rw [hb']; rfl) m
 | .reb j d m c b, τ, σ, K, h, hG => by
  have hr := hC.ren γ
  simp only [Zd1] at h
  split at h
  case h_2 => exact h.elim
  rename_i k q off n hsj
  split at h
  case h_2 => exact h.elim
  rename_i hkd hq
  have hk : k = (1, d) := Zbz.1 hkd
  subst hk
  obtain ⟨hq1, hl⟩ := ZbF hq
  subst hq1
  obtain ⟨⟨hnm, hlen, hc⟩, h⟩ := h
  subst hc
  subst hnm
  have hb := hG.h (1, d) hl
  rw [hr.own] at hb
  have hlr : (σ.H (C.l + 1, d)).live = true := by rw [hb]; rfl
  have hszr : (σ.H (C.l + 1, d)).sz = (τ.H (1, d)).sz := by rw [hb]; rfl
  have hgr : (σ.H (C.l + 1, d)).g = (C.r γ).γ (1, d) + (τ.H (1, d)).g := by rw [hb]; rfl
  have hcr : (σ.H (C.l + 1, d)).cells = Zao (C.r γ) (τ.H (1, d)).cells := by rw [hb]; rfl
  have her : (σ.H (C.l + 1, d)).e = (τ.H (1, d)).e := by rw [hb]; rfl
  have hs : σ.s j = .ref (C.l + 1, d) (σ.H (C.l + 1, d)).g off n := by rw [(hG.s j).1 Zak, hsj]; simp only [ren]; rw [hr.own, hgr]
  have h1 := RG.updH hr hG (1, d) ⟨(τ.H (1, d)).g + 1, true, .t (τ.H (1, d)).e.ty, (τ.H (1, d)).sz, (τ.H (1, d)).cells.drop (off * (τ.H (1, d)).sz)⟩ rfl (.inl rfl)
  have e1 : Zb7 (C.r γ) (1, d) ⟨(τ.H (1, d)).g + 1, true, .t (τ.H (1, d)).e.ty, (τ.H (1, d)).sz, (τ.H (1, d)).cells.drop (off * (τ.H (1, d)).sz)⟩ = ⟨(σ.H (C.l + 1, d)).g + 1, true, .t (σ.H (C.l + 1, d)).e.ty, (σ.H (C.l + 1, d)).sz, (σ.H (C.l + 1, d)).cells.drop (off * (σ.H (C.l + 1, d)).sz)⟩ := by
   simp only [Zb7, hgr, her, hszr, hcr, Zb5, YD]
  rw [e1, hr.own] at h1
  have h3 : RG (C.r γ) C.l C.outs [] ⟨upd τ.s j (.ref (1, d) ((τ.H (1, d)).g + 1) 0 n), updH τ.H (1, d) ⟨(τ.H (1, d)).g + 1, true, .t (τ.H (1, d)).e.ty, (τ.H (1, d)).sz, (τ.H (1, d)).cells.drop (off * (τ.H (1, d)).sz)⟩⟩
    ⟨upd σ.s j (.ref (C.l + 1, d) ((σ.H (C.l + 1, d)).g + 1) 0 n), updH σ.H (C.l + 1, d) ⟨(σ.H (C.l + 1, d)).g + 1, true, .t (σ.H (C.l + 1, d)).e.ty, (σ.H (C.l + 1, d)).sz, (σ.H (C.l + 1, d)).cells.drop (off * (σ.H (C.l + 1, d)).sz)⟩⟩ :=
   ⟨fun i => ⟨fun _ => by
    simp only [upd]
    by_cases hi : i = j
    ·rw [if_pos hi, if_pos hi]; simp only [ren]; rw [hr.own, hgr, YD]
    ·rw [if_neg hi, if_neg hi]; exact (hG.s i).1 Zak, fun hn => absurd Zak hn⟩, h1.h, h1.g, h1.go, h1.k, h1.o⟩
  obtain ⟨τ', a', σ', k1, k2, k3⟩ := Zar hC b h h3
  refine ⟨τ', a', σ', k1, k2, Wk.trans (fun act w hR => ?_) k3⟩
  obtain ⟨s, H⟩ := σ
  exact R.rebase hR (Nat.le_refl _) hlr hs (by rw [hszr, hcr, Za3]; exact hlen)
 | .mv d j b, τ, σ, K, h, hG => by
  have hr := hC.ren γ
  have hs : ∀ j, σ.s j = ren (C.r γ) (τ.s j) := fun j => (hG.s j).1 Zak
  simp only [Zd1] at h
  split at h
  case h_2 => exact h.elim
  rename_i hl
  obtain ⟨hf, ⟨hj, hno⟩, h⟩ := h
  have hb := hG.h _ hl
  have hbj := hG.go j hj
  rw [hr.own] at hb
  have hlr : (σ.H (C.l + 1, d)).live = true := by rw [hb]; rfl
  have hgr : (σ.H (C.l + 1, d)).g = (C.r γ).γ (1, d) + (τ.H (1, d)).g := by rw [hb]; rfl
  have h1 := RG.updK hr hG (1, d) ⟨(τ.H (1, d)).g, false, (τ.H (1, d)).e, (τ.H (1, d)).sz, (τ.H (1, d)).cells⟩ { σ.H (C.l + 1, d) with live := false } (fun e => by cases e) hgr (.inl rfl)
  rw [hr.own] at h1
  have h2 := RG.updH hr h1 (0, j) ⟨(τ.H (0, j)).g + 1, true, (τ.H (1, d)).e, (τ.H (1, d)).sz, (τ.H (1, d)).cells⟩ rfl (.inr ⟨rfl, hj, hno⟩)
  have e2 : Zb7 (C.r γ) (0, j) ⟨(τ.H (0, j)).g + 1, true, (τ.H (1, d)).e, (τ.H (1, d)).sz, (τ.H (1, d)).cells⟩ = { σ.H (C.l + 1, d) with g := (σ.H ((C.r γ).κ (0, j))).g + 1 } := by
   rw [hb]
   simp only [Zb7, hbj, YD]
  rw [e2] at h2
  have h3 : RG (C.r γ) C.l C.outs [] ⟨fun i => mvA (1, d) (0, j) (τ.H (1, d)).g ((τ.H (0, j)).g + 1) (τ.s i), updH (updH τ.H (1, d) ⟨(τ.H (1, d)).g, false, (τ.H (1, d)).e, (τ.H (1, d)).sz, (τ.H (1, d)).cells⟩) (0, j) ⟨(τ.H (0, j)).g + 1, true, (τ.H (1, d)).e, (τ.H (1, d)).sz, (τ.H (1, d)).cells⟩⟩
    ⟨fun i => ren (C.r γ) (mvA (1, d) (0, j) (τ.H (1, d)).g ((τ.H (0, j)).g + 1) (τ.s i)), updH (updH σ.H (C.l + 1, d) { σ.H (C.l + 1, d) with live := false }) ((C.r γ).κ (0, j)) { σ.H (C.l + 1, d) with g := (σ.H ((C.r γ).κ (0, j))).g + 1 }⟩ :=
   ⟨fun i => ⟨fun _ => rfl, fun hn => absurd Zak hn⟩, h2.h, h2.g, h2.go, h2.k, h2.o⟩
  obtain ⟨τ', a', σ', k1, k2, k3⟩ := Zar hC b h h3
  refine ⟨τ', a', σ', k1, k2, Wk.trans (fun act w hR => ?_) k3⟩
  obtain ⟨s, H⟩ := σ
  refine R.handout hR (k := (C.l + 1, d)) rfl (hr.out j hj) hlr (by have hb' := hb; simp only at hb'; rw [hb']; exact Zmt hf) (fun i => ?_)
  have hsi := hs i
  simp only at hsi
  cases hx : τ.s i with
  | ref q g off c =>
   rw [hx] at hsi
   rw [ZBQ]
   split
   ·rename_i hc
    obtain ⟨rfl, rfl⟩ := hc
    refine .inr (.inl ⟨off, c, ?_, ?_⟩)
    ·rw [hsi]; simp only [ren]; rw [hr.own]; simp only at hgr; rw [hgr]
    ·simp only [ren]; simp only at hbj; rw [hbj, YD]
   ·left; rw [hsi]
  | mp q g =>
   rw [hx] at hsi
   rw [ZGu]
   split
   ·rename_i hc
    obtain ⟨rfl, rfl⟩ := hc
    refine .inr (.inr ⟨?_, ?_⟩)
    ·rw [hsi]; simp only [ren]; rw [hr.own]; simp only at hgr; rw [hgr]
    ·simp only [ren]; simp only at hbj; rw [hbj, YD]
   ·left; rw [hsi]
  | _ => left; rw [hsi, hx]; rfl
 | .fzm d js b, τ, σ, K, h, hG => by
  have hr := hC.ren γ
  have hs : ∀ j, σ.s j = ren (C.r γ) (τ.s j) := fun j => (hG.s j).1 Zak
  simp only [Zd1] at h
  split at h
  case h_2 => exact h.elim
  rename_i q es hl he hm
  have hjs := Zy9 hm
  have hb := hG.h _ hl
  rw [hr.own] at hb
  have hlr : (σ.H (C.l + 1, d)).live = true := by rw [hb]; rfl
  have her : (σ.H (C.l + 1, d)).e = .m q es := by rw [hb]; exact he
  have hgr : (σ.H (C.l + 1, d)).g = (C.r γ).γ (1, d) + (τ.H (1, d)).g := by rw [hb]; rfl
  have h1 := RG.updK hr hG (1, d) ⟨(τ.H (1, d)).g, false, (τ.H (1, d)).e, (τ.H (1, d)).sz, (τ.H (1, d)).cells⟩ { σ.H (C.l + 1, d) with live := false } (fun e => by cases e) hgr (.inl rfl)
  rw [hr.own] at h1
  have h3 : RG (C.r γ) C.l C.outs [] ⟨Zou (.d (.map q es)) js τ.s, updH τ.H (1, d) ⟨(τ.H (1, d)).g, false, (τ.H (1, d)).e, (τ.H (1, d)).sz, (τ.H (1, d)).cells⟩⟩ ⟨Zou (.d (.map q es)) js σ.s, updH σ.H (C.l + 1, d) { σ.H (C.l + 1, d) with live := false }⟩ :=
   ⟨fun j => ⟨fun _ => by
    simp only [Zhe]
    by_cases hj : j ∈ js
    ·rw [if_pos hj, if_pos hj]; simp [ren]
    ·rw [if_neg hj, if_neg hj]; exact hs j, fun hn => absurd Zak hn⟩, h1.h, h1.g, h1.go, h1.k, h1.o⟩
  obtain ⟨τ', a', σ', k1, k2, k3⟩ := Zar hC b h h3
  refine ⟨τ', a', σ', k1, k2, Wk.trans (fun act w hR => ?_) k3⟩
  obtain ⟨s, H⟩ := σ
  refine R.freezeM hR (k := (C.l + 1, d)) (Nat.le_refl _) hlr her js (fun j hj => ?_)
  obtain ⟨g, g1, g2⟩ := hjs j hj
  have := hs j
  simp only at this hgr
  rw [this, g1]
  simp only [ren]
  rw [hr.own, hgr, (ZbF g2).1]
 | .fzb d js b, τ, σ, K, h, hG => by
  have hr := hC.ren γ
  have hs : ∀ j, σ.s j = ren (C.r γ) (τ.s j) := fun j => (hG.s j).1 Zak
  simp only [Zd1] at h
  split at h
  case h_2 => exact h.elim
  rename_i x ds hl he hm
  have hjs := ZyS hm
  have hb := hG.h _ hl
  rw [hr.own] at hb
  have hlr : (σ.H (C.l + 1, d)).live = true := by rw [hb]; rfl
  have her : (σ.H (C.l + 1, d)).cells = (x :: ds).map .d := by rw [hb]; show Zao _ _ = _; rw [Zrw he, Zhg]
  have hgr : (σ.H (C.l + 1, d)).g = (C.r γ).γ (1, d) + (τ.H (1, d)).g := by rw [hb]; rfl
  have h1 := RG.updK hr hG (1, d) ⟨(τ.H (1, d)).g, false, (τ.H (1, d)).e, (τ.H (1, d)).sz, (τ.H (1, d)).cells⟩ { σ.H (C.l + 1, d) with live := false } (fun e => by cases e) hgr (.inl rfl)
  rw [hr.own] at h1
  have h3 : RG (C.r γ) C.l C.outs [] ⟨Zou (.iptr (x :: ds) 0) js τ.s, updH τ.H (1, d) ⟨(τ.H (1, d)).g, false, (τ.H (1, d)).e, (τ.H (1, d)).sz, (τ.H (1, d)).cells⟩⟩ ⟨Zou (.iptr (x :: ds) 0) js σ.s, updH σ.H (C.l + 1, d) { σ.H (C.l + 1, d) with live := false }⟩ :=
   ⟨fun j => ⟨fun _ => by
    simp only [Zhe]
    by_cases hj : j ∈ js
    ·rw [if_pos hj, if_pos hj]; simp [ren]
    ·rw [if_neg hj, if_neg hj]; exact hs j, fun hn => absurd Zak hn⟩, h1.h, h1.g, h1.go, h1.k, h1.o⟩
  obtain ⟨τ', a', σ', k1, k2, k3⟩ := Zar hC b h h3
  refine ⟨τ', a', σ', k1, k2, Wk.trans (fun act w hR => ?_) k3⟩
  obtain ⟨s, H⟩ := σ
  refine R.freezeB hR (k := (C.l + 1, d)) (Nat.le_refl _) hlr her (by simp) js (fun j hj => ?_)
  obtain ⟨g, g1, g2⟩ := hjs j hj
  have := hs j
  simp only at this hgr
  rw [this, g1]
  simp only [ren]
  rw [hr.own, hgr, (ZbF g2).1]
 | .ents _ _, τ, σ, K, h, hG => ⟨τ, _, σ, h, hG, Wk.refl σ⟩
 | .all _ _, τ, σ, K, h, hG => ⟨τ, _, σ, h, hG, Wk.refl σ⟩
 | .nil, τ, σ, K, h, hG => ⟨τ, _, σ, h, hG, Wk.refl σ⟩
 | .sep _, τ, σ, K, h, hG => ⟨τ, _, σ, h, hG, Wk.refl σ⟩
 | .go _, τ, σ, K, h, hG => ⟨τ, _, σ, h, hG, Wk.refl σ⟩
 | .av _ _, τ, σ, K, h, hG => ⟨τ, _, σ, h, hG, Wk.refl σ⟩
 | .cs _ _, τ, σ, K, h, hG => ⟨τ, _, σ, h, hG, Wk.refl σ⟩
 | .ds _ _, τ, σ, K, h, hG => ⟨τ, _, σ, h, hG, Wk.refl σ⟩
 | .num _ _, τ, σ, K, h, hG => ⟨τ, _, σ, h, hG, Wk.refl σ⟩
 | .nat _ _, τ, σ, K, h, hG => ⟨τ, _, σ, h, hG, Wk.refl σ⟩
 | .call _ _ _, τ, σ, K, h, hG => ⟨τ, _, σ, h, hG, Wk.refl σ⟩
 | .callH _ _ _ _, τ, σ, K, h, hG => ⟨τ, _, σ, h, hG, Wk.refl σ⟩
 | .br _ _, τ, σ, K, h, hG => ⟨τ, _, σ, h, hG, Wk.refl σ⟩
 | .hard _ _ _ _ _, τ, σ, K, h, hG => ⟨τ, _, σ, h, hG, Wk.refl σ⟩
theorem ZbN (hC : CxOk C) (hT : TOk P T) (hm : P.follows .mixedOrders = true) {γ : Key → Nat} : ∀ (c : Code) (a : AT) (τ σ : St) (K : Exit → St → AT → Prop), Zdu P T C.l n C.outs (C.r γ) c a τ K → RG (C.r γ) C.l C.outs [] τ σ →
  AWp P C.l n C.B c (ZNc n C γ K) σ
 | .skip, a, τ, σ, K, h, hG => Zw5 ⟨τ, a, σ, h, hG, Wk.refl σ⟩
 | .ret, a, τ, σ, K, h, hG => by
  obtain ⟨τ', a', σ', h1, h2, h3⟩ := Zar (n := n) hC a h hG
  exact AWp.weak (ZE5 ⟨τ', a', σ', h1, h2, Wk.refl σ'⟩) h3
 | .exit id, a, τ, σ, K, h, hG => Zwq ⟨τ, a, σ, h, hG, Wk.refl σ⟩
 | .seq x y, a, τ, σ, K, h, hG => by
  have ih := ZbN hC hT hm x a τ σ _ h hG
  refine ZiX (Zdk ih fun e σ' hi => ?_)
  obtain ⟨τ', a', σ'', h1, h2, h3⟩ := hi
  cases e with
  | normal => exact AWp.weak (ZbN hC hT hm y a' τ' σ'' _ h1 h2) h3
  | _ => exact ⟨τ', a', σ'', h1, h2, h3⟩
 | .block id c, a, τ, σ, K, h, hG => by
  have ih := ZbN hC hT hm c a τ σ _ h hG
  refine Zj0 (Zdk ih fun e σ' hi => ?_)
  obtain ⟨τ', a', σ'', h1, h2, h3⟩ := hi
  cases e with
  | exit i =>
   unfold ZnS
   simp only at h1 ⊢
   split at h1
   ·rename_i he; rw [if_pos (Yb he)]; exact ⟨τ', a', σ'', h1, h2, h3⟩
   ·rename_i he; rw [if_neg (by rintro rfl; simp at he)]; exact ⟨τ', a', σ'', h1, h2, h3⟩
  | _ => exact ⟨τ', a', σ'', h1, h2, h3⟩
 | .cond c x y, a, τ, σ, K, h, hG => by
  have he : ∀ {b}, ev τ.s c = .d (.bool b) → ev σ.s c = .d (.bool b) := fun {b} hc => by rw [Zg0 (c := []) hG Zak (by cases c <;> rfl), hc]; simp [ren]
  unfold Zdu at h
  split at h
  ·rename_i b a1 a2 hc
   exact Zjc (he hc) (fun e => ZbN hC hT hm x a1 τ σ K (h.1 e) hG) (fun e => ZbN hC hT hm y a2 τ σ K (h.2 e) hG)
  ·rename_i b a' hc
   refine Zjc (he hc) (fun e => ?_) (fun e => ?_)
   ·subst e; exact ZbN hC hT hm x a' τ σ K h hG
   ·subst e; exact ZbN hC hT hm y a' τ σ K h hG
  ·exact h.elim
 | .region id ops draw, a, τ, σ, K, h, hG => by
  obtain ⟨opl, rfl⟩ : ∃ l : List Oper, ops = l.toArray := ⟨ops.toList, by simp⟩
  have fin : ∀ τ' env' a' σ', K .normal (Zls env' τ') a' → RG (C.r γ) C.l C.outs env' τ' σ' → ZNc n C γ K .normal σ' := fun τ' env' a' σ' h1 h2 => by
   obtain ⟨σ'', h3, h4⟩ := ZeQ (n := n) h2
   exact ⟨_, a', σ'', h1, h3, h4⟩
  unfold Zdu at h
  split at h
  ·obtain ⟨τ₁, a₁, σ₁, h, hG, hw⟩ := Zar (n := n) hC a h hG
   refine AWp.weak ?_ hw
   intro act w hR
   have := ZdT (hC.ren γ) hT (ops := opl.toArray) (B := C.B) (K := fun τ' env a' => K .normal (Zls env τ') a') (QQ := fun e a' w' => ∃ σ', ZNc n C γ K e σ' ∧ R C.l n C.B σ' a' w') [] (fun τ' env' a' σ' act' w' h1 h2 h3 => by
    unfold wpList
    exact ⟨σ', fin _ _ _ _ h1 h2, h3⟩) opl [] a₁ τ₁ σ₁ act w (by simpa using h) hG hR
   rw [YW] at this
   exact wp_region_lit this
  ·split at h
   case h_2 => exact h.elim
   rename_i hb
   simp only [Yd] at hb
   obtain ⟨τ₁, a₁, σ₁, h, hG, hw⟩ := Zar (n := n) hC a h hG
   refine AWp.weak ?_ hw
   refine Zpt hm (Zpx (by simpa using hb.1.1)) (by simpa using hb.1.2) (by simpa using hb.2) (Zgz opl (fun σ' hq => ?_) (Zhb (hC.ren γ) (l := C.l) (r := C.r γ) (outs := C.outs) (K := fun τ' env a' => K .normal (Zls env τ') a') hT opl [] a₁ τ₁ σ₁ (by simpa using hb.1.2) (by simpa using h) hG))
   obtain ⟨τ', env', a', h1, h2⟩ := hq
   exact fin _ _ _ _ h1 h2
 | .loop _, a, τ, σ, K, h, hG => h.elim
 | .rangeFunc _ _ _ _, a, τ, σ, K, h, hG => h.elim
 | .scope _, a, τ, σ, K, h, hG => h.elim
 | .label _, a, τ, σ, K, h, hG => h.elim
 | .goto _, a, τ, σ, K, h, hG => h.elim
 | .refuse _, a, τ, σ, K, h, hG => h.elim
theorem ZGZ (hC : CxOk C) (hT : TOk P T) (hm : P.follows .mixedOrders = true) {c : Code} {a : AT} (K : (Key → Nat) → Exit → St → AT → Prop) (h : ∀ γ, Zdu P T C.l n C.outs (C.r γ) c a τ (K γ))
  (hk : ∀ γ e τ' a' σ', C.G γ → K γ e τ' a' → RG (C.r γ) C.l C.outs [] τ' σ' → Is n C (Q e) σ') : LW P n C c τ Q := by
 intro γ σ hg hG
 refine Zdk (ZbN hC hT hm c a τ σ (K γ) (h γ) hG) fun e σ' hi => ?_
 obtain ⟨τ', a', σ'', h1, h2, h3⟩ := hi
 obtain ⟨γ', τ₂, σ₂, k0, k1, k2, k3⟩ := hk γ e τ' a' σ'' hg h1 h2
 exact ⟨γ', τ₂, σ₂, k0, k1, k2, h3.trans k3⟩
theorem ZHn (hC : CxOk C) (hT : TOk P T) (hm : P.follows .mixedOrders = true) {c : Code} (a : AT) {rs : List ResultVar} {Post : AV → List Blk → Prop} (h : ∀ γ, Zdu P T C.l n C.outs (C.r γ) c a τ (KF T rs C.outs Post)) : LW P n C c τ (FQ T rs C.outs Post) :=
 ZGZ hC hT hm (fun _ => KF T rs C.outs Post) h fun γ e τ' a' σ' hg hk hG => .of hg hG (by
  cases e <;> simp only [KF] at hk
  ·exact ⟨.inl rfl, a', hk⟩
  ·exact ⟨.inr rfl, a', hk⟩)
theorem ZIl (hC : CxOk C) (hT : TOk P T) (hm : P.follows .mixedOrders = true) {c : Code} (a : AT) (lf lx : Lf) {rs : List ResultVar} {Post : AV → List Blk → Prop} (hQ : ∀ τ, FQ T rs C.outs Post .ret τ → Q .ret τ) (h : ∀ γ, Zdu P T C.l n C.outs (C.r γ) c a τ (KB T rs C.outs C.fx (C.r γ) Post lf lx Q)) : LW P n C c τ Q :=
 ZGZ hC hT hm (fun γ => KB T rs C.outs C.fx (C.r γ) Post lf lx Q) h fun γ e τ' a' σ' hg hk hG => by
  cases e <;> simp only [KB] at hk
  ·obtain ⟨τ₁, a₁, σ₁, k1, k2, k3⟩ := Zar (n := n) hC a' hk hG
   obtain ⟨γ', τ₂, σ₂, j0, j1, j2, j3⟩ := ZcM (n := n) hC k1 hg k2
   exact ⟨γ', τ₂, σ₂, j0, j1, j2, k3.trans j3⟩
  ·obtain ⟨τ₁, a₁, σ₁, k1, k2, k3⟩ := Zar (n := n) hC a' hk hG
   obtain ⟨γ', τ₂, σ₂, j0, j1, j2, j3⟩ := ZcM (n := n) hC k1 hg k2
   exact ⟨γ', τ₂, σ₂, j0, j1, j2, k3.trans j3⟩
  ·exact .of hg hG (hQ _ ⟨.inr rfl, a', hk⟩)
theorem Zrm {sz : Nat} : ∀ {es : List (List D)} {i j : Nat} {e : List D} {d : D}, (∀ e ∈ es, e.length = sz) → es[i]? = some e → e[j]? = some d → es.flatten[i * sz + j]? = some d
 | [], i, j, e, d, h, hi, hj => by simp at hi
 | f :: es, 0, j, e, d, h, hi, hj => by
  grind
 | f :: es, i + 1, j, e, d, h, hi, hj => by
  have hf := h f (Yt ..)
  rw [YaA, Ys (by rw [hf, YF]; omega), hf, show (i + 1) * sz + j - sz = i * sz + j from by rw [YF]; omega]
  exact Zrm (fun e he => h e (Yq _ he)) (by simpa using hi) hj
mutual
theorem Zrb (hC : CxOk C) {γ : Key → Nat} {H H' : Hp} (hH : ZkU (C.r γ) H H') (hk : ∀ k, (H k).live = true → k.1 = 1 ∨ (k.1 = 0 ∧ k.2 < C.outs)) : ∀ (x : AV) {a : AT} {K : AV → AT → Prop}, frz H x a K → ∃ y a', Fz H' C.l (ren (C.r γ) x) (ren (C.r γ) y) ∧ (C.outs = 0 → ∀ r, ren r y = y) ∧ K y a'
 | .d x, a, K, h => ⟨.d x, a, by simp only [ren]; exact .keep _ rfl, fun _ r => by simp [ren], h⟩
 | .e0, a, K, h => ⟨.d (.list []), a, by simp only [ren]; exact .e0, fun _ r => by simp [ren], h⟩
 | .agg xs, a, K, h => by
  obtain ⟨ys, a', h1, h0, h2⟩ := Zf7 hC hH hk xs h
  exact ⟨.agg ys, a', by simp only [ren]; exact .agg _ _ h1.1 h1.2, fun e r => by simp only [ren]; rw [h0 e r], h2⟩
 | .ref k g off m, a, K, h => by
  unfold frz at h
  split at h
  ·rename_i hk0 hl
   have hk0 := Yb hk0
   have hlt : k.2 < C.outs := by
    rcases hk k (ZbF hl).2 with h1 | h1
    ·omega
    grind
   obtain ⟨k1, k2⟩ := k
   simp only at hk0 hlt
   subst hk0
   exact ⟨.ref (0, k2) g off m, a, by simp only [ren]; exact .keep _ (decide_eq_true (hC.out k2 hlt)), fun e => by omega, h⟩
  ·rename_i _ hk hl
   split at h
   case h_2 => exact h.elim
   rename_i es a'
   obtain ⟨⟨h1, h2, h3, h4, h5⟩, h6⟩ := h
   have hk := Yb hk
   obtain ⟨g1, g2, g3, g4, g5⟩ := hH.at hl
   obtain ⟨k1, k2⟩ := k
   simp only at hk
   subst hk
   refine ⟨.d (.list es), a', ?_, fun _ r => by simp [ren], h6⟩
   simp only [ren]
   rw [g1]
   have hκ : (C.r γ).κ (1, k2) = (C.l + 1, k2) := hC.own k2
   refine .ref _ off m es (by rw [hκ]) g2 h1 (by rw [g4]; exact h2) (by rw [g4]; exact h3) (by rw [g4, g5, Za3]; exact h4) (fun i j e d x hi hj hx => ?_)
   have hil : i < m := by
    grind
   have hjl : j < (H (1, k2)).sz := by
    grind
   have e1 := Zrm h3 hi hj
   have hlt : i * (H (1, k2)).sz + j < m * (H (1, k2)).sz := by
    have : (i + 1) * (H (1, k2)).sz ≤ m * (H (1, k2)).sz := YP _ hil
    grind
   have e2 : (H (1, k2)).cells[(off + i) * (H (1, k2)).sz + j]? = some (.d d) := by
    have := congrArg (fun l => l[i * (H (1, k2)).sz + j]?) h5
    grind
   rw [g4, g5, Zfn, e2] at hx
   simp only [YR, ren, Yg] at hx
   subst hx
   exact .keep _ rfl
  grind
 | .top, a, K, h => by simp only [frz] at h
 | .p _, a, K, h => by simp only [frz] at h
 | .ptr _ _ _, a, K, h => by simp only [frz] at h
 | .mp k g, a, K, h => by
  unfold frz at h
  split at h
  ·rename_i hk0 hl
   have hk0 := Yb hk0
   have hlt : k.2 < C.outs := by
    rcases hk k (ZbF hl).2 with h1 | h1
    ·omega
    grind
   obtain ⟨k1, k2⟩ := k
   simp only at hk0 hlt
   subst hk0
   exact ⟨.mp (0, k2) g, a, by simp only [ren]; exact .keep _ (decide_eq_true (hC.out k2 hlt)), fun e => by omega, h⟩
  ·rename_i q es _ hk hl he
   have hk := Yb hk
   obtain ⟨g1, g2, g3, _, _⟩ := hH.at hl
   obtain ⟨k1, k2⟩ := k
   simp only at hk
   subst hk
   refine ⟨.d (.map q es), a, ?_, fun _ r => by simp [ren], h⟩
   simp only [ren]
   rw [g1]
   have hκ : (C.r γ).κ (1, k2) = (C.l + 1, k2) := hC.own k2
   exact .mp _ q es (by rw [hκ]) g2 (by rw [g3, he])
  grind
 | .iptr _ _, a, K, h => by simp only [frz] at h
 | .fn _ _ _, a, K, h => by simp only [frz] at h
 | .tup _, a, K, h => by simp only [frz] at h
theorem Zf7 (hC : CxOk C) {γ : Key → Nat} {H H' : Hp} (hH : ZkU (C.r γ) H H') (hk : ∀ k, (H k).live = true → k.1 = 1 ∨ (k.1 = 0 ∧ k.2 < C.outs)) : ∀ (xs : List AV) {a : AT} {K : List AV → AT → Prop}, ZyP H xs a K →
  ∃ ys a', ((Zao (C.r γ) xs).length = (Zao (C.r γ) ys).length ∧ ∀ (i : Nat) (x y : AV), (Zao (C.r γ) xs)[i]? = some x → (Zao (C.r γ) ys)[i]? = some y → Fz H' C.l x y) ∧ (C.outs = 0 → ∀ r, Zao r ys = ys) ∧ K ys a'
 | [], a, K, h => ⟨[], a, ⟨by simp [Zao], fun i x y hx => by simp [Zao] at hx⟩, fun _ r => by simp [Zao], h⟩
 | x :: xs, a, K, h => by
  simp only [ZyP] at h
  obtain ⟨y, a', h1, e1, h2⟩ := Zrb hC hH hk x h
  obtain ⟨ys, a'', h3, e3, h4⟩ := Zf7 hC hH hk xs h2
  refine ⟨y :: ys, a'', ⟨by simp [Zao, h3.1], fun i x' y' hx hy => ?_⟩, fun e r => by simp only [Zao]; rw [e1 e r, e3 e r], h4⟩
  cases i with
  | zero => simp only [Zao, YS, Yg] at hx hy; subst hx; subst hy; exact h1
  | succ i => simp only [Zao, Yaz] at hx hy; exact h3.2 i x' y' hx hy
end
theorem Ztc (hT : TOk P T) {γ : Key → Nat} (hG : RG (C.r γ) C.l C.outs [] τ σ) {v : ResultVar} {K : AV → Prop} (h : ldR T τ v K) : ∃ x, K x ∧ ∀ rs (K' : List AV → Prop), Zom P σ rs (fun xs => K' (ren (C.r γ) x :: xs)) → Zom P σ (v :: rs) K' := by
 cases v with
 | tmp t => exact ⟨_, h, fun rs K' h' => by unfold Zom; rw [(hG.s t).1 Zak]; exact h'⟩
 | cell p t =>
  simp only [ldR] at h
  split at h
  case h_2 => exact h.elim
  rename_i k g off i hp hi
  have hp' : σ.s p = ren (C.r γ) (.ptr k g off) := by rw [(hG.s p).1 Zak, hp]
  split at h
  ·rename_i hl hag
   split at h
   case h_2 => exact h.elim
   rename_i c h1 h2
   refine ⟨_, h, fun rs K' h' => ?_⟩
   have := Zfm (a := .go .nil) (g := none) (K := fun v _ => v = .agg c) (hT _ _ hi) hG.h (fun b e => by cases e) (x := .ptr k g off) (by simp only [ZoR, hl, hag, h1, h2])
   unfold Zom
   rw [hp']
   refine ZgM (fun y hy => ?_) this
   obtain ⟨v, a', rfl, rfl⟩ := hy
   exact h'
  ·rename_i hl hag
   split at h
   case h_2 => exact h.elim
   rename_i c hc
   refine ⟨_, h, fun rs K' h' => ?_⟩
   have := Zfm (a := .go .nil) (g := none) (K := fun v _ => v = c) (hT _ _ hi) hG.h (fun b e => by cases e) (x := .ptr k g off) (by simp only [ZoR, hl, hag, hc])
   unfold Zom
   rw [hp']
   refine ZgM (fun y hy => ?_) this
   obtain ⟨v, a', rfl, rfl⟩ := hy
   exact h'
  grind
theorem ZhW (hT : TOk P T) {γ : Key → Nat} (hG : RG (C.r γ) C.l C.outs [] τ σ) : ∀ (rs : List ResultVar) {K : List AV → Prop}, ZMy T τ rs K → ∃ xs, K xs ∧ ∀ K' : List AV → Prop, K' (Zao (C.r γ) xs) → Zom P σ rs K'
 | [], K, h => ⟨[], h, fun K' h' => by unfold Zom; simpa [Zao] using h'⟩
 | v :: rs, K, h => by
  obtain ⟨x, h1, h2⟩ := Ztc hT hG h
  obtain ⟨xs, h3, h4⟩ := ZhW hT hG rs h1
  exact ⟨x :: xs, h3, fun K' h' => h2 rs K' (h4 _ (by simpa [Zao] using h'))⟩
structure OutsOk (C : Cx) (γ : Key → Nat) (bs : List Blk) (H' : Hp) : Prop where
 len : bs.length = C.outs
 g : ∀ i b, bs[i]? = some b → (H' (C.κ (0, i))).g = γ (0, i) + b.g
 live : ∀ i b, bs[i]? = some b → b.live = true → H' (C.κ (0, i)) = Zb7 (C.r γ) (0, i) b
 o : ∀ k : Key, ¬ C.no k → H' k = C.H0 k
theorem ZiL {H : Hp} : ∀ (n i j : Nat), (Zkk H n i)[j]? = if j < n then some (H (0, i + j)) else none
 | 0, i, j => by simp [Zkk]
 | n + 1, i, 0 => by simp [Zkk]
 | n + 1, i, j + 1 => by
  simp only [Zkk, Yaz, ZiL n (i + 1) j]
  grind
theorem Zkc {H : Hp} : ∀ (n i : Nat), (Zkk H n i).length = n
 | 0, i => rfl
 | n + 1, i => by simp [Zkk, Zkc n]
theorem ZBF (hC : CxOk C) (hT : TOk P T) {rs : List ResultVar} {LPost : AV → List Blk → Prop} {Post : AV → Hp → Prop} {e : Exit} (hp : ∀ γ y bs H', C.G γ → LPost y bs → OutsOk C γ bs H' → (C.outs = 0 → ∀ r, ren r y = y) → Post (ren (C.r γ) y) H')
  (h : Is n C (FQ T rs C.outs LPost e) σ) : ∃ σ', fins P C.l C.H0 rs Post e σ' ∧ Wk n C σ σ' := by
 obtain ⟨γ, τ, σ', hg, ⟨h1, a, h2⟩, hG, hw⟩ := h
 refine ⟨σ', ⟨h1, ?_⟩, hw⟩
 obtain ⟨xs, h3, h4⟩ := ZhW (P := P) hT hG rs h2
 obtain ⟨ys, a', h5, h0, h6⟩ := Zf7 hC hG.h hG.k xs h3
 refine h4 _ ⟨ren (C.r γ) (Zkh ys), ?_, ?_⟩
 ·have hl := h5.1
  have h5 := h5.2
  have e1 : ren (C.r γ) (Zkh ys) = Zkh (Zao (C.r γ) ys) := by
   match ys with
   | [] => simp [Zkh, ren, Zao]
   | [y] => simp [Zkh, Zao]
   | y :: y' :: ys => simp [Zkh, ren, Zao]
  rw [e1]
  generalize Zao (C.r γ) ys = zs' at hl h5
  generalize Zao (C.r γ) xs = zs at hl h5
  match zs, zs', hl with
  | [], [], _ => exact .tup _ _ rfl fun i x y hx => by simp at hx
  | [x], [y], _ => exact h5 0 x y rfl rfl
  | x :: x' :: zs, y :: y' :: ys, hl => exact .tup _ _ hl h5
 ·refine hp γ _ _ _ hg h6 ⟨Zkc _ _, fun i b hi => ?_, fun i b hi hb => ?_, fun k hk => ?_⟩ (fun e r => ?_)
  ·rw [ZiL] at hi
   split at hi
   ·rename_i hlt
    simp only [YH, Yg] at hi
    subst hi
    rw [show mrg C.l σ'.H C.H0 (C.κ (0, i)) = σ'.H (C.κ (0, i)) from if_pos (hC.out i hlt)]
    exact hG.go i hlt
   grind
  ·rw [ZiL] at hi
   split at hi
   ·rename_i hlt
    simp only [YH, Yg] at hi
    subst hi
    rw [show mrg C.l σ'.H C.H0 (C.κ (0, i)) = σ'.H (C.κ (0, i)) from if_pos (hC.out i hlt)]
    exact hG.h _ hb
   grind
  ·unfold mrg
   split
   ·rename_i hk'; exact hG.o k hk' hk
   ·rfl
  ·have := h0 e r
   match ys with
   | [] => simp [Zkh, ren, Zao]
   | [y] => simp only [Zao, List.cons.injEq, and_true] at this; simpa [Zkh] using this
   | y :: y' :: ys => simp only [Zkh, ren, this]
def ZmF : Nat → List AV → List (Nat × AV)
 | _, [] => []
 | i, x :: xs => (i, x) :: ZmF (i + 1) xs
theorem ZtV {r : Ren} : ∀ (ys : List AV) (i j : Nat), ren r (lkS (ZmF i ys) (i + j)) = args (Zao r ys) j
 | [], i, j => by simp [ZmF, lkS, ren, Zao, args]
 | y :: ys, i, 0 => by simp [ZmF, lkS, Zao, args]
 | y :: ys, i, j + 1 => by
  have ih := ZtV (r := r) ys (i + 1) j
  simp only [ZmF, lkS]
  split
  ·rename_i h; have := Yb h; omega
  ·rw [show i + (j + 1) = i + 1 + j from by omega, ih]
   simp [args, Zao]
theorem Znk {f : FuncId} {fn : Func} (rs : List ResultVar) {c : Code} {l : Nat} {xs : List AV} {H : Hp} {Post : AV → Hp → Prop} {LPost : AV → List Blk → Prop} (C : Base → Cx) {γ : Key → Nat} {ys : List AV} {hs : List (Key × Blk)}
  (hf : P.funcs[f]? = some fn) (hb : fn.body = some c) (hname : (fn.name == "runtime.NumGoroutine") = false) (hn : fn.ntmps = n) (hr : fn.results.toList = rs) (hx : xs.length ≤ n) (hT : TOk P T)
  (hC : ∀ B, CxOk (C B)) (hB : ∀ B, (C B).l = l ∧ (C B).B = B ∧ (C B).H0 = H ∧ (C B).G γ) (hxs : ∀ B, Zao ((C B).r γ) ys = xs) (hγ : ∀ d, γ (1, d) = 0) (hh : ∀ d, lkH hs (1, d) = Zqg)
  (hhs : ∀ B k, (lkH hs k).live = true → k.1 = 0 ∧ k.2 < (C B).outs ∧ H ((C B).κ k) = Zb7 ((C B).r γ) k (lkH hs k)) (hgs : ∀ B i, i < (C B).outs → (H ((C B).κ (0, i))).g = γ (0, i) + (lkH hs (0, i)).g)
  (hp : ∀ B γ y bs H', (C B).G γ → LPost y bs → OutsOk (C B) γ bs H' → ((C B).outs = 0 → ∀ r, ren r y = y) → Post (ren ((C B).r γ) y) H')
  (h : ∀ B : Base, LW P n (C B) c (mkS (ZmF 0 ys) hs) (FQ T rs (C B).outs LPost)) : ZcN P f l xs H Post := by
 refine Zxo rs hf hb hname hn hr hx fun B => ?_
 obtain ⟨hl, hBB, hH0, hg⟩ := hB B
 have hG : RG ((C B).r γ) (C B).l (C B).outs [] (mkS (ZmF 0 ys) hs) ⟨args xs, clr l H⟩ := by
  refine ⟨fun j => ⟨fun _ => ?_, fun hn => absurd Zak hn⟩, fun k hk => ?_, fun d => ?_, fun i hi => ?_, fun k hk => .inr ⟨(hhs B k hk).1, (hhs B k hk).2.1⟩, fun k hk _ => ?_⟩
  ·have := ZtV (r := (C B).r γ) ys 0 j
   rw [YH, hxs] at this
   exact this.symm
  ·obtain ⟨h1, h2, h3⟩ := hhs B k hk
   show clr l H ((C B).κ k) = _
   obtain ⟨k1, k2⟩ := k
   simp only at h1 h2
   subst h1
   rw [Zth (by rw [← hl]; exact (hC B).out _ h2)]
   exact h3
  ·show (clr l H ((C B).l + 1, d)).g = γ (1, d) + (lkH hs (1, d)).g
   rw [hl, ZAH, hγ, hh]
   rfl
  ·show (clr l H ((C B).κ (0, i))).g = γ (0, i) + (lkH hs (0, i)).g
   rw [Zth (by rw [← hl]; exact (hC B).out _ hi)]
   grind
  ·show clr l H k = (C B).H0 k
   rw [hH0]
   exact Zth (by rw [← hl]; exact hk)
 have := h B γ _ hg hG
 intro act w hR
 rw [hl, hBB] at this
 refine wp_mono (this act w hR) fun e a' w' ⟨σ', hq, hR'⟩ => ?_
 obtain ⟨σ'', h1, h2⟩ := ZBF (P := P) (hC B) hT (hp B) hq
 rw [hl, hH0] at h1
 have h3 := h2 act w
 refine ⟨σ'', h1, ?_⟩
 have h4 := h2 a' w'
 grind
end
def lkT : List (Nat × TI) → Nat → Option TI
 | [], _ => none
 | (i, x) :: r, j => match Nat.beq i j with | true => some x | false => lkT r j
theorem Zx9 {P : Program} : ∀ (tl : List (Nat × TI)), (∀ p ∈ tl, TIok P p.1 p.2) → TOk P (lkT tl)
 | [], _, t, i, h => by simp [lkT] at h
 | (j, x) :: r, hp, t, i, h => by
  simp only [lkT] at h
  split at h
  ·rename_i he
   have he := Yb he
   cases h
   subst he
   exact hp _ (Yt ..)
  ·exact Zx9 r (fun p hp' => hp p (Yq _ hp')) t i h
theorem TIok.of {P : Program} {t : TypeId} {i : TI} (h1 : Zlj P t = some i.agg) (h2 : Go.Eng.kin P t = i.kin) (h3 : P.cellsOf t = i.siz) (h4 : i.elm = none ∨ Go.Eng.elm P t = i.elm)
  (h5 : ((List.range i.fld.length).map fun j => (Go.Eng.fld P t j, ZHa P t j)) = i.fld.map fun x => (some (x.1, x.2.1), some x)) (h6 : i.zer = none ∨ Go.Eng.zer P t = i.zer) (h7 : i.eqt = none ∨ eqT P t = i.eqt) (h8 : i.str = false ∨ ZLI P t = true)
  (h9 : i.ik = none ∨ P.underlying t = i.ik.map .int) (h10 : i.byt = none ∨ (∃ b, P.bytesOf t ≤ b ∧ P.bytesOf t ≠ 0 ∧ i.byt = some b)) (h11 : i.zer = none ∨ (i.zer.getD []).all AV.flat = true) (h12 : i.mp = none ∨ Zyk P t = i.mp := by first | exact .inl rfl | exact .inr (by kernel_rfl)) : TIok P t i where
 agg := h1
 kin := h2
 siz := h3
 elm := fun e h => by rcases h4 with h' | h' <;> rw [h] at h' <;> first | exact h' | cases h'
 fld := fun j x h => by
  have := congrArg (fun l => l[j]?) h5
  grind
 zer := fun e h => by rcases h6 with h' | h' <;> rw [h] at h' <;> first | exact h' | cases h'
 eqt := fun e h => by rcases h7 with h' | h' <;> rw [h] at h' <;> first | exact h' | cases h'
 str := fun h => by rcases h8 with h' | h' <;> first | exact h' | (rw [h] at h'; cases h')
 ik := fun e h => by rcases h9 with h' | h' <;> rw [h] at h' <;> first | exact h' | cases h'
 byt := fun e h => by
  grind
 mp := fun z h => by rcases h12 with h' | h' <;> rw [h] at h' <;> first | exact h' | cases h'
 flt := fun z h => by rcases h11 with h' | h' <;> rw [h] at h' <;> first | exact h' | cases h'
def cxP (l : Nat) (θ : Nat → AV) (H : Hp) (B : Base) : Cx := ⟨l, B, fun k => (l + 1, k.2), θ, H, 0, fun _ => False, [], fun _ => True⟩
theorem Zks (l : Nat) (B : Base) (θ : Nat → AV) (H : Hp) : CxOk (cxP l θ H B) := ⟨fun _ => rfl, fun i h => absurd h (YQ _), fun i j h => absurd h (YQ _), fun _ h => h.elim, fun _ _ _ h => h⟩
theorem Zvd {l : Nat} {θ : Nat → AV} {H : Hp} {B : Base} {γ : Key → Nat} {bs : List Blk} {H' : Hp} (h : OutsOk (cxP l θ H B) γ bs H') : H' = H := funext fun k => h.o k id
end Go.Eng
