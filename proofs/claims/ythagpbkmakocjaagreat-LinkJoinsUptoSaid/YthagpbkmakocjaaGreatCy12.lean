import Derived.Test.YthagpbkmakocjaaGreatCy11
namespace Go.Eng
set_option linter.all false
theorem ZtJ {α : Type} {e e' : α → List D} {xs : List α} {j sz : Nat} {y : α} (hj : j < xs.length) (hl : ∀ x, (e x).length = sz) (he : ∀ x, e x = e' x) : StS (Zaa e xs) (j * sz) ((e' y).map .d) (Zaa e (xs.set j y)) := by
 rw [← he]; exact ZAl hj hl
theorem Zjz {α : Type} {sz : Nat} {e e' : α → List D} {y : α} (C : List AV) (hl : ∀ x, (e x).length = sz) (he : ∀ x, e x = e' x) : Zof sz C (.d (.list [e' y])) 1 (Zaa e [y]) := by
 rw [ZsV, he]; exact ZsF C (by rw [← he]; exact hl y)
theorem ZzU {C : List AV} {o n m sz : Nat} {es : List (List D)} (h : n = m) (k : FzR C o m sz es) : FzR C o n sz es := h ▸ k
theorem ZAM {α : Type} {e : α → List D} {xs : List α} {n m off sz : Nat} (hn : n = m) (h : off ≤ xs.length) (hl : ∀ x, (e x).length = sz) : n = m ∧ off * sz ≤ (Zaa e xs).length ∧ (Zaa e xs).drop (off * sz) = Zaa e (xs.drop off) :=
 ⟨hn, by rw [Zci hl]; exact Nat.mul_le_mul_right _ h, ZdU hl xs off⟩
theorem Zw3 {α : Type} {e : α → List D} {z : α} {c : List AV} (hz : (e z).map .d = c) (m : Nat) : (List.replicate m c).flatten = Zaa e (List.replicate m z) := by
 subst hz
 induction m with
 | zero => rfl
 | succ m ih => rw [List.replicate_succ, List.flatten_cons, ih, List.replicate_succ, Zcg]
end Go.Eng
namespace Go.Eng
set_option linter.all false
open Go Go.RowKit
section
variable {P : Program} {T : Nat → Option TI} {n : Nat} {C : Cx} {τ : St} {Q : Exit → St → Prop}
theorem ZBM (hC : CxOk C) {os : Nat} {fx : List Nat} (hO : C.outs = os) (hF : C.fx = fx) {c : Code} (a : AT) (lf : Lf) (q : Ren → (St → Prop) → Prop)
  (hq : ∀ r Φ, Zd6 r os a τ (fun τ _ => Zhq fx lf τ Φ) = q r Φ) (h : ∀ r, r.θ = C.θ → r.H0 = C.H0 → r.κ = C.κ → r.no = C.no → q r (fun τ' => LW P n C c τ' Q)) : LW P n C c τ Q := by
 subst hO
 subst hF
 intro γ σ hg hG
 have h1 := h (C.r γ) rfl rfl rfl rfl
 rw [← hq] at h1
 obtain ⟨τ₁, a₁, σ₁, h2, hG1, hw1⟩ := Zat (n := n) hC a h1 hG
 obtain ⟨γ', τ₄, σ₄, j0, j1, j2, j3⟩ := Zcd (n := n) hC h2 hg hG1
 exact AWp.weak (j1 γ' σ₄ j0 j2) (hw1.trans j3)
end
theorem Zsw {s : ByteArray} {i : Int} (h0 : 0 ≤ i) (h : i < s.size) : ZCn s i ((s.data.toList.getD i.toNat 0).toNat : Int) := by
 have := ZAj (s := s) (i := i.toNat) (by omega)
 rwa [Int.toNat_of_nonneg h0] at this
end Go.Eng
namespace Go.Eng
set_option linter.all false
open Go Go.RowKit
abbrev vL {α : Type} (e : α → List D) (xs : List α) : AV := .d (.list (xs.map e))
abbrev vS (s : ByteArray) : AV := .d (.str s)
abbrev vI (x : Int) : AV := .d (.int .i64 x)
abbrev vN (x : Nat) : AV := .d (.int .i64 (x : Int))
abbrev vB (x : Bool) : AV := .d (.bool x)
abbrev nl : Lf := ⟨[], [], [], []⟩
abbrev lf1 (ls : List Nat) : Lf := ⟨ls, [], [], []⟩
abbrev lf2 (ls : List Nat) (ks : List (Key × Bool)) : Lf := ⟨ls, ks, [], []⟩
class Rw (α : Type) where
 e : α → List D
 f : α → List D
 z : α
 s : Nat
 len : ∀ x, (e x).length = s
 ef : ∀ x, e x = f x
 s0 : s ≠ 0
instance : Rw ByteArray := ⟨Zan, Zan, ⟨#[]⟩, 1, fun _ => rfl, fun _ => rfl, by decide⟩
instance : Rw Int := ⟨Zed, Zed, 0, 1, fun _ => rfl, fun _ => rfl, by decide⟩
instance : Rw Bool := ⟨ZCw, ZCw, false, 1, fun _ => rfl, fun _ => rfl, by decide⟩
instance : Rw Nt := ⟨eNt, eNt, zNt, 8, fun _ => rfl, fun _ => rfl, by decide⟩
instance : Rw Fld := ⟨ZcG, ZcG, ZNr, 16, fun _ => rfl, fun _ => rfl, by decide⟩
instance : Rw Spn := ⟨Zdh, Zdh, ZMV, 2, fun _ => rfl, fun _ => rfl, by decide⟩
instance : Rw Msg := ⟨Zaj, Zaj, ZOi, 5, fun _ => rfl, fun _ => rfl, by decide⟩
instance : Rw Itm := ⟨Zec, Zec, ZM6, 3, fun _ => rfl, fun _ => rfl, by decide⟩
instance : Rw Enm := ⟨Zag, Zag, ZN2, 5, fun _ => rfl, fun _ => rfl, by decide⟩
instance : Rw Mth := ⟨Zc1, Zc1, ZMP, 5, fun _ => rfl, fun _ => rfl, by decide⟩
instance : Rw Svc := ⟨Zal, Zal, ZOk, 3, fun _ => rfl, fun _ => rfl, by decide⟩
instance : Rw Fil := ⟨ZaE, ZaE, ZNI, 6, fun _ => rfl, fun _ => rfl, by decide⟩
instance (α : Type) [Rw α] : Rw (List α) := ⟨fun x => [.list (x.map Rw.e)], fun x => [.list (x.map Rw.e)], [], 1, fun _ => rfl, fun _ => rfl, by decide⟩
inductive Lv (σ ξ ρ : Type) where
 | nx (v : σ)
 | ex (b : ξ)
 | rt (y : ρ)
structure En where
 l : Nat
 r : Ren
 Q : Exit → St → Prop
 P : AV → List Blk → Prop
structure Gd (C : Cx) (r : Ren) : Prop where
 θ : r.θ = C.θ
 H : r.H0 = C.H0
 κ : r.κ = C.κ
 no : r.no = C.no
structure CO (C : Cx) (os : Nat) : Prop where
 ok : CxOk C
 O : C.outs = os
 F : C.fx = ZiP os
 W : ∀ q, q < os → C.no (C.κ (0, q))
def HL {β : Type} (L : β → Prop) (y : β) : Prop := L y
structure Ev (os : Nat) (β : Type) where
 E : En
 L : β → Prop
 C : Cx
 co : CO C os
 g : Gd C E.r
 hl : E.l = C.l
structure PT (os : Nat) (β : Type) where
 a : AT
 q : En → Prop
 m : Option β
 n : Ev os β → Prop
 ok : ∀ E : Ev os β, n E → ∀ y, m = some y → HL E.L y → q E.E
section
variable {os : Nat} {β : Type}
structure Sp where
 w : AT → AT
 p : En → Prop
 c : Prop
 d : Decidable c
 ok : c → ∀ E, p E
structure Sz where
 w : AT → AT
 p : En → Prop
 ok : ∀ E, p E
theorem Zax {c : Prop} [d : Decidable c] {m : Option β} {y : β} (h : (if c then m else none) = some y) : c ∧ m = some y := by
 by_cases e : c
 ·rw [if_pos e] at h; exact ⟨e, h⟩
 ·rw [if_neg e] at h; cases h
theorem bind_some {γ : Type} {m : Option γ} {k : γ → Option β} {y : β} (h : m.bind k = some y) : ∃ x, m = some x ∧ k x = some y := by
 cases m with
 | none => cases h
 | some x => exact ⟨x, rfl, h⟩
@[reducible] def vs (s : Sp) (k : PT os β) : PT os β := ⟨s.w k.a, fun E => s.p E ∧ k.q E, @ite _ s.c s.d k.m none, k.n, fun E hn y hm hL => by
 obtain ⟨h1, h2⟩ := @Zax _ _ s.d _ _ hm
 exact ⟨s.ok h1 E.E, k.ok E hn y h2 hL⟩⟩
@[reducible] def vg (b : Bool) (s : Sp) (k : PT os β) : PT os β := ⟨s.w k.a, fun E => (b = true → s.p E) ∧ k.q E, @ite _ (b = true → s.c) (@instDecidableForall _ _ _ s.d) k.m none, k.n, fun E hn y hm hL => by
 obtain ⟨h1, h2⟩ := @Zax _ _ (@instDecidableForall _ _ _ s.d) _ _ hm
 exact ⟨fun e => s.ok (h1 e) E.E, k.ok E hn y h2 hL⟩⟩
@[reducible] def vz (s : Sz) (k : PT os β) : PT os β := ⟨s.w k.a, fun E => s.p E ∧ k.q E, k.m, k.n, fun E hn y hm hL => ⟨s.ok E.E, k.ok E hn y hm hL⟩⟩
@[reducible] def vy (b : Bool) (s : Sz) (k : PT os β) : PT os β := ⟨s.w k.a, fun E => (b = true → s.p E) ∧ k.q E, k.m, k.n, fun E hn y hm hL => ⟨fun _ => s.ok E.E, k.ok E hn y hm hL⟩⟩
@[reducible] def v2 (s : Sp) (p1 p2 : En → Prop) (h : s.c → ∀ E, p1 E ∧ p2 E) (k : PT os β) : PT os β := ⟨s.w k.a, fun E => p1 E ∧ p2 E ∧ k.q E, @ite _ s.c s.d k.m none, k.n, fun E hn y hm hL => by
 obtain ⟨h1, h2⟩ := @Zax _ _ s.d _ _ hm
 exact ⟨(h h1 E.E).1, (h h1 E.E).2, k.ok E hn y h2 hL⟩⟩
@[reducible] def vw (w : AT → AT) (k : PT os β) : PT os β := ⟨w k.a, k.q, k.m, k.n, k.ok⟩
@[reducible] def br (b : Bool) (t f : PT os β) : PT os β := ⟨.br t.a f.a, fun E => (b = true → t.q E) ∧ (b = false → f.q E), if b = true then t.m else f.m, fun E => t.n E ∧ f.n E, fun E hn y hm hL =>
 ⟨fun e => t.ok E hn.1 y (by rw [if_pos e] at hm; exact hm) hL, fun e => f.ok E hn.2 y (by rw [if_neg (by rw [e]; decide)] at hm; exact hm) hL⟩⟩
@[reducible] def al {α : Type} (e : α → List D) (xs : List α) (neg : Bool) (k : Bool → PT os β) : PT os β := ⟨(k neg).a, fun E => ∀ b : Bool, (xs.map e ≠ [] → b = neg) → (k b).q E, (k neg).m,
 fun E => (∀ b, (k b).n E) ∧ ∀ b, xs = [] → (k b).m = (k neg).m, fun E hn y hm hL b hb => by
  by_cases h : xs = []
  ·exact (k b).ok E (hn.1 b) y ((hn.2 b h).trans hm) hL
  ·have : b = neg := hb (by intro h2; exact h (List.map_eq_nil_iff.1 h2))
   subst this
   exact (k b).ok E (hn.1 b) y hm hL⟩
@[reducible] def dd : PT os β := ⟨.nil, fun _ => False, none, fun _ => True, fun _ _ _ h _ => by cases h⟩
@[reducible] def lf (p : En → Prop) (y : β) : PT os β := ⟨.nil, p, some y, fun E => HL E.L y → p E.E, fun E hn z hm hL => hn (by cases hm; exact hL)⟩
@[reducible] def lc (s : St) (m : Option β) : PT os β := ⟨.nil, fun E => E.Q .normal s, m, fun E => ∀ y, m = some y → HL E.L y → E.E.Q .normal s, fun E hn y hm hL => hn y hm hL⟩
@[reducible] def lxc (i : Nat) (s : St) (m : Option β) : PT os β := ⟨.nil, fun E => E.Q (.exit i) s, m, fun E => ∀ y, m = some y → HL E.L y → E.E.Q (.exit i) s, fun E hn y hm hL => hn y hm hL⟩
@[reducible] def lfe (c : Prop) [Decidable c] (p : En → Prop) (y : β) : PT os β := ⟨.nil, p, if c then some y else none, fun E => c → HL E.L y → p E.E, fun E hn z hm hL => by
 obtain ⟨h0, hm⟩ := Zax hm
 cases hm
 exact hn h0 hL⟩
@[reducible] def lr (er : β → AV) (bs : β → List Blk) (y : β) : PT os β := lf (fun E => E.P (er y) (bs y)) y
section
variable {σ ξ ρ : Type}
@[reducible] def lrt (er : ρ → AV) (bs : ρ → List Blk) (y : ρ) : PT os (Lv σ ξ ρ) := lf (fun E => E.P (er y) (bs y)) (.rt y)
@[reducible] def ln (S : σ → St) (v : σ) : PT os (Lv σ ξ ρ) := lf (fun E => E.Q .normal (S v)) (.nx v)
@[reducible] def lxe (X : ξ → Nat × St) (b : ξ) : PT os (Lv σ ξ ρ) := lf (fun E => E.Q (.exit (X b).1) (X b).2) (.ex b)
end
section
variable {α : Type} [Rw α]
@[reducible] def ix (xs : List α) (i : Nat) (k : α → PT os β) : PT os β :=
 ⟨.ds (Rw.f (xs.getD i Rw.z)) (k (xs.getD i Rw.z)).a, fun E => Zwp (xs.map Rw.e) ((i : Nat) : Int) (Rw.f (xs.getD i Rw.z)) ∧ (k (xs.getD i Rw.z)).q E, xs[i]?.bind fun x => (k x).m, fun E => ∀ x, (k x).n E, fun E hn y hm hL => by
  obtain ⟨x, h1, h2⟩ := bind_some hm
  have e : xs.getD i Rw.z = x := by rw [List.getD_eq_getElem?_getD, h1]; rfl
  rw [e]
  exact ⟨Zqb h1 Rw.ef, (k x).ok E (hn x) y h2 hL⟩⟩
@[reducible] def ixi (xs : List α) (i : Int) (k : α → PT os β) : PT os β :=
 ⟨.ds (Rw.f (xs.getD i.toNat Rw.z)) (k (xs.getD i.toNat Rw.z)).a, fun E => Zwp (xs.map Rw.e) i (Rw.f (xs.getD i.toNat Rw.z)) ∧ (k (xs.getD i.toNat Rw.z)).q E, if 0 ≤ i then xs[i.toNat]?.bind fun x => (k x).m else none, fun E => ∀ x, (k x).n E, fun E hn y hm hL => by
  obtain ⟨h0, hm⟩ := Zax hm
  obtain ⟨x, h1, h2⟩ := bind_some hm
  have e : xs.getD i.toNat Rw.z = x := by rw [List.getD_eq_getElem?_getD, h1]; rfl
  have hlt := (List.getElem?_eq_some_iff.1 h1).1
  exact ⟨Zl1 h0 (by omega) Rw.ef, by rw [e]; exact (k x).ok E (hn x) y h2 hL⟩⟩
@[reducible] def ixg (b : Bool) (xs : List α) (i : Int) (k : α → PT os β) : PT os β :=
 ⟨.ds (Rw.f (xs.getD i.toNat Rw.z)) (k (xs.getD i.toNat Rw.z)).a, fun E => (b = true → Zwp (xs.map Rw.e) i (Rw.f (xs.getD i.toNat Rw.z))) ∧ (k (xs.getD i.toNat Rw.z)).q E, if (b = true → 0 ≤ i ∧ i < xs.length) then (k (xs.getD i.toNat Rw.z)).m else none, fun E => ∀ x, (k x).n E, fun E hn y hm hL => by
  obtain ⟨h0, hm⟩ := Zax hm
  exact ⟨fun e => Zl1 (h0 e).1 (h0 e).2 Rw.ef, (k _).ok E (hn _) y hm hL⟩⟩
@[reducible] def ca (xs : List α) (j : Nat) (k : α → PT os β) : PT os β :=
 ⟨.cs ((Rw.f (xs.getD j Rw.z)).map .d) (k (xs.getD j Rw.z)).a, fun E => Zb7 (Zaa Rw.e xs) (j * Rw.s α) ((Rw.f (xs.getD j Rw.z)).map .d) ∧ (k (xs.getD j Rw.z)).q E, xs[j]?.bind fun x => (k x).m, fun E => ∀ x, (k x).n E, fun E hn y hm hL => by
  obtain ⟨x, h1, h2⟩ := bind_some hm
  have e : xs.getD j Rw.z = x := by rw [List.getD_eq_getElem?_getD, h1]; rfl
  rw [e]
  exact ⟨Zm7 h1 Rw.len Rw.ef, (k x).ok E (hn x) y h2 hL⟩⟩
theorem ZKY {xs : List α} {j o m : Nat} (ho : Nat.ble (o + m) (Rw.s α) = true) (h : j < xs.length) : Zb7 (Zaa Rw.e xs) (j * Rw.s α + o) ((((Rw.f (xs.getD j Rw.z)).map AV.d).drop o).take m) := by
 have hl : ((Rw.f (xs.getD j Rw.z)).map AV.d).length = Rw.s α := by rw [List.length_map, ← Rw.ef, Rw.len]
 have ho := Nat.le_of_ble_eq_true ho
 exact Zjo h Rw.len Rw.ef (by rw [List.length_take, List.length_drop, hl, Nat.min_eq_left (by omega)]) (by rw [List.length_take, List.length_drop, hl]; omega)
@[reducible] def cp (xs : List α) (j o m : Nat) (k : α → PT os β) (ho : Nat.ble (o + m) (Rw.s α) = true := by kernel_rfl) : PT os β :=
 ⟨.cs ((((Rw.f (xs.getD j Rw.z)).map AV.d).drop o).take m) (k (xs.getD j Rw.z)).a, fun E => Zb7 (Zaa Rw.e xs) (j * Rw.s α + o) ((((Rw.f (xs.getD j Rw.z)).map AV.d).drop o).take m) ∧ (k (xs.getD j Rw.z)).q E, xs[j]?.bind fun x => (k x).m, fun E => ∀ x, (k x).n E, fun E hn y hm hL => by
  obtain ⟨x, h1, h2⟩ := bind_some hm
  have e : xs.getD j Rw.z = x := by rw [List.getD_eq_getElem?_getD, h1]; rfl
  exact ⟨ZKY ho (List.getElem?_eq_some_iff.1 h1).1, by rw [e]; exact (k x).ok E (hn x) y h2 hL⟩⟩
@[reducible] def cag (b : Bool) (xs : List α) (j : Nat) (k : α → PT os β) : PT os β :=
 ⟨.cs ((Rw.f (xs.getD j Rw.z)).map .d) (k (xs.getD j Rw.z)).a, fun E => (b = true → Zb7 (Zaa Rw.e xs) (j * Rw.s α) ((Rw.f (xs.getD j Rw.z)).map .d)) ∧ (k (xs.getD j Rw.z)).q E, if (b = true → j < xs.length) then (k (xs.getD j Rw.z)).m else none, fun E => ∀ x, (k x).n E, fun E hn y hm hL => by
  obtain ⟨h0, hm⟩ := Zax hm
  exact ⟨fun e => Zg4 (h0 e) Rw.len Rw.ef, (k _).ok E (hn _) y hm hL⟩⟩
@[reducible] def st (xs : List α) (j : Nat) (y : α) : Sp := ⟨.cs (Zaa Rw.e (xs.set j y)), fun _ => StS (Zaa Rw.e xs) (j * Rw.s α) ((Rw.f y).map .d) (Zaa Rw.e (xs.set j y)), j < xs.length, inferInstance, fun h _ => ZtJ h Rw.len Rw.ef⟩
@[reducible] def eqL (xs : List α) : Sz := ⟨.num ((xs.length : Nat) : Int), fun _ => EqI ((xs.map (Rw.e (α := α))).length : Nat) ((xs.length : Nat) : Int), fun _ => Zy9 _ _⟩
@[reducible] def fl (xs : List α) : Sz := ⟨id, fun _ => ZjZ (Zaa Rw.e xs), fun _ => Zak _ _⟩
@[reducible] def fz (xs : List α) : Sz := ⟨id, fun _ => FzR (Zaa Rw.e xs) 0 xs.length (Rw.s α) (xs.map Rw.e), fun _ => ZkP _ Rw.s0 Rw.len⟩
@[reducible] def fr (xs : List α) : Sz := ⟨.av (.d (.list (xs.map Rw.e))), fun _ => FzR (Zaa Rw.e xs) 0 xs.length (Rw.s α) (xs.map Rw.e), fun _ => ZkP _ Rw.s0 Rw.len⟩
@[reducible] def ap (xs : List α) (y : α) (k : PT os β) : PT os β := ⟨.nat 1 (.cs (Zaa Rw.e [y]) (.cs (Zaa Rw.e (xs ++ [y])) (.nat (xs ++ [y]).length k.a))),
 fun E => Zof (Rw.s α) [] (.d (.list [Rw.f y])) 1 (Zaa Rw.e [y]) ∧ ZCk (Zaa Rw.e xs) 0 xs.length 1 (Rw.s α) 256 (Zaa Rw.e [y]) (Zaa Rw.e (xs ++ [y])) (xs ++ [y]).length ∧ k.q E,
 if xs.length < 549755813887 then k.m else none, k.n, fun E hn z hm hL => by
  obtain ⟨h0, hm⟩ := Zax hm
  exact ⟨Zjz _ Rw.len Rw.ef, Zf6 xs [y] Rw.len rfl rfl (by rw [List.length_singleton]; omega), k.ok E hn z hm hL⟩⟩
@[reducible] def aq (xs ys : List α) (k : PT os β) : PT os β := ⟨.nat ys.length (.cs (Zaa Rw.e ys) (.cs (Zaa Rw.e (xs ++ ys)) (.nat (xs ++ ys).length k.a))),
 fun E => Zof (Rw.s α) [] (.d (.list (ys.map Rw.e))) ys.length (Zaa Rw.e ys) ∧ ZCk (Zaa Rw.e xs) 0 xs.length ys.length (Rw.s α) 256 (Zaa Rw.e ys) (Zaa Rw.e (xs ++ ys)) (xs ++ ys).length ∧ k.q E,
 if xs.length + ys.length < 549755813888 then k.m else none, k.n, fun E hn z hm hL => by
  obtain ⟨h0, hm⟩ := Zax hm
  exact ⟨ZjB _ _ Rw.len, Zf6 xs ys Rw.len rfl rfl (by omega), k.ok E hn z hm hL⟩⟩
@[reducible] def ar (xs ys : List α) (kk : Key) (g : Nat) (k : PT os β) : PT os β := ⟨.nat ys.length (.cs (Zaa Rw.e ys) (.cs (Zaa Rw.e (xs ++ ys)) (.nat (xs ++ ys).length k.a))),
 fun E => Zof (Rw.s α) (Zaa Rw.e ys) (.ref kk g 0 ys.length) ys.length (Zaa Rw.e ys) ∧ ZCk (Zaa Rw.e xs) 0 xs.length ys.length (Rw.s α) 256 (Zaa Rw.e ys) (Zaa Rw.e (xs ++ ys)) (xs ++ ys).length ∧ k.q E,
 if xs.length + ys.length < 549755813888 then k.m else none, k.n, fun E hn z hm hL => by
  obtain ⟨h0, hm⟩ := Zax hm
  exact ⟨Zuy _ _ _ Rw.len, Zf6 xs ys Rw.len rfl rfl (by omega), k.ok E hn z hm hL⟩⟩
@[reducible] def a1 (y : α) (k : PT os β) : PT os β := ⟨.nat 1 (.cs (Zaa Rw.e [y]) k.a), fun E => Zof (Rw.s α) [] (.d (.list [Rw.f y])) 1 (Zaa Rw.e [y]) ∧ ZCT 1 256 ∧ k.q E, k.m, k.n, fun E hn z hm hL => ⟨Zjz _ Rw.len Rw.ef, by unfold ZCT; decide, k.ok E hn z hm hL⟩⟩
@[reducible] def a0 (ys : List α) (k : PT os β) : PT os β := ⟨.nat ys.length (.cs (Zaa Rw.e ys) k.a), fun E => Zof (Rw.s α) [] (.d (.list (ys.map Rw.e))) ys.length (Zaa Rw.e ys) ∧ ZCT ys.length 256 ∧ k.q E, if ys.length < 549755813888 then k.m else none, k.n, fun E hn z hm hL => by
  obtain ⟨h0, hm⟩ := Zax hm
  exact ⟨ZjB _ _ Rw.len, by unfold ZCT; omega, k.ok E hn z hm hL⟩⟩
@[reducible] def ms (m : Nat) (z : α) (zc : List AV) (hz : (Rw.e z).map .d = zc) (k : PT os β) : PT os β := ⟨.nat (List.replicate m z).length (.cs (Zaa Rw.e (List.replicate m z)) k.a),
 fun E => MkS ((m : Nat) : Int) ((m : Nat) : Int) 256 (List.replicate m z).length zc (Zaa Rw.e (List.replicate m z)) ∧ k.q E, if m ≤ 549755813888 then k.m else none, k.n, fun E hn y hm hL => by
  obtain ⟨h0, hm⟩ := Zax hm
  exact ⟨⟨by rw [List.length_replicate], Int.le_refl _, by omega, by rw [List.length_replicate]; exact Zw3 hz m⟩, k.ok E hn y hm hL⟩⟩
@[reducible] def rn (j d n : Nat) (xs : List α) (k : PT os β) : PT os β := ⟨.reb j d xs.length (Zaa Rw.e xs) k.a,
 fun E => (n = xs.length ∧ 0 * Rw.s α ≤ (Zaa (Rw.e (α := α)) xs).length ∧ (Zaa Rw.e xs).drop (0 * Rw.s α) = Zaa Rw.e xs) ∧ k.q E, if n = xs.length then k.m else none, k.n, fun E hn y hm hL => by
  obtain ⟨h0, hm⟩ := Zax hm
  exact ⟨⟨h0, by rw [Nat.zero_mul]; exact Nat.zero_le _, by rw [Nat.zero_mul]; rfl⟩, k.ok E hn y hm hL⟩⟩
@[reducible] def frt (n : Nat) (xs : List α) : Sp := ⟨.av (.d (.list (xs.map Rw.e))), fun _ => FzR (Zaa Rw.e xs) 0 n (Rw.s α) (xs.map Rw.e), n = xs.length, inferInstance, fun h _ => ZzU h (ZkP _ Rw.s0 Rw.len)⟩
@[reducible] def stp (xs : List α) (j fo : Nat) (vs : List D) (Y : α → α) (he : ∀ x, Rw.e (Y x) = (Rw.e x).take fo ++ vs ++ (Rw.e x).drop (fo + vs.length)) (k : List α → PT os β) (hf : Nat.ble (fo + vs.length) (Rw.s α) = true := by kernel_rfl) : PT os β :=
 ⟨.cs (Zaa Rw.e (xs.set j (Y (xs.getD j Rw.z)))) (k (xs.set j (Y (xs.getD j Rw.z)))).a, fun E => StS (Zaa Rw.e xs) (j * Rw.s α + fo) (vs.map .d) (Zaa Rw.e (xs.set j (Y (xs.getD j Rw.z)))) ∧ (k (xs.set j (Y (xs.getD j Rw.z)))).q E, xs[j]?.bind fun x => (k (xs.set j (Y x))).m, fun E => ∀ l, (k l).n E, fun E hn y hm hL => by
  obtain ⟨x, h1, h2⟩ := bind_some hm
  have e : xs.getD j Rw.z = x := by rw [List.getD_eq_getElem?_getD, h1]; rfl
  exact ⟨ZsK (List.getElem?_eq_some_iff.1 h1).1 Rw.len (Nat.le_of_ble_eq_true hf) (he _), by rw [e]; exact (k _).ok E (hn _) y h2 hL⟩⟩
@[reducible] def rb (j d n : Nat) (xs : List α) (off : Nat) (k : PT os β) : PT os β := ⟨.reb j d (xs.drop off).length (Zaa Rw.e (xs.drop off)) k.a,
 fun E => (n = (xs.drop off).length ∧ off * Rw.s α ≤ (Zaa (Rw.e (α := α)) xs).length ∧ (Zaa Rw.e xs).drop (off * Rw.s α) = Zaa Rw.e (xs.drop off)) ∧ k.q E, if n = (xs.drop off).length ∧ off ≤ xs.length then k.m else none, k.n, fun E hn y hm hL => by
  obtain ⟨h0, hm⟩ := Zax hm
  exact ⟨ZAM h0.1 h0.2 Rw.len, k.ok E hn y hm hL⟩⟩
end
@[reducible] def vwr (q : Nat) (vs : List AV) (low : ∀ r : Ren, ZG7 r (0, q) vs) (k : PT os β) (hq : Nat.ble (q + 1) os = true := by kernel_rfl) : PT os β :=
 ⟨k.a, fun E => WrS E.r (0, q) ∧ ZG7 E.r (0, q) vs ∧ k.q E, k.m, k.n, fun E hn y hm hL => ⟨⟨rfl, by rw [E.g.no, E.g.κ]; exact E.co.W q (Nat.le_of_ble_eq_true hq)⟩, low _, k.ok E hn y hm hL⟩⟩
inductive Bd
 | no
 | nt (n : Nat)
 | it (x : Int)
def Bd.ov : Bd → Option AV
 | .no => none
 | .nt n => some (.d (.int .i64 (n : Int)))
 | .it x => some (.d (.int .i64 x))
def Bd.vl (d : Nat) : Bd → Nat
 | .no => d
 | .nt n => n
 | .it x => x.toNat
def Bd.c : Bd → Prop
 | .it x => 0 ≤ x
 | _ => True
instance (b : Bd) : Decidable b.c := by cases b <;> unfold Bd.c <;> infer_instance
theorem Bd.ok {d : Nat} {b : Bd} (h : b.c) : SlB d b.ov (b.vl d) := by
 cases b with
 | no => rfl
 | nt n => rfl
 | it x => exact (Int.toNat_of_nonneg h).symm
@[reducible] def ss (s : ByteArray) (lo hi : Bd) (k : ByteArray → PT os β) : PT os β :=
 ⟨.nat (lo.vl 0) (.nat (hi.vl s.size) (k (s.extract (lo.vl 0) (hi.vl s.size))).a), fun E => SlB 0 lo.ov (lo.vl 0) ∧ SlB s.size hi.ov (hi.vl s.size) ∧ SlS (lo.vl 0) (hi.vl s.size) s.size ∧ (k (s.extract (lo.vl 0) (hi.vl s.size))).q E,
 if lo.c ∧ hi.c ∧ lo.vl 0 ≤ hi.vl s.size ∧ hi.vl s.size ≤ s.size then (k (s.extract (lo.vl 0) (hi.vl s.size))).m else none, fun E => ∀ x, (k x).n E, fun E hn y hm hL => by
  obtain ⟨h0, hm⟩ := Zax hm
  exact ⟨Bd.ok h0.1, Bd.ok h0.2.1, h0.2.2, (k _).ok E (hn _) y hm hL⟩⟩
@[reducible] def ssg (b : Bool) (s : ByteArray) (lo hi : Bd) (k : ByteArray → PT os β) : PT os β :=
 ⟨.nat (lo.vl 0) (.nat (hi.vl s.size) (k (s.extract (lo.vl 0) (hi.vl s.size))).a), fun E => (b = true → SlB 0 lo.ov (lo.vl 0)) ∧ (b = true → SlB s.size hi.ov (hi.vl s.size)) ∧ (b = true → SlS (lo.vl 0) (hi.vl s.size) s.size) ∧ (k (s.extract (lo.vl 0) (hi.vl s.size))).q E,
 if (b = true → lo.c ∧ hi.c ∧ lo.vl 0 ≤ hi.vl s.size ∧ hi.vl s.size ≤ s.size) then (k (s.extract (lo.vl 0) (hi.vl s.size))).m else none, fun E => ∀ x, (k x).n E, fun E hn y hm hL => by
  obtain ⟨h0, hm⟩ := Zax hm
  exact ⟨fun e => Bd.ok (h0 e).1, fun e => Bd.ok (h0 e).2.1, fun e => (h0 e).2.2, (k _).ok E (hn _) y hm hL⟩⟩
section
variable {α : Type} [Rw α]
@[reducible] def sL (xs : List α) (lo hi : Bd) (k : List α → PT os β) : PT os β :=
 ⟨.nat (lo.vl 0) (.nat (hi.vl xs.length) (.av (.d (.list (((xs.drop (lo.vl 0)).take (hi.vl xs.length - lo.vl 0)).map Rw.e))) (k ((xs.drop (lo.vl 0)).take (hi.vl xs.length - lo.vl 0))).a)),
 fun E => SlB 0 lo.ov (lo.vl 0) ∧ SlB (xs.map (Rw.e (α := α))).length hi.ov (hi.vl xs.length) ∧ SlS (lo.vl 0) (hi.vl xs.length) (xs.map (Rw.e (α := α))).length ∧ SlD (xs.map Rw.e) (Rw.s α) (lo.vl 0) (hi.vl xs.length) (((xs.drop (lo.vl 0)).take (hi.vl xs.length - lo.vl 0)).map Rw.e) ∧ (k ((xs.drop (lo.vl 0)).take (hi.vl xs.length - lo.vl 0))).q E,
 if lo.c ∧ hi.c ∧ lo.vl 0 ≤ hi.vl xs.length ∧ hi.vl xs.length ≤ xs.length then (k ((xs.drop (lo.vl 0)).take (hi.vl xs.length - lo.vl 0))).m else none, fun E => ∀ x, (k x).n E, fun E hn y hm hL => by
  obtain ⟨h0, hm⟩ := Zax hm
  exact ⟨Bd.ok h0.1, by rw [List.length_map]; exact Bd.ok h0.2.1, Zx7 h0.2.2, ZwV Rw.len, (k _).ok E (hn _) y hm hL⟩⟩
end
@[reducible] def sR (len off : Nat) (lo hi : Bd) (k : PT os β) : PT os β :=
 ⟨.nat (lo.vl 0) (.nat (hi.vl len) (.nat (off + lo.vl 0) (.nat (hi.vl len - lo.vl 0) k.a))), fun E => SlB 0 lo.ov (lo.vl 0) ∧ SlB len hi.ov (hi.vl len) ∧ SlS (lo.vl 0) (hi.vl len) len ∧ SlR off (lo.vl 0) (hi.vl len) (off + lo.vl 0) (hi.vl len - lo.vl 0) ∧ k.q E,
 if lo.c ∧ hi.c ∧ lo.vl 0 ≤ hi.vl len ∧ hi.vl len ≤ len then k.m else none, k.n, fun E hn y hm hL => by
  obtain ⟨h0, hm⟩ := Zax hm
  exact ⟨Bd.ok h0.1, Bd.ok h0.2.1, h0.2.2, ⟨rfl, rfl⟩, k.ok E hn y hm hL⟩⟩
@[reducible] def eqN (n : Nat) : Sz := ⟨.num ((n : Nat) : Int), fun _ => EqI ((n : Nat) : Int) ((n : Nat) : Int), fun _ => rfl⟩
@[reducible] def wa (a b : Nat) : Sp := ⟨.num ((a + b : Nat) : Int), fun _ => ZcR .i64 (((a : Nat) : Int) + ((b : Nat) : Int)) ((a + b : Nat) : Int), a + b < 9223372036854775808, inferInstance, fun h _ => ZpL (by omega) (by omega) (by omega)⟩
@[reducible] def wm (a b : Nat) : Sp := ⟨.num ((a * b : Nat) : Int), fun _ => ZcR .i64 (((a : Nat) : Int) * ((b : Nat) : Int)) ((a * b : Nat) : Int), a * b < 9223372036854775808, inferInstance, fun h _ => ZpL (by simp) (by omega) (by omega)⟩
@[reducible] def wi (x : Int) : Sp := ⟨.num x, fun _ => ZcR .i64 x x, -9223372036854775808 ≤ x ∧ x < 9223372036854775808, inferInstance, fun h _ => ZpL rfl h.1 h.2⟩
@[reducible] def wk (i : IntKind) (x : Int) : Sz := ⟨.num (i.wrap x), fun _ => ZcR i x (i.wrap x), fun _ => rfl⟩
@[reducible] def ir (i len sz : Nat) : Sp := ⟨.nat (i * sz), fun _ => ZCC ((i : Nat) : Int) len 0 sz (i * sz), i < len, inferInstance, fun h _ => ZJ3 h⟩
@[reducible] def iri (i : Int) (len sz : Nat) : Sp := ⟨.nat (i.toNat * sz), fun _ => ZCC i len 0 sz (i.toNat * sz), 0 ≤ i ∧ i < len, inferInstance, fun h _ => Zqi h.1 h.2⟩
@[reducible] def ibi (s : ByteArray) (i : Int) (k : UInt8 → PT os β) : PT os β :=
 ⟨.num ((s.data.toList.getD i.toNat 0).toNat : Nat) (k (s.data.toList.getD i.toNat 0)).a, fun E => ZCn s i ((s.data.toList.getD i.toNat 0).toNat : Nat) ∧ (k (s.data.toList.getD i.toNat 0)).q E, if 0 ≤ i ∧ i < s.size then (k (s.data.toList.getD i.toNat 0)).m else none, fun E => ∀ x, (k x).n E, fun E hn y hm hL => by
  obtain ⟨h0, hm⟩ := Zax hm
  exact ⟨Zsw h0.1 h0.2, (k _).ok E (hn _) y hm hL⟩⟩
@[reducible] def ad (a b : ByteArray) (k : ByteArray → PT os β) : PT os β := ⟨(k (a ++ b)).a, fun E => ZMF a b ∧ (k (a ++ b)).q E, if a.size + b.size ≤ 9223372036854775807 then (k (a ++ b)).m else none, fun E => ∀ x, (k x).n E, fun E hn y hm hL => by
  obtain ⟨h0, hm⟩ := Zax hm
  exact ⟨h0, (k _).ok E (hn _) y hm hL⟩⟩
def Zaw (k : IntKind) (x y : Int) : Int := x.fdiv (2 ^ (min y.toNat k.bits))
def ZME (k : IntKind) (x y : Int) : Int := k.wrap (x * 2 ^ (min y.toNat k.bits))
def ZMy (k : IntKind) (x y : Int) : Int := k.wrap (x.tdiv y)
def ZLc (_ : IntKind) (x y : Int) : Int := x.tmod y
@[reducible] def shr (i : IntKind) (x y : Int) (k : PT os β) : PT os β := v2 ⟨.num (Zaw i x y), fun _ => True, 0 ≤ y, inferInstance, fun _ _ => trivial⟩ (fun _ => LeI 0 y) (fun _ => EqI (x.fdiv (2 ^ (min y.toNat i.bits))) (Zaw i x y)) (fun h _ => ⟨h, rfl⟩) k
@[reducible] def shl (i : IntKind) (x y : Int) (k : PT os β) : PT os β := v2 ⟨.num (ZME i x y), fun _ => True, 0 ≤ y, inferInstance, fun _ _ => trivial⟩ (fun _ => LeI 0 y) (fun _ => ZcR i (x * 2 ^ (min y.toNat i.bits)) (ZME i x y)) (fun h _ => ⟨h, rfl⟩) k
@[reducible] def quo (i : IntKind) (x y : Int) (k : PT os β) : PT os β := v2 ⟨.num (ZMy i x y), fun _ => True, y ≠ 0, inferInstance, fun _ _ => trivial⟩ (fun _ => NeI y 0) (fun _ => ZcR i (x.tdiv y) (ZMy i x y)) (fun h _ => ⟨h, rfl⟩) k
@[reducible] def rem (i : IntKind) (x y : Int) (k : PT os β) : PT os β := v2 ⟨.num (ZLc i x y), fun _ => True, y ≠ 0, inferInstance, fun _ _ => trivial⟩ (fun _ => NeI y 0) (fun _ => EqI (x.tmod y) (ZLc i x y)) (fun h _ => ⟨h, rfl⟩) k
structure KC (P : Program) (f : FuncId) (xs : List AV) {γ : Type} (M : Option γ) (e : γ → AV) : Prop where
 k : ∀ l H y, M = some y → Zcw P f l xs H (fun z H' => z = e y ∧ H' = H)
 x : ∀ r, Zas r xs = xs
 e : ∀ r y, ren r (e y) = e y
@[reducible] def cl {P : Program} {f : FuncId} {xs : List AV} {γ : Type} [Inhabited γ] {M : Option γ} {e : γ → AV} (K : KC P f xs M e) (k : γ → PT os β) : PT os β :=
 ⟨.call (e (M.getD default)) [] (k (M.getD default)).a, fun E => Zie P E.l E.r f xs [] (e (M.getD default)) ∧ (k (M.getD default)).q E, M.bind fun y => (k y).m, fun E => ∀ y, (k y).n E, fun E hn y hm hL => by
  obtain ⟨x, h1, h2⟩ := bind_some hm
  have h3 : M.getD default = x := by rw [h1]; rfl
  rw [h3]
  exact ⟨fun H' _ _ => by rw [K.x, K.e]; exact K.k _ H' x h1, (k x).ok E (hn x) y h2 hL⟩⟩
@[reducible] def clg (b : Bool) {P : Program} {f : FuncId} {xs : List AV} {γ : Type} [Inhabited γ] {M : Option γ} {e : γ → AV} (K : KC P f xs M e) (k : γ → PT os β) : PT os β :=
 ⟨.call (e (M.getD default)) [] (k (M.getD default)).a, fun E => (b = true → Zie P E.l E.r f xs [] (e (M.getD default))) ∧ (k (M.getD default)).q E, if (b = true → M.isSome = true) then (k (M.getD default)).m else none, fun E => ∀ y, (k y).n E, fun E hn y hm hL => by
  obtain ⟨h0, hm⟩ := Zax hm
  refine ⟨fun hb H' _ _ => ?_, (k _).ok E (hn _) y hm hL⟩
  obtain ⟨x, h1⟩ := Option.isSome_iff_exists.1 (h0 hb)
  have h3 : M.getD default = x := by rw [h1]; rfl
  rw [K.x, K.e, h3]; exact K.k _ H' x h1⟩
end
section
variable {P : Program} {T : Nat → Option TI} {n : Nat} {C : Cx} {τ σ : St} {Q : Exit → St → Prop} {os : Nat} {p : List Nat} {b : Code}
def pa : List Nat → Code → Code
 | [], c => c
 | i :: p, c => cAt [i] (pa p c)
def ZKW : Code → Bool
 | .seq _ _ => true
 | _ => false
def ZKp (i : Nat) : Code → Bool
 | .block j _ => Nat.beq j i
 | _ => false
def ZKx : Code → Bool
 | .cond _ _ _ => true
 | _ => false
def ZKn : Code → Bool
 | .loop _ => true
 | _ => false
theorem sq (h : LW P n C (pa (0 :: p) b) τ (fun e τ' => match e with | .normal => LW P n C (pa (1 :: p) b) τ' Q | e => Q e τ')) (hs : ZKW (pa p b) = true := by kernel_rfl) : LW P n C (pa p b) τ Q := by
 unfold pa at h
 generalize pa p b = c at *
 cases c with
 | seq x y => exact ZEZ h
 | _ => cases hs
def ZGa (P : Program) (T : Nat → Option TI) (l n os : Nat) (r : Ren) : Nat → Code → AT → St → (Exit → St → AT → Prop) → Prop
 | 0, _, a, τ, K => K .normal τ a
 | m + 1, .seq x y, a, τ, K => Zdn P T l n os r x a τ (fun e τ' a' => match e with | .normal => ZGa P T l n os r m y a' τ' K | e => K e τ' a')
 | _, _, _, _, _ => False
def rst : Nat → Code → Code
 | m + 1, .seq _ y => rst m y
 | _, c => c
def up : Nat → List Nat → List Nat
 | 0, p => p
 | m + 1, p => up m (1 :: p)
def lng : Nat → Code → Bool
 | m + 1, .seq _ y => lng m y
 | 0, _ => true
 | _, _ => false
theorem ZwI : ∀ (m : Nat) (p : List Nat), lng m (pa p b) = true → rst m (pa p b) = pa (up m p) b
 | 0, p, _ => by
  show rst 0 (pa p b) = pa p b
  cases pa p b <;> rfl
 | m + 1, p, h => by
  have ih := ZwI m (1 :: p)
  have e : pa (1 :: p) b = cAt [1] (pa p b) := rfl
  show rst (m + 1) (pa p b) = pa (up m (1 :: p)) b
  generalize pa p b = c at *
  cases c with
  | seq x y =>
   have e : pa (1 :: p) b = y := e
   rw [e] at ih
   exact ih h
  | _ => cases h
theorem ZhZ (hC : CxOk C) (hT : TOk P T) (hm : P.follows .mixedOrders = true) {γ : Key → Nat} {QQ : Exit → St → Prop} (hw : ∀ e σ σ', QQ e σ' → Wk n C σ σ' → QQ e σ) : ∀ (m : Nat) (c : Code) (a : AT) (τ σ : St) (K : Exit → St → AT → Prop), ZGa P T C.l n C.outs (C.r γ) m c a τ K → RG (C.r γ) C.l C.outs [] τ σ →
  (∀ τ' a' σ', K .normal τ' a' → RG (C.r γ) C.l C.outs [] τ' σ' → AWp P C.l n C.B (rst m c) QQ σ') → (∀ e τ' a' σ', e ≠ .normal → K e τ' a' → RG (C.r γ) C.l C.outs [] τ' σ' → QQ e σ') → AWp P C.l n C.B c QQ σ
 | 0, c, a, τ, σ, K, h, hG, hK, _ => by
  have := hK τ a σ h hG
  have e : rst 0 c = c := by cases c <;> rfl
  rwa [e] at this
 | m + 1, c, a, τ, σ, K, h, hG, hK, hE => by
  cases c with
  | seq x y =>
   refine ZiK (ZcQ (ZbC hC hT hm x a τ σ _ h hG) fun e σ' hi => ?_)
   obtain ⟨τ', a', σ'', h1, h2, h3⟩ := hi
   cases e with
   | normal => exact AWp.weak (ZhZ hC hT hm hw m y a' τ' σ'' K h1 h2 hK hE) h3
   | _ => exact hw _ _ _ (hE _ _ _ _ (by intro e; cases e) h1 h2) h3
  | _ => exact h.elim
variable {β : Type} {Post : AV → List Blk → Prop} {rs : List ResultVar} {L : β → Prop} {y : β}
theorem ZM0 (co : CO C os) (hT : TOk P T) (hm : P.follows .mixedOrders = true) {c : Code} (v : PT os β) (h : v.m = some y) (hL : HL L y)
  (hn : ∀ r (g : Gd C r), v.n ⟨⟨C.l, r, fun _ _ => False, Post⟩, L, C, co, g, rfl⟩) (hq : ∀ l r Q Post, Zdn P T l n os r c v.a τ (KF T rs os Post) = v.q ⟨l, r, Q, Post⟩ := by intro l r Q P; kernel_rfl) : LW P n C c τ (FQ T rs os Post) :=
 Zyc co.ok hT hm co.O v.a rs (fun r Post => v.q ⟨C.l, r, fun _ _ => False, Post⟩) (fun r Post => hq _ r _ Post) fun r h1 h2 h3 h4 => v.ok _ (hn r ⟨h1, h2, h3, h4⟩) y h hL
theorem ZNJ (co : CO C os) (hT : TOk P T) (hm : P.follows .mixedOrders = true) {c : Code} (v : PT os β) (lf lx : Lf) (hQ : ∀ τ, FQ T rs os Post .ret τ → Q .ret τ) (h : v.m = some y) (hL : HL L y)
  (hn : ∀ r (g : Gd C r), v.n ⟨⟨C.l, r, Q, Post⟩, L, C, co, g, rfl⟩) (hq : ∀ l r Q Post, Zdn P T l n os r c v.a τ (KB T rs os (ZiP os) r Post lf lx Q) = v.q ⟨l, r, Q, Post⟩ := by intro l r Q P; kernel_rfl) : LW P n C c τ Q :=
 Zy0 co.ok hT hm co.O co.F v.a lf lx rs (fun r Q Post => v.q ⟨C.l, r, Q, Post⟩) (hq _) hQ fun r h1 h2 h3 h4 => v.ok _ (hn r ⟨h1, h2, h3, h4⟩) y h hL
theorem ZMe (co : CO C os) (hT : TOk P T) (hm : P.follows .mixedOrders = true) (m : Nat) (v : PT os β) (lf lx : Lf) (hQ : ∀ τ, FQ T rs os Post .ret τ → Q .ret τ) (hv : v.m = some y) (hL : HL L y)
  (hn : ∀ r (g : Gd C r), v.n ⟨⟨C.l, r, fun e τ' => match e with | .normal => LW P n C (pa (up m p) b) τ' Q | e => Q e τ', Post⟩, L, C, co, g, rfl⟩)
  (hq : ∀ l r Q Post, ZGa P T l n os r m (pa p b) v.a τ (KB T rs os (ZiP os) r Post lf lx Q) = v.q ⟨l, r, Q, Post⟩ := by intro l r Q P; kernel_rfl) (hl : lng m (pa p b) = true := by kernel_rfl) : LW P n C (pa p b) τ Q := by
 intro γ σ hg hG
 have h1 := v.ok _ (hn (C.r γ) ⟨rfl, rfl, rfl, rfl⟩) y hv hL
 rw [← hq] at h1
 generalize v.a = a at h1
 rw [← co.O, show ZiP C.outs = C.fx from by rw [co.O]; exact co.F.symm] at h1
 refine ZhZ co.ok hT hm (QQ := fun e σ => Is n C (Q e) σ) (fun e σ σ' hi hw => ?_) m _ _ _ _ _ h1 hG (fun τ' a' σ' hk hG' => ?_) (fun e τ' a' σ' hne hk hG' => ?_)
 ·obtain ⟨γ', τ₂, σ₂, k0, k1, k2, k3⟩ := hi
  exact ⟨γ', τ₂, σ₂, k0, k1, k2, hw.trans k3⟩
 ·simp only [KB] at hk
  obtain ⟨τ₁, a₁, σ₁, k1, k2, k3⟩ := Zat (n := n) co.ok a' hk hG'
  obtain ⟨γ', τ₂, σ₂, j0, j1, j2, j3⟩ := Zcd (n := n) co.ok k1 hg k2
  rw [ZwI m p hl]
  exact AWp.weak (j1 γ' σ₂ j0 j2) (k3.trans j3)
 ·cases e with
  | normal => exact absurd rfl hne
  | ret => exact .of hg hG' (hQ _ ⟨.inr rfl, a', by rw [← co.O]; exact hk⟩)
  | exit i =>
   simp only [KB] at hk
   obtain ⟨τ₁, a₁, σ₁, k1, k2, k3⟩ := Zat (n := n) co.ok a' hk hG'
   obtain ⟨γ', τ₂, σ₂, j0, j1, j2, j3⟩ := Zcd (n := n) co.ok k1 hg k2
   exact ⟨γ', τ₂, σ₂, j0, j1, j2, k3.trans j3⟩
  | _ => exact hk.elim
theorem Zy6 {σ' : Type} (co : CO C os) (hT : TOk P T) (hm : P.follows .mixedOrders = true) (m : Nat) (v : PT os β) (lf lx : Lf) (hQ : ∀ τ, FQ T rs os Post .ret τ → Q .ret τ) (hv : v.m = some y) (hL : HL L y) (SJ : σ' → St) (MJ : σ' → Option β)
  (hJ : ∀ x y, MJ x = some y → HL L y → LW P n C (pa (up m p) b) (SJ x) Q)
  (hn : (∀ x y, MJ x = some y → HL L y → LW P n C (pa (up m p) b) (SJ x) Q) → ∀ r (g : Gd C r), v.n ⟨⟨C.l, r, fun e τ' => match e with | .normal => LW P n C (pa (up m p) b) τ' Q | e => Q e τ', Post⟩, L, C, co, g, rfl⟩)
  (hq : ∀ l r Q Post, ZGa P T l n os r m (pa p b) v.a τ (KB T rs os (ZiP os) r Post lf lx Q) = v.q ⟨l, r, Q, Post⟩ := by intro l r Q P; kernel_rfl) (hl : lng m (pa p b) = true := by kernel_rfl) : LW P n C (pa p b) τ Q :=
 ZMe co hT hm m v lf lx hQ hv hL (hn hJ) hq hl
theorem bk (i : Nat) (h : LW P n C (pa (0 :: p) b) τ (fun e τ' => match e with | .exit j => (match Nat.beq j i with | true => Q .normal τ' | false => Q (.exit j) τ') | e => Q e τ')) (hs : ZKp i (pa p b) = true := by kernel_rfl) : LW P n C (pa p b) τ Q := by
 unfold pa at h
 generalize pa p b = c at *
 cases c with
 | block j x => exact Zq3 i x (by rw [show j = i from Nat.eq_of_beq_eq_true hs]) h
 | _ => cases hs
theorem cd (x : Bool) {m1 m2 : Option β} (hm : (if x = true then m1 else m2) = some y) (h1 : m1 = some y → LW P n C (pa (0 :: p) b) τ Q) (h2 : m2 = some y → LW P n C (pa (1 :: p) b) τ Q) (hs : ZKx (pa p b) = true := by kernel_rfl) (he : ev τ.s (ZGL (pa p b)) = .d (.bool x) := by kernel_rfl) : LW P n C (pa p b) τ Q := by
 unfold pa at h1 h2
 generalize pa p b = c at *
 cases c with
 | cond o u v => exact ZxO he (fun e => h1 (by rw [if_pos e] at hm; exact hm)) (fun e => h2 (by rw [if_neg (by rw [e]; decide)] at hm; exact hm))
 | _ => cases hs
theorem lo (h : LL P n C (pa (0 :: p) b) τ Q) (hs : ZKn (pa p b) = true := by kernel_rfl) : LW P n C (pa p b) τ Q := by
 unfold pa at h
 generalize pa p b = c at *
 cases c with
 | loop x => exact ZBi h
 | _ => cases hs
theorem Ze7 (v : PT os β) (co : CO C os) (hv : v.m = some y) (hL : HL L y) (hn : ∀ r (g : Gd C r), v.n ⟨⟨C.l, r, fun _ _ => False, Post⟩, L, C, co, g, rfl⟩) (r : Ren) (hr : Gd C r)
  (hq : ∀ l r Q Post, ZEy T rs os τ v.a Post = v.q ⟨l, r, Q, Post⟩ := by intro l r Q P; kernel_rfl) : FQ T rs os Post .normal τ :=
 ⟨.inl rfl, v.a, by rw [hq C.l r (fun _ _ => False) Post]; exact v.ok _ (hn r hr) y hv hL⟩
end
section
variable {σ ξ ρ : Type}
def Zad (B : σ → Option (Lv σ ξ ρ)) : Nat → σ → Option (ξ ⊕ ρ)
 | 0, _ => none
 | n + 1, v => match B v with
  | some (.nx v') => Zad B n v'
  | some (.ex b) => some (.inl b)
  | some (.rt y) => some (.inr y)
  | none => none
def big : Nat := 4611686018427387904
def LvL (S : σ → St) (X : ξ → Nat × St) (er : ρ → AV) (bs : ρ → List Blk) (Q : Exit → St → Prop) (Post : AV → List Blk → Prop) : Lv σ ξ ρ → Prop
 | .nx v => Q .normal (S v)
 | .ex b => Q (.exit (X b).1) (X b).2
 | .rt y => Post (er y) (bs y)
variable {P : Program} {T : Nat → Option TI} {n : Nat} {C : Cx} {τ : St} {Q : Exit → St → Prop} {rs : List ResultVar} {os : Nat} {c : Code} {Post : AV → List Blk → Prop}
variable {S : σ → St} {X : ξ → Nat × St} {er : ρ → AV} {bs : ρ → List Blk} {B : σ → Option (Lv σ ξ ρ)}
def KL (P : Program) (T : Nat → Option TI) (n : Nat) (C : Cx) (c : Code) (rs : List ResultVar) (os : Nat) (S : σ → St) (X : ξ → Nat × St) (er : ρ → AV) (bs : ρ → List Blk) (B : σ → Option (Lv σ ξ ρ)) : Prop :=
 ∀ v o, B v = some o → ∀ (Q : Exit → St → Prop) (Post : AV → List Blk → Prop), (∀ τ, FQ T rs os Post .ret τ → Q .ret τ) → HL (LvL S X er bs Q Post) o → LW P n C c (S v) Q
theorem ZhN (hb : KL P T n C c rs os S X er bs B) (hQ : ∀ τ, FQ T rs os Post .ret τ → Q .ret τ) : ∀ (k : Nat) (v : σ) (o : ξ ⊕ ρ), Zad B k v = some o →
  (∀ b, o = .inl b → Q (.exit (X b).1) (X b).2) → (∀ y, o = .inr y → Post (er y) (bs y)) → LL P n C c (S v) Q
 | 0, v, o, h, _, _ => by cases h
 | k + 1, v, o, h, h1, h2 => by
  rw [Zad] at h
  refine ZrH ?_
  cases hv : B v with
  | none => rw [hv] at h; cases h
  | some w =>
   rw [hv] at h
   refine hb v w hv _ Post (fun τ hτ => hQ τ hτ) ?_
   cases w with
   | nx v' => exact ZhN hb hQ k v' o h h1 h2
   | ex b => cases h; exact h1 b rfl
   | rt y => cases h; exact h2 y rfl
theorem lpB {β : Type} {k : ξ ⊕ ρ → Option β} {N : Nat} {v : σ} {y : β} (hb : KL P T n C c rs os S X er bs B) (hQ : ∀ τ, FQ T rs os Post .ret τ → Q .ret τ) (hm : (Zad B N v).bind k = some y)
  (h1 : ∀ b, k (.inl b) = some y → Q (.exit (X b).1) (X b).2) (h2 : ∀ z, k (.inr z) = some y → Post (er z) (bs z)) : LL P n C c (S v) Q := by
 obtain ⟨o, e1, e2⟩ := bind_some hm
 exact ZhN hb hQ N v o e1 (fun b e => h1 b (e ▸ e2)) (fun z e => h2 z (e ▸ e2))
theorem lpF {g : ξ → Option ρ} {N : Nat} {v : σ} {y : ρ} (hb : KL P T n C c rs os S X er bs B) (hQ : ∀ τ, FQ T rs os Post .ret τ → Q .ret τ) (hm : (Zad B N v).bind (Sum.elim g some) = some y) (hL : HL (fun y => Post (er y) (bs y)) y)
  (h1 : ∀ b, g b = some y → Q (.exit (X b).1) (X b).2) (hs : S v = τ := by kernel_rfl) : LL P n C c τ Q :=
 hs ▸ lpB hb hQ hm h1 fun z hz => by cases hz; exact hL
theorem lpL {σ' ξ' : Type} {S' : σ' → St} {X' : ξ' → Nat × St} {Q' : Exit → St → Prop} {g : ξ → Option (Lv σ' ξ' ρ)} {N : Nat} {v : σ} {y : Lv σ' ξ' ρ} (hb : KL P T n C c rs os S X er bs B) (hQ : ∀ τ, FQ T rs os Post .ret τ → Q .ret τ) (hm : (Zad B N v).bind (Sum.elim g fun z => some (.rt z)) = some y) (hL : HL (LvL S' X' er bs Q' Post) y)
  (h1 : ∀ b, g b = some y → Q (.exit (X b).1) (X b).2) (hs : S v = τ := by kernel_rfl) : LL P n C c τ Q :=
 hs ▸ lpB hb hQ hm h1 fun z hz => by cases hz; exact hL
end
theorem kc1 {P : Program} {T : Nat → Option TI} {n : Nat} {f : FuncId} {fn : Func} {xs : List AV} {γ : Type} {M : Option γ} {e : γ → AV} (hf : P.funcs[f]? = some fn) (hn : fn.ntmps = n) (hT : TOk P T) (rs : List ResultVar)
  (h : ∀ C : Cx, CO C 0 → ∀ y, M = some y → ∀ Post : AV → List Blk → Prop, HL (fun y => Post (e y) []) y → LW P n C (pa [] (Zaf fn)) (mkS (Zm1 0 xs) []) (FQ T rs 0 Post))
  (hx : ∀ r, Zas r xs = xs := by intro r; kernel_rfl) (he : ∀ r y, ren r (e y) = e y := by intro r y; kernel_rfl)
  (hb : fn.body = some (Zaf fn) := by kernel_rfl) (hname : (fn.name == "runtime.NumGoroutine") = false := by kernel_rfl) (hr : fn.results.toList = rs := by kernel_rfl) (hl : Nat.ble xs.length n = true := by kernel_rfl) : KC P f xs M e :=
 ⟨fun l H y hm => Zn5 rs (Zaf fn) (fun _ => .top) xs hf hb hname hn hr (Nat.le_of_ble_eq_true hl) hT (hx _) fun B => h _ ⟨Zi1 l B _ H, rfl, rfl, fun _ h => absurd h (Nat.not_lt_zero _)⟩ y hm (fun z _ => z = e y ∧ H = H) ⟨rfl, rfl⟩, hx, he⟩
end Go.Eng
