import Derived.Test.YtpjofefihlbppaaGreatCu13
import Derived.Test.YtpjofefihlbppaaGreatCu00
namespace Go.Eng
set_option linter.all false
open Go Go.RowKit
abbrev vL {α : Type} (e : α → List D) (xs : List α) : AV := .d (.list (xs.map e))
abbrev vS (s : ByteArray) : AV := .d (.str s)
abbrev vI (x : Int) : AV := .d (.int .i64 x)
abbrev vN (x : Nat) : AV := .d (.int .i64 (x : Int))
abbrev vB (x : Bool) : AV := .d (.bool x)
abbrev nl : Lf := ⟨[], [], [], []⟩
abbrev lf1 (ls : List Nat) : Lf := ⟨ls, [], [], []⟩
abbrev lf2 (ls : List Nat) (ks : List (Key × Bool)) : Lf := ⟨ls, ks, [], []⟩
class Rw (α : Type) where
 e : α → List D
 f : α → List D
 z : α
 s : Nat
 len : ∀ x, (e x).length = s
 ef : ∀ x, e x = f x
 s0 : s ≠ 0
instance : Rw ByteArray := ⟨Zav, Zav, ⟨#[]⟩, 1, fun _ => rfl, fun _ => rfl, by decide⟩
instance : Rw Bool := ⟨ZbK, ZbK, false, 1, fun _ => rfl, fun _ => rfl, by decide⟩
instance : Rw Raw := ⟨ZaK, ZaK, ZIz, 4, fun _ => rfl, fun _ => rfl, by decide⟩
instance : Rw Val := ⟨ZaI, ZaZ, Zzb, 7, fun _ => by rw [Zed]; rfl, Zed, by decide⟩
instance : Rw Pr := ⟨rPr, ePr, zPr, 14, fun _ => by rw [Zij]; rfl, Zij, by decide⟩
instance : Rw Slt := ⟨Zar, Zhs, ZIU, 8, fun _ => by rw [ZdR]; rfl, ZdR, by decide⟩
instance : Rw Nt := ⟨eNt, eNt, zNt, 8, fun _ => rfl, fun _ => rfl, by decide⟩
instance : Rw Fld := ⟨Zat, Zat, ZJM, 16, fun _ => rfl, fun _ => rfl, by decide⟩
instance : Rw Spn := ⟨ZaB, ZaB, ZIB, 2, fun _ => rfl, fun _ => rfl, by decide⟩
instance : Rw Msg := ⟨Zan, Zan, ZIV, 5, fun _ => rfl, fun _ => rfl, by decide⟩
instance : Rw Itm := ⟨Zdx, Zdx, ZJU, 3, fun _ => rfl, fun _ => rfl, by decide⟩
instance : Rw Enm := ⟨Zap, Zap, ZJB, 5, fun _ => rfl, fun _ => rfl, by decide⟩
instance : Rw Mth := ⟨Zen, Zen, ZJE, 5, fun _ => rfl, fun _ => rfl, by decide⟩
instance : Rw Svc := ⟨Zaq, Zaq, ZIq, 3, fun _ => rfl, fun _ => rfl, by decide⟩
instance : Rw Prb := ⟨Zam, Zam, ZIA, 3, fun _ => rfl, fun _ => rfl, by decide⟩
inductive Lv (σ ξ ρ : Type) where
 | nx (v : σ)
 | ex (b : ξ)
 | rt (y : ρ)
structure En where
 l : Nat
 r : Ren
 Q : Exit → St → Prop
 P : AV → List Blk → Prop
structure Gd (C : Cx) (r : Ren) : Prop where
 θ : r.θ = C.θ
 H : r.H0 = C.H0
 κ : r.κ = C.κ
 no : r.no = C.no
structure COx (C : Cx) (os : Nat) (fx : List Nat) : Prop where
 ok : CxOk C
 O : C.outs = os
 F : C.fx = fx
 W : ∀ q, q < os → C.no (C.κ (0, q))
abbrev CO (C : Cx) (os : Nat) : Prop := COx C os (ZtH os)
def HL {β : Type} (L : β → Prop) (y : β) : Prop := L y
structure Ev (os : Nat) (β : Type) where
 E : En
 L : β → Prop
 C : Cx
 fx : List Nat
 co : COx C os fx
 g : Gd C E.r
 hl : E.l = C.l
structure PT (os : Nat) (β : Type) where
 a : AT
 q : En → Prop
 m : Option β
 n : Ev os β → Prop
 ok : ∀ E : Ev os β, n E → ∀ y, m = some y → HL E.L y → q E.E
section
variable {os : Nat} {β : Type}
structure Sp where
 w : AT → AT
 p : En → Prop
 c : Prop
 d : Decidable c
 ok : c → ∀ E, p E
structure Sz where
 w : AT → AT
 p : En → Prop
 ok : ∀ E, p E
theorem ZaC {c : Prop} [d : Decidable c] {m : Option β} {y : β} (h : (if c then m else none) = some y) : c ∧ m = some y := by
 grind
theorem bind_some {γ : Type} {m : Option γ} {k : γ → Option β} {y : β} (h : m.bind k = some y) : ∃ x, m = some x ∧ k x = some y := by
 cases m with
 | none => cases h
 | some x => exact ⟨x, rfl, h⟩
@[reducible] def vs (s : Sp) (k : PT os β) : PT os β := ⟨s.w k.a, fun E => s.p E ∧ k.q E, @ite _ s.c s.d k.m none, k.n, fun E hn y hm hL => by
 obtain ⟨h1, h2⟩ := @ZaC _ _ s.d _ _ hm
 exact ⟨s.ok h1 E.E, k.ok E hn y h2 hL⟩⟩
@[reducible] def vg (b : Bool) (s : Sp) (k : PT os β) : PT os β := ⟨s.w k.a, fun E => (b = true → s.p E) ∧ k.q E, @ite _ (b = true → s.c) (@instDecidableForall _ _ _ s.d) k.m none, k.n, fun E hn y hm hL => by
 obtain ⟨h1, h2⟩ := @ZaC _ _ (@instDecidableForall _ _ _ s.d) _ _ hm
 exact ⟨fun e => s.ok (h1 e) E.E, k.ok E hn y h2 hL⟩⟩
@[reducible] def vz (s : Sz) (k : PT os β) : PT os β := ⟨s.w k.a, fun E => s.p E ∧ k.q E, k.m, k.n, fun E hn y hm hL => ⟨s.ok E.E, k.ok E hn y hm hL⟩⟩
@[reducible] def vy (b : Bool) (s : Sz) (k : PT os β) : PT os β := ⟨s.w k.a, fun E => (b = true → s.p E) ∧ k.q E, k.m, k.n, fun E hn y hm hL => ⟨fun _ => s.ok E.E, k.ok E hn y hm hL⟩⟩
@[reducible] def v2 (s : Sp) (p1 p2 : En → Prop) (h : s.c → ∀ E, p1 E ∧ p2 E) (k : PT os β) : PT os β := ⟨s.w k.a, fun E => p1 E ∧ p2 E ∧ k.q E, @ite _ s.c s.d k.m none, k.n, fun E hn y hm hL => by
 obtain ⟨h1, h2⟩ := @ZaC _ _ s.d _ _ hm
 exact ⟨(h h1 E.E).1, (h h1 E.E).2, k.ok E hn y h2 hL⟩⟩
@[reducible] def vw (w : AT → AT) (k : PT os β) : PT os β := ⟨w k.a, k.q, k.m, k.n, k.ok⟩
@[reducible] def br (b : Bool) (t f : PT os β) : PT os β := ⟨.br t.a f.a, fun E => (b = true → t.q E) ∧ (b = false → f.q E), if b = true then t.m else f.m, fun E => t.n E ∧ f.n E, fun E hn y hm hL =>
 ⟨fun e => t.ok E hn.1 y (by rw [if_pos e] at hm; exact hm) hL, fun e => f.ok E hn.2 y (by rw [if_neg (by rw [e]; decide)] at hm; exact hm) hL⟩⟩
@[reducible] def bT (b : Bool) (t : PT os β) : PT os β := ⟨.one true t.a, fun E => (b = true → t.q E) ∧ (b = false → False), if b = true then t.m else none, t.n, fun E hn y hm hL => by
 obtain ⟨h, hm⟩ := ZaC hm
 exact ⟨fun _ => t.ok E hn y hm hL, fun e => absurd (h.symm.trans e) (by decide)⟩⟩
@[reducible] def bF (b : Bool) (f : PT os β) : PT os β := ⟨.one false f.a, fun E => (b = true → False) ∧ (b = false → f.q E), if b = false then f.m else none, f.n, fun E hn y hm hL => by
 obtain ⟨h, hm⟩ := ZaC hm
 exact ⟨fun e => absurd (e.symm.trans h) (by decide), fun _ => f.ok E hn y hm hL⟩⟩
@[reducible] def al {α : Type} (e : α → List D) (xs : List α) (neg : Bool) (k : Bool → PT os β) : PT os β := ⟨(k neg).a, fun E => ∀ b : Bool, (xs.map e ≠ [] → b = neg) → (k b).q E, (k neg).m,
 fun E => (∀ b, (k b).n E) ∧ ∀ b, xs = [] → (k b).m = (k neg).m, fun E hn y hm hL b hb => by
  by_cases h : xs = []
  ·exact (k b).ok E (hn.1 b) y ((hn.2 b h).trans hm) hL
  ·have : b = neg := hb (by intro h2; exact h (YaQ.1 h2))
   subst this
   exact (k b).ok E (hn.1 b) y hm hL⟩
@[reducible] def dd : PT os β := ⟨.nil, fun _ => False, none, fun _ => True, fun _ _ _ h _ => by cases h⟩
@[reducible] def lf (p : En → Prop) (y : β) : PT os β := ⟨.nil, p, some y, fun E => HL E.L y → p E.E, fun E hn z hm hL => hn (by cases hm; exact hL)⟩
@[reducible] def lc (s : St) (m : Option β) : PT os β := ⟨.nil, fun E => E.Q .normal s, m, fun E => ∀ y, m = some y → HL E.L y → E.E.Q .normal s, fun E hn y hm hL => hn y hm hL⟩
@[reducible] def lfe (c : Prop) [Decidable c] (p : En → Prop) (y : β) : PT os β := ⟨.nil, p, if c then some y else none, fun E => c → HL E.L y → p E.E, fun E hn z hm hL => by
 obtain ⟨h0, hm⟩ := ZaC hm
 cases hm
 exact hn h0 hL⟩
@[reducible] def lr (er : β → AV) (bs : β → List Blk) (y : β) : PT os β := lf (fun E => E.P (er y) (bs y)) y
section
variable {σ ξ ρ : Type}
@[reducible] def lrt (er : ρ → AV) (bs : ρ → List Blk) (y : ρ) : PT os (Lv σ ξ ρ) := lf (fun E => E.P (er y) (bs y)) (.rt y)
@[reducible] def ln (S : σ → St) (v : σ) : PT os (Lv σ ξ ρ) := lf (fun E => E.Q .normal (S v)) (.nx v)
@[reducible] def lxe (X : ξ → Nat × St) (b : ξ) : PT os (Lv σ ξ ρ) := lf (fun E => E.Q (.exit (X b).1) (X b).2) (.ex b)
end
section
variable {α : Type} [Rw α]
@[reducible] def ix (xs : List α) (i : Nat) (k : α → PT os β) : PT os β :=
 ⟨.ds (Rw.f (xs.getD i Rw.z)) (k (xs.getD i Rw.z)).a, fun E => Ztm (xs.map Rw.e) ((i : Nat) : Int) (Rw.f (xs.getD i Rw.z)) ∧ (k (xs.getD i Rw.z)).q E, xs[i]?.bind fun x => (k x).m, fun E => ∀ x, (k x).n E, fun E hn y hm hL => by
  obtain ⟨x, h1, h2⟩ := bind_some hm
  have e : xs.getD i Rw.z = x := by rw [Yr, h1]; rfl
  rw [e]
  exact ⟨Zoq h1 Rw.ef, (k x).ok E (hn x) y h2 hL⟩⟩
@[reducible] def ixi (xs : List α) (i : Int) (k : α → PT os β) : PT os β :=
 ⟨.ds (Rw.f (xs.getD i.toNat Rw.z)) (k (xs.getD i.toNat Rw.z)).a, fun E => Ztm (xs.map Rw.e) i (Rw.f (xs.getD i.toNat Rw.z)) ∧ (k (xs.getD i.toNat Rw.z)).q E, if 0 ≤ i then xs[i.toNat]?.bind fun x => (k x).m else none, fun E => ∀ x, (k x).n E, fun E hn y hm hL => by
  obtain ⟨h0, hm⟩ := ZaC hm
  obtain ⟨x, h1, h2⟩ := bind_some hm
  have e : xs.getD i.toNat Rw.z = x := by rw [Yr, h1]; rfl
  have hlt := (Yi.1 h1).1
  exact ⟨Zj6 h0 (by omega) Rw.ef, by rw [e]; exact (k x).ok E (hn x) y h2 hL⟩⟩
@[reducible] def ixg (b : Bool) (xs : List α) (i : Int) (k : α → PT os β) : PT os β :=
 ⟨.ds (Rw.f (xs.getD i.toNat Rw.z)) (k (xs.getD i.toNat Rw.z)).a, fun E => (b = true → Ztm (xs.map Rw.e) i (Rw.f (xs.getD i.toNat Rw.z))) ∧ (k (xs.getD i.toNat Rw.z)).q E, if (b = true → 0 ≤ i ∧ i < xs.length) then (k (xs.getD i.toNat Rw.z)).m else none, fun E => ∀ x, (k x).n E, fun E hn y hm hL => by
  obtain ⟨h0, hm⟩ := ZaC hm
  exact ⟨fun e => Zj6 (h0 e).1 (h0 e).2 Rw.ef, (k _).ok E (hn _) y hm hL⟩⟩
@[reducible] def ca (xs : List α) (j : Nat) (k : α → PT os β) : PT os β :=
 ⟨.cs ((Rw.f (xs.getD j Rw.z)).map .d) (k (xs.getD j Rw.z)).a, fun E => Zcb (Zab Rw.e xs) (j * Rw.s α) ((Rw.f (xs.getD j Rw.z)).map .d) ∧ (k (xs.getD j Rw.z)).q E, xs[j]?.bind fun x => (k x).m, fun E => ∀ x, (k x).n E, fun E hn y hm hL => by
  obtain ⟨x, h1, h2⟩ := bind_some hm
  have e : xs.getD j Rw.z = x := by rw [Yr, h1]; rfl
  rw [e]
  exact ⟨Zlj h1 Rw.len Rw.ef, (k x).ok E (hn x) y h2 hL⟩⟩
theorem ZFD {xs : List α} {j o m : Nat} (ho : Nat.ble (o + m) (Rw.s α) = true) (h : j < xs.length) : Zcb (Zab Rw.e xs) (j * Rw.s α + o) ((((Rw.f (xs.getD j Rw.z)).map AV.d).drop o).take m) := by
 have hl : ((Rw.f (xs.getD j Rw.z)).map AV.d).length = Rw.s α := by rw [Ys, ← Rw.ef, Rw.len]
 have ho := Yc ho
 exact Zia h Rw.len Rw.ef (by rw [YH, YZ, hl, Y8 (by omega)]) (by rw [YH, YZ, hl]; omega)
@[reducible] def cp (xs : List α) (j o m : Nat) (k : α → PT os β) (ho : Nat.ble (o + m) (Rw.s α) = true := by kernel_rfl) : PT os β :=
 ⟨.cs ((((Rw.f (xs.getD j Rw.z)).map AV.d).drop o).take m) (k (xs.getD j Rw.z)).a, fun E => Zcb (Zab Rw.e xs) (j * Rw.s α + o) ((((Rw.f (xs.getD j Rw.z)).map AV.d).drop o).take m) ∧ (k (xs.getD j Rw.z)).q E, xs[j]?.bind fun x => (k x).m, fun E => ∀ x, (k x).n E, fun E hn y hm hL => by
  obtain ⟨x, h1, h2⟩ := bind_some hm
  have e : xs.getD j Rw.z = x := by rw [Yr, h1]; rfl
  exact ⟨ZFD ho (Yi.1 h1).1, by rw [e]; exact (k x).ok E (hn x) y h2 hL⟩⟩
@[reducible] def cag (b : Bool) (xs : List α) (j : Nat) (k : α → PT os β) : PT os β :=
 ⟨.cs ((Rw.f (xs.getD j Rw.z)).map .d) (k (xs.getD j Rw.z)).a, fun E => (b = true → Zcb (Zab Rw.e xs) (j * Rw.s α) ((Rw.f (xs.getD j Rw.z)).map .d)) ∧ (k (xs.getD j Rw.z)).q E, if (b = true → j < xs.length) then (k (xs.getD j Rw.z)).m else none, fun E => ∀ x, (k x).n E, fun E hn y hm hL => by
  obtain ⟨h0, hm⟩ := ZaC hm
  exact ⟨fun e => Zf6 (h0 e) Rw.len Rw.ef, (k _).ok E (hn _) y hm hL⟩⟩
@[reducible] def st (xs : List α) (j : Nat) (y : α) : Sp := ⟨.cs (Zab Rw.e (xs.set j y)), fun _ => StS (Zab Rw.e xs) (j * Rw.s α) ((Rw.f y).map .d) (Zab Rw.e (xs.set j y)), j < xs.length, inferInstance, fun h _ => ZpP h Rw.len Rw.ef⟩
@[reducible] def eqL (xs : List α) : Sz := ⟨.num ((xs.length : Nat) : Int), fun _ => EqI ((xs.map (Rw.e (α := α))).length : Nat) ((xs.length : Nat) : Int), fun _ => Zvg _ _⟩
@[reducible] def fl (xs : List α) : Sz := ⟨id, fun _ => Zgk (Zab Rw.e xs), fun _ => Zaf _ _⟩
@[reducible] def fz (xs : List α) : Sz := ⟨id, fun _ => FzR (Zab Rw.e xs) 0 xs.length (Rw.s α) (xs.map Rw.e), fun _ => ZiH _ Rw.s0 Rw.len⟩
@[reducible] def fr (xs : List α) : Sz := ⟨.av (.d (.list (xs.map Rw.e))), fun _ => FzR (Zab Rw.e xs) 0 xs.length (Rw.s α) (xs.map Rw.e), fun _ => ZiH _ Rw.s0 Rw.len⟩
@[reducible] def ap (xs : List α) (y : α) (k : PT os β) : PT os β := ⟨.nat 1 (.cs (Zab Rw.e [y]) (.cs (Zab Rw.e (xs ++ [y])) (.nat (xs ++ [y]).length k.a))),
 fun E => ZoN (Rw.s α) [] (.d (.list [Rw.f y])) 1 (Zab Rw.e [y]) ∧ ZAr (Zab Rw.e xs) 0 xs.length 1 (Rw.s α) 256 (Zab Rw.e [y]) (Zab Rw.e (xs ++ [y])) (xs ++ [y]).length ∧ k.q E,
 if xs.length < 549755813887 then k.m else none, k.n, fun E hn z hm hL => by
  obtain ⟨h0, hm⟩ := ZaC hm
  exact ⟨Zh8 _ Rw.len Rw.ef, Zhx xs [y] Rw.len rfl rfl (by rw [List.length_singleton]; omega), k.ok E hn z hm hL⟩⟩
@[reducible] def aq (xs ys : List α) (k : PT os β) : PT os β := ⟨.nat ys.length (.cs (Zab Rw.e ys) (.cs (Zab Rw.e (xs ++ ys)) (.nat (xs ++ ys).length k.a))),
 fun E => ZoN (Rw.s α) [] (.d (.list (ys.map Rw.e))) ys.length (Zab Rw.e ys) ∧ ZAr (Zab Rw.e xs) 0 xs.length ys.length (Rw.s α) 256 (Zab Rw.e ys) (Zab Rw.e (xs ++ ys)) (xs ++ ys).length ∧ k.q E,
 if xs.length + ys.length < 549755813888 then k.m else none, k.n, fun E hn z hm hL => by
  obtain ⟨h0, hm⟩ := ZaC hm
  exact ⟨Zih _ _ Rw.len, Zhx xs ys Rw.len rfl rfl (by omega), k.ok E hn z hm hL⟩⟩
@[reducible] def a1 (y : α) (k : PT os β) : PT os β := ⟨.nat 1 (.cs (Zab Rw.e [y]) k.a), fun E => ZoN (Rw.s α) [] (.d (.list [Rw.f y])) 1 (Zab Rw.e [y]) ∧ Zzr 1 256 ∧ k.q E, k.m, k.n, fun E hn z hm hL => ⟨Zh8 _ Rw.len Rw.ef, by unfold Zzr; decide, k.ok E hn z hm hL⟩⟩
@[reducible] def a0 (ys : List α) (k : PT os β) : PT os β := ⟨.nat ys.length (.cs (Zab Rw.e ys) k.a), fun E => ZoN (Rw.s α) [] (.d (.list (ys.map Rw.e))) ys.length (Zab Rw.e ys) ∧ Zzr ys.length 256 ∧ k.q E, if ys.length < 549755813888 then k.m else none, k.n, fun E hn z hm hL => by
  obtain ⟨h0, hm⟩ := ZaC hm
  exact ⟨Zih _ _ Rw.len, by unfold Zzr; omega, k.ok E hn z hm hL⟩⟩
@[reducible] def ms (m : Nat) (z : α) (zc : List AV) (hz : (Rw.e z).map .d = zc) (k : PT os β) : PT os β := ⟨.nat (List.replicate m z).length (.cs (Zab Rw.e (List.replicate m z)) k.a),
 fun E => MkS ((m : Nat) : Int) ((m : Nat) : Int) 256 (List.replicate m z).length zc (Zab Rw.e (List.replicate m z)) ∧ k.q E, if m ≤ 549755813888 then k.m else none, k.n, fun E hn y hm hL => by
  obtain ⟨h0, hm⟩ := ZaC hm
  exact ⟨⟨by rw [Ybh], Int.le_refl _, by omega, by rw [Ybh]; exact ZyS hz m⟩, k.ok E hn y hm hL⟩⟩
@[reducible] def rn (j d n : Nat) (xs : List α) (k : PT os β) : PT os β := ⟨.reb j d xs.length (Zab Rw.e xs) k.a,
 fun E => (n = xs.length ∧ 0 * Rw.s α ≤ (Zab (Rw.e (α := α)) xs).length ∧ (Zab Rw.e xs).drop (0 * Rw.s α) = Zab Rw.e xs) ∧ k.q E, if n = xs.length then k.m else none, k.n, fun E hn y hm hL => by
  obtain ⟨h0, hm⟩ := ZaC hm
  exact ⟨⟨h0, by rw [YaL]; exact Yal _, by rw [YaL]; rfl⟩, k.ok E hn y hm hL⟩⟩
@[reducible] def frt (n : Nat) (xs : List α) : Sp := ⟨.av (.d (.list (xs.map Rw.e))), fun _ => FzR (Zab Rw.e xs) 0 n (Rw.s α) (xs.map Rw.e), n = xs.length, inferInstance, fun h _ => Zvj h (ZiH _ Rw.s0 Rw.len)⟩
@[reducible] def stp (xs : List α) (j fo : Nat) (vs : List D) (Y : α → α) (he : ∀ x, Rw.e (Y x) = (Rw.e x).take fo ++ vs ++ (Rw.e x).drop (fo + vs.length)) (k : List α → PT os β) (hf : Nat.ble (fo + vs.length) (Rw.s α) = true := by kernel_rfl) : PT os β :=
 ⟨.cs (Zab Rw.e (xs.set j (Y (xs.getD j Rw.z)))) (k (xs.set j (Y (xs.getD j Rw.z)))).a, fun E => StS (Zab Rw.e xs) (j * Rw.s α + fo) (vs.map .d) (Zab Rw.e (xs.set j (Y (xs.getD j Rw.z)))) ∧ (k (xs.set j (Y (xs.getD j Rw.z)))).q E, xs[j]?.bind fun x => (k (xs.set j (Y x))).m, fun E => ∀ l, (k l).n E, fun E hn y hm hL => by
  obtain ⟨x, h1, h2⟩ := bind_some hm
  have e : xs.getD j Rw.z = x := by rw [Yr, h1]; rfl
  exact ⟨ZrU (Yi.1 h1).1 Rw.len (Yc hf) (he _), by rw [e]; exact (k _).ok E (hn _) y h2 hL⟩⟩
@[reducible] def rb (j d n : Nat) (xs : List α) (off : Nat) (k : PT os β) : PT os β := ⟨.reb j d (xs.drop off).length (Zab Rw.e (xs.drop off)) k.a,
 fun E => (n = (xs.drop off).length ∧ off * Rw.s α ≤ (Zab (Rw.e (α := α)) xs).length ∧ (Zab Rw.e xs).drop (off * Rw.s α) = Zab Rw.e (xs.drop off)) ∧ k.q E, if n = (xs.drop off).length ∧ off ≤ xs.length then k.m else none, k.n, fun E hn y hm hL => by
  obtain ⟨h0, hm⟩ := ZaC hm
  exact ⟨ZuE h0.1 h0.2 Rw.len, k.ok E hn y hm hL⟩⟩
end
@[reducible] def vwr (q : Nat) (vs : List AV) (low : ∀ r : Ren, Zln r (0, q) vs) (k : PT os β) (hq : Nat.ble (q + 1) os = true := by kernel_rfl) : PT os β :=
 ⟨k.a, fun E => WrS E.r (0, q) ∧ Zln E.r (0, q) vs ∧ k.q E, k.m, k.n, fun E hn y hm hL => ⟨⟨rfl, by rw [E.g.no, E.g.κ]; exact E.co.W q (Yc hq)⟩, low _, k.ok E hn y hm hL⟩⟩
inductive Bd
 | no
 | nt (n : Nat)
 | it (x : Int)
def Bd.ov : Bd → Option AV
 | .no => none
 | .nt n => some (.d (.int .i64 (n : Int)))
 | .it x => some (.d (.int .i64 x))
def Bd.vl (d : Nat) : Bd → Nat
 | .no => d
 | .nt n => n
 | .it x => x.toNat
def Bd.c : Bd → Prop
 | .it x => 0 ≤ x
 | _ => True
instance (b : Bd) : Decidable b.c := by cases b <;> unfold Bd.c <;> infer_instance
theorem Bd.ok {d : Nat} {b : Bd} (h : b.c) : SlB d b.ov (b.vl d) := by
 cases b with
 | no => rfl
 | nt n => rfl
 | it x => exact (Int.toNat_of_nonneg h).symm
@[reducible] def ss (s : ByteArray) (lo hi : Bd) (k : ByteArray → PT os β) : PT os β :=
 ⟨.nat (lo.vl 0) (.nat (hi.vl s.size) (k (s.extract (lo.vl 0) (hi.vl s.size))).a), fun E => SlB 0 lo.ov (lo.vl 0) ∧ SlB s.size hi.ov (hi.vl s.size) ∧ SlS (lo.vl 0) (hi.vl s.size) s.size ∧ (k (s.extract (lo.vl 0) (hi.vl s.size))).q E,
 if lo.c ∧ hi.c ∧ lo.vl 0 ≤ hi.vl s.size ∧ hi.vl s.size ≤ s.size then (k (s.extract (lo.vl 0) (hi.vl s.size))).m else none, fun E => ∀ x, (k x).n E, fun E hn y hm hL => by
  obtain ⟨h0, hm⟩ := ZaC hm
  exact ⟨Bd.ok h0.1, Bd.ok h0.2.1, h0.2.2, (k _).ok E (hn _) y hm hL⟩⟩
@[reducible] def ssg (b : Bool) (s : ByteArray) (lo hi : Bd) (k : ByteArray → PT os β) : PT os β :=
 ⟨.nat (lo.vl 0) (.nat (hi.vl s.size) (k (s.extract (lo.vl 0) (hi.vl s.size))).a), fun E => (b = true → SlB 0 lo.ov (lo.vl 0)) ∧ (b = true → SlB s.size hi.ov (hi.vl s.size)) ∧ (b = true → SlS (lo.vl 0) (hi.vl s.size) s.size) ∧ (k (s.extract (lo.vl 0) (hi.vl s.size))).q E,
 if (b = true → lo.c ∧ hi.c ∧ lo.vl 0 ≤ hi.vl s.size ∧ hi.vl s.size ≤ s.size) then (k (s.extract (lo.vl 0) (hi.vl s.size))).m else none, fun E => ∀ x, (k x).n E, fun E hn y hm hL => by
  obtain ⟨h0, hm⟩ := ZaC hm
  exact ⟨fun e => Bd.ok (h0 e).1, fun e => Bd.ok (h0 e).2.1, fun e => (h0 e).2.2, (k _).ok E (hn _) y hm hL⟩⟩
section
variable {α : Type} [Rw α]
@[reducible] def sL (xs : List α) (lo hi : Bd) (k : List α → PT os β) : PT os β :=
 ⟨.nat (lo.vl 0) (.nat (hi.vl xs.length) (.av (.d (.list (((xs.drop (lo.vl 0)).take (hi.vl xs.length - lo.vl 0)).map Rw.e))) (k ((xs.drop (lo.vl 0)).take (hi.vl xs.length - lo.vl 0))).a)),
 fun E => SlB 0 lo.ov (lo.vl 0) ∧ SlB (xs.map (Rw.e (α := α))).length hi.ov (hi.vl xs.length) ∧ SlS (lo.vl 0) (hi.vl xs.length) (xs.map (Rw.e (α := α))).length ∧ SlD (xs.map Rw.e) (Rw.s α) (lo.vl 0) (hi.vl xs.length) (((xs.drop (lo.vl 0)).take (hi.vl xs.length - lo.vl 0)).map Rw.e) ∧ (k ((xs.drop (lo.vl 0)).take (hi.vl xs.length - lo.vl 0))).q E,
 if lo.c ∧ hi.c ∧ lo.vl 0 ≤ hi.vl xs.length ∧ hi.vl xs.length ≤ xs.length then (k ((xs.drop (lo.vl 0)).take (hi.vl xs.length - lo.vl 0))).m else none, fun E => ∀ x, (k x).n E, fun E hn y hm hL => by
  obtain ⟨h0, hm⟩ := ZaC hm
  exact ⟨Bd.ok h0.1, by rw [Ys]; exact Bd.ok h0.2.1, ZuY h0.2.2, Zxk Rw.len, (k _).ok E (hn _) y hm hL⟩⟩
end
@[reducible] def sR (len off : Nat) (lo hi : Bd) (k : PT os β) : PT os β :=
 ⟨.nat (lo.vl 0) (.nat (hi.vl len) (.nat (off + lo.vl 0) (.nat (hi.vl len - lo.vl 0) k.a))), fun E => SlB 0 lo.ov (lo.vl 0) ∧ SlB len hi.ov (hi.vl len) ∧ SlS (lo.vl 0) (hi.vl len) len ∧ SlR off (lo.vl 0) (hi.vl len) (off + lo.vl 0) (hi.vl len - lo.vl 0) ∧ k.q E,
 if lo.c ∧ hi.c ∧ lo.vl 0 ≤ hi.vl len ∧ hi.vl len ≤ len then k.m else none, k.n, fun E hn y hm hL => by
  obtain ⟨h0, hm⟩ := ZaC hm
  exact ⟨Bd.ok h0.1, Bd.ok h0.2.1, h0.2.2, ⟨rfl, rfl⟩, k.ok E hn y hm hL⟩⟩
@[reducible] def eqN (n : Nat) : Sz := ⟨.num ((n : Nat) : Int), fun _ => EqI ((n : Nat) : Int) ((n : Nat) : Int), fun _ => rfl⟩
@[reducible] def wa (a b : Nat) : Sp := ⟨.num ((a + b : Nat) : Int), fun _ => ZcW .i64 (((a : Nat) : Int) + ((b : Nat) : Int)) ((a + b : Nat) : Int), a + b < 9223372036854775808, inferInstance, fun h _ => ZtW (by omega) (by omega) (by omega)⟩
@[reducible] def wi (x : Int) : Sp := ⟨.num x, fun _ => ZcW .i64 x x, -9223372036854775808 ≤ x ∧ x < 9223372036854775808, inferInstance, fun h _ => ZtW rfl h.1 h.2⟩
@[reducible] def wk (i : IntKind) (x : Int) : Sz := ⟨.num (i.wrap x), fun _ => ZcW i x (i.wrap x), fun _ => rfl⟩
@[reducible] def ir (i len sz : Nat) : Sp := ⟨.nat (i * sz), fun _ => Zy8 ((i : Nat) : Int) len 0 sz (i * sz), i < len, inferInstance, fun h _ => ZFW h⟩
@[reducible] def iri (i : Int) (len sz : Nat) : Sp := ⟨.nat (i.toNat * sz), fun _ => Zy8 i len 0 sz (i.toNat * sz), 0 ≤ i ∧ i < len, inferInstance, fun h _ => ZoK h.1 h.2⟩
@[reducible] def ib (s : ByteArray) (i : Nat) (k : UInt8 → PT os β) : PT os β :=
 ⟨.num ((s.data.toList.getD i 0).toNat : Nat) (k (s.data.toList.getD i 0)).a, fun E => ZsU s (i : Nat) ((s.data.toList.getD i 0).toNat : Nat) ∧ (k (s.data.toList.getD i 0)).q E, s.data.toList[i]?.bind fun x => (k x).m, fun E => ∀ x, (k x).n E, fun E hn y hm hL => by
  obtain ⟨x, h1, h2⟩ := bind_some hm
  have e : s.data.toList.getD i 0 = x := by rw [Yr, h1]; rfl
  have hlt := (Yi.1 h1).1
  exact ⟨Zpv (by simpa using hlt), by rw [e]; exact (k x).ok E (hn x) y h2 hL⟩⟩
@[reducible] def ibg (b : Bool) (s : ByteArray) (i : Int) (k : UInt8 → PT os β) : PT os β :=
 ⟨.num ((s.data.toList.getD i.toNat 0).toNat : Nat) (k (s.data.toList.getD i.toNat 0)).a, fun E => (b = true → ZsU s i ((s.data.toList.getD i.toNat 0).toNat : Nat)) ∧ (k (s.data.toList.getD i.toNat 0)).q E, if (b = true → 0 ≤ i ∧ i < s.size) then (k (s.data.toList.getD i.toNat 0)).m else none, fun E => ∀ x, (k x).n E, fun E hn y hm hL => by
  obtain ⟨h0, hm⟩ := ZaC hm
  exact ⟨fun e => Zju (h0 e).1 (h0 e).2, (k _).ok E (hn _) y hm hL⟩⟩
@[reducible] def ibi (s : ByteArray) (i : Int) (k : UInt8 → PT os β) : PT os β :=
 ⟨.num ((s.data.toList.getD i.toNat 0).toNat : Nat) (k (s.data.toList.getD i.toNat 0)).a, fun E => ZsU s i ((s.data.toList.getD i.toNat 0).toNat : Nat) ∧ (k (s.data.toList.getD i.toNat 0)).q E, if 0 ≤ i ∧ i < s.size then (k (s.data.toList.getD i.toNat 0)).m else none, fun E => ∀ x, (k x).n E, fun E hn y hm hL => by
  obtain ⟨h0, hm⟩ := ZaC hm
  exact ⟨Zju h0.1 h0.2, (k _).ok E (hn _) y hm hL⟩⟩
@[reducible] def ad (a b : ByteArray) (k : ByteArray → PT os β) : PT os β := ⟨(k (a ++ b)).a, fun E => ZHn a b ∧ (k (a ++ b)).q E, if a.size + b.size ≤ 9223372036854775807 then (k (a ++ b)).m else none, fun E => ∀ x, (k x).n E, fun E hn y hm hL => by
  obtain ⟨h0, hm⟩ := ZaC hm
  exact ⟨h0, (k _).ok E (hn _) y hm hL⟩⟩
def ZGR (k : IntKind) (x y : Int) : Int := x.fdiv (2 ^ (min y.toNat k.bits))
def ZHV (k : IntKind) (x y : Int) : Int := k.wrap (x * 2 ^ (min y.toNat k.bits))
def ZHR (k : IntKind) (x y : Int) : Int := k.wrap (x.tdiv y)
def Zy9 (_ : IntKind) (x y : Int) : Int := x.tmod y
@[reducible] def shr (i : IntKind) (x y : Int) (k : PT os β) : PT os β := v2 ⟨.num (ZGR i x y), fun _ => True, 0 ≤ y, inferInstance, fun _ _ => trivial⟩ (fun _ => LeI 0 y) (fun _ => EqI (x.fdiv (2 ^ (min y.toNat i.bits))) (ZGR i x y)) (fun h _ => ⟨h, rfl⟩) k
@[reducible] def shl (i : IntKind) (x y : Int) (k : PT os β) : PT os β := v2 ⟨.num (ZHV i x y), fun _ => True, 0 ≤ y, inferInstance, fun _ _ => trivial⟩ (fun _ => LeI 0 y) (fun _ => ZcW i (x * 2 ^ (min y.toNat i.bits)) (ZHV i x y)) (fun h _ => ⟨h, rfl⟩) k
@[reducible] def quo (i : IntKind) (x y : Int) (k : PT os β) : PT os β := v2 ⟨.num (ZHR i x y), fun _ => True, y ≠ 0, inferInstance, fun _ _ => trivial⟩ (fun _ => NeI y 0) (fun _ => ZcW i (x.tdiv y) (ZHR i x y)) (fun h _ => ⟨h, rfl⟩) k
@[reducible] def rem (i : IntKind) (x y : Int) (k : PT os β) : PT os β := v2 ⟨.num (Zy9 i x y), fun _ => True, y ≠ 0, inferInstance, fun _ _ => trivial⟩ (fun _ => NeI y 0) (fun _ => EqI (x.tmod y) (Zy9 i x y)) (fun h _ => ⟨h, rfl⟩) k
structure KC (P : Program) (f : FuncId) (xs : List AV) {γ : Type} (M : Option γ) (e : γ → AV) : Prop where
 k : ∀ l H y, M = some y → Zb9 P f l xs H (fun z H' => z = e y ∧ H' = H)
 x : ∀ r, Zau r xs = xs
 e : ∀ r y, ren r (e y) = e y
@[reducible] def cl {P : Program} {f : FuncId} {xs : List AV} {γ : Type} [Inhabited γ] {M : Option γ} {e : γ → AV} (K : KC P f xs M e) (k : γ → PT os β) : PT os β :=
 ⟨.call (e (M.getD default)) [] (k (M.getD default)).a, fun E => Zhh P E.l E.r f xs [] (e (M.getD default)) ∧ (k (M.getD default)).q E, M.bind fun y => (k y).m, fun E => ∀ y, (k y).n E, fun E hn y hm hL => by
  obtain ⟨x, h1, h2⟩ := bind_some hm
  have h3 : M.getD default = x := by rw [h1]; rfl
  rw [h3]
  exact ⟨fun H' _ _ => by rw [K.x, K.e]; exact K.k _ H' x h1, (k x).ok E (hn x) y h2 hL⟩⟩
@[reducible] def clg (b : Bool) {P : Program} {f : FuncId} {xs : List AV} {γ : Type} [Inhabited γ] {M : Option γ} {e : γ → AV} (K : KC P f xs M e) (k : γ → PT os β) : PT os β :=
 ⟨.call (e (M.getD default)) [] (k (M.getD default)).a, fun E => (b = true → Zhh P E.l E.r f xs [] (e (M.getD default))) ∧ (k (M.getD default)).q E, if (b = true → M.isSome = true) then (k (M.getD default)).m else none, fun E => ∀ y, (k y).n E, fun E hn y hm hL => by
  obtain ⟨h0, hm⟩ := ZaC hm
  refine ⟨fun hb H' _ _ => ?_, (k _).ok E (hn _) y hm hL⟩
  obtain ⟨x, h1⟩ := YK.1 (h0 hb)
  have h3 : M.getD default = x := by rw [h1]; rfl
  rw [K.x, K.e, h3]; exact K.k _ H' x h1⟩
theorem KC.nrm {P : Program} {f : FuncId} {xs xs' : List AV} {γ : Type} {M : Option γ} {e : γ → AV} (K : KC P f xs M e) (h : ∀ l H Post, Zb9 P f l xs H Post → Zb9 P f l xs' H Post) (hx : ∀ r, Zau r xs' = xs') : KC P f xs' M e := ⟨fun l H y hm => h _ _ _ (K.k l H y hm), hx, K.e⟩
end
section
variable {P : Program} {T : Nat → Option TI} {n : Nat} {C : Cx} {τ σ : St} {Q : Exit → St → Prop} {os : Nat} {p : List Nat} {b : Code}
def pa : List Nat → Code → Code
 | [], c => c
 | i :: p, c => cAt [i] (pa p c)
def ZEV : Code → Bool
 | .seq _ _ => true
 | _ => false
def ZGg (i : Nat) : Code → Bool
 | .block j _ => Nat.beq j i
 | _ => false
def ZFF : Code → Bool
 | .cond _ _ _ => true
 | _ => false
def ZE5 : Code → Bool
 | .loop _ => true
 | _ => false
theorem sq (h : LW P n C (pa (0 :: p) b) τ (fun e τ' => match e with | .normal => LW P n C (pa (1 :: p) b) τ' Q | e => Q e τ')) (hs : ZEV (pa p b) = true := by kernel_rfl) : LW P n C (pa p b) τ Q := by
 unfold pa at h
 generalize pa p b = c at *
 cases c with
 | seq x y => exact ZDS h
 | _ => cases hs
def ZEe (P : Program) (T : Nat → Option TI) (l n os : Nat) (r : Ren) : Nat → Code → AT → St → (Exit → St → AT → Prop) → Prop
 | 0, _, a, τ, K => K .normal τ a
 | m + 1, .seq x y, a, τ, K => Zdg P T l n os r x a τ (fun e τ' a' => match e with | .normal => ZEe P T l n os r m y a' τ' K | e => K e τ' a')
 | _, _, _, _, _ => False
def rst : Nat → Code → Code
 | m + 1, .seq _ y => rst m y
 | _, c => c
def up : Nat → List Nat → List Nat
 | 0, p => p
 | m + 1, p => up m (1 :: p)
def lng : Nat → Code → Bool
 | m + 1, .seq _ y => lng m y
 | 0, _ => true
 | _, _ => false
theorem ZsR : ∀ (m : Nat) (p : List Nat), lng m (pa p b) = true → rst m (pa p b) = pa (up m p) b
 | 0, p, _ => by
  show rst 0 (pa p b) = pa p b
  cases pa p b <;> rfl
 | m + 1, p, h => by
  have ih := ZsR m (1 :: p)
  have e : pa (1 :: p) b = cAt [1] (pa p b) := rfl
  show rst (m + 1) (pa p b) = pa (up m (1 :: p)) b
  generalize pa p b = c at *
  cases c with
  | seq x y =>
   have e : pa (1 :: p) b = y := e
   rw [e] at ih
   exact ih h
  | _ => cases h
theorem ZgB (hC : CxOk C) (hT : TOk P T) (hm : P.follows .mixedOrders = true) {γ : Key → Nat} {QQ : Exit → St → Prop} (hw : ∀ e σ σ', QQ e σ' → Wk n C σ σ' → QQ e σ) : ∀ (m : Nat) (c : Code) (a : AT) (τ σ : St) (K : Exit → St → AT → Prop), ZEe P T C.l n C.outs (C.r γ) m c a τ K → RG (C.r γ) C.l C.outs [] τ σ →
  (∀ τ' a' σ', K .normal τ' a' → RG (C.r γ) C.l C.outs [] τ' σ' → AWp P C.l n C.B (rst m c) QQ σ') → (∀ e τ' a' σ', e ≠ .normal → K e τ' a' → RG (C.r γ) C.l C.outs [] τ' σ' → QQ e σ') → AWp P C.l n C.B c QQ σ
 | 0, c, a, τ, σ, K, h, hG, hK, _ => by
  have := hK τ a σ h hG
  have e : rst 0 c = c := by cases c <;> rfl
  grind
 | m + 1, c, a, τ, σ, K, h, hG, hK, hE => by
  cases c with
  | seq x y =>
   refine ZgO (ZcD (Za0 hC hT hm x a τ σ _ h hG) fun e σ' hi => ?_)
   obtain ⟨τ', a', σ'', h1, h2, h3⟩ := hi
   cases e with
   | normal => exact AWp.weak (ZgB hC hT hm hw m y a' τ' σ'' K h1 h2 hK hE) h3
   | _ => exact hw _ _ _ (hE _ _ _ _ (by intro e; cases e) h1 h2) h3
  | _ => exact h.elim
variable {β : Type} {Post : AV → List Blk → Prop} {rs : List ResultVar} {L : β → Prop} {y : β}
theorem ZaE {fx : List Nat} (co : COx C os fx) (hT : TOk P T) (hm : P.follows .mixedOrders = true) {c : Code} (v : PT os β) (h : v.m = some y) (hL : HL L y)
  (hn : ∀ r (g : Gd C r), v.n ⟨⟨C.l, r, fun _ _ => False, Post⟩, L, C, _, co, g, rfl⟩) (hq : ∀ l r Q Post, Zdg P T l n os r c v.a τ (KF T rs os Post) = v.q ⟨l, r, Q, Post⟩ := by intro l r Q P; kernel_rfl) : LW P n C c τ (FQ T rs os Post) :=
 ZvZ co.ok hT hm co.O v.a rs (fun r Post => v.q ⟨C.l, r, fun _ _ => False, Post⟩) (fun r Post => hq _ r _ Post) fun r h1 h2 h3 h4 => v.ok _ (hn r ⟨h1, h2, h3, h4⟩) y h hL
theorem ZbE {fx : List Nat} (co : COx C os fx) (hT : TOk P T) (hm : P.follows .mixedOrders = true) {c : Code} (v : PT os β) (lf lx : Lf) (hQ : ∀ τ, FQ T rs os Post .ret τ → Q .ret τ) (h : v.m = some y) (hL : HL L y)
  (hn : ∀ r (g : Gd C r), v.n ⟨⟨C.l, r, Q, Post⟩, L, C, _, co, g, rfl⟩) (hq : ∀ l r Q Post, Zdg P T l n os r c v.a τ (KB T rs os fx r Post lf lx Q) = v.q ⟨l, r, Q, Post⟩ := by intro l r Q P; kernel_rfl) : LW P n C c τ Q :=
 ZvF co.ok hT hm co.O co.F v.a lf lx rs (fun r Q Post => v.q ⟨C.l, r, Q, Post⟩) (hq _) hQ fun r h1 h2 h3 h4 => v.ok _ (hn r ⟨h1, h2, h3, h4⟩) y h hL
theorem Zax {fx : List Nat} (co : COx C os fx) (hT : TOk P T) (hm : P.follows .mixedOrders = true) (m : Nat) (v : PT os β) (lf lx : Lf) (hQ : ∀ τ, FQ T rs os Post .ret τ → Q .ret τ) (hv : v.m = some y) (hL : HL L y)
  (hn : ∀ r (g : Gd C r), v.n ⟨⟨C.l, r, fun e τ' => match e with | .normal => LW P n C (pa (up m p) b) τ' Q | e => Q e τ', Post⟩, L, C, _, co, g, rfl⟩)
  (hq : ∀ l r Q Post, ZEe P T l n os r m (pa p b) v.a τ (KB T rs os fx r Post lf lx Q) = v.q ⟨l, r, Q, Post⟩ := by intro l r Q P; kernel_rfl) (hl : lng m (pa p b) = true := by kernel_rfl) : LW P n C (pa p b) τ Q := by
 intro γ σ hg hG
 have h1 := v.ok _ (hn (C.r γ) ⟨rfl, rfl, rfl, rfl⟩) y hv hL
 rw [← hq] at h1
 generalize v.a = a at h1
 rw [← co.O, ← co.F] at h1
 refine ZgB co.ok hT hm (QQ := fun e σ => Is n C (Q e) σ) (fun e σ σ' hi hw => ?_) m _ _ _ _ _ h1 hG (fun τ' a' σ' hk hG' => ?_) (fun e τ' a' σ' hne hk hG' => ?_)
 ·obtain ⟨γ', τ₂, σ₂, k0, k1, k2, k3⟩ := hi
  exact ⟨γ', τ₂, σ₂, k0, k1, k2, hw.trans k3⟩
 ·simp only [KB] at hk
  obtain ⟨τ₁, a₁, σ₁, k1, k2, k3⟩ := Zas (n := n) co.ok a' hk hG'
  obtain ⟨γ', τ₂, σ₂, j0, j1, j2, j3⟩ := Zb5 (n := n) co.ok k1 hg k2
  rw [ZsR m p hl]
  exact AWp.weak (j1 γ' σ₂ j0 j2) (k3.trans j3)
 ·cases e with
  | normal => exact absurd rfl hne
  | ret => exact .of hg hG' (hQ _ ⟨.inr rfl, a', by rw [← co.O]; exact hk⟩)
  | exit i =>
   simp only [KB] at hk
   obtain ⟨τ₁, a₁, σ₁, k1, k2, k3⟩ := Zas (n := n) co.ok a' hk hG'
   obtain ⟨γ', τ₂, σ₂, j0, j1, j2, j3⟩ := Zb5 (n := n) co.ok k1 hg k2
   exact ⟨γ', τ₂, σ₂, j0, j1, j2, k3.trans j3⟩
  | _ => exact hk.elim
theorem ZFQ {σ' : Type} {fx : List Nat} (co : COx C os fx) (hT : TOk P T) (hm : P.follows .mixedOrders = true) (m : Nat) (v : PT os β) (lf lx : Lf) (hQ : ∀ τ, FQ T rs os Post .ret τ → Q .ret τ) (hv : v.m = some y) (hL : HL L y) (SJ : σ' → St) (MJ : σ' → Option β)
  (hJ : ∀ x y, MJ x = some y → HL L y → LW P n C (pa (up m p) b) (SJ x) Q)
  (hn : (∀ x y, MJ x = some y → HL L y → LW P n C (pa (up m p) b) (SJ x) Q) → ∀ r (g : Gd C r), v.n ⟨⟨C.l, r, fun e τ' => match e with | .normal => LW P n C (pa (up m p) b) τ' Q | e => Q e τ', Post⟩, L, C, _, co, g, rfl⟩)
  (hq : ∀ l r Q Post, ZEe P T l n os r m (pa p b) v.a τ (KB T rs os fx r Post lf lx Q) = v.q ⟨l, r, Q, Post⟩ := by intro l r Q P; kernel_rfl) (hl : lng m (pa p b) = true := by kernel_rfl) : LW P n C (pa p b) τ Q :=
 Zax co hT hm m v lf lx hQ hv hL (hn hJ) hq hl
theorem bk (i : Nat) (h : LW P n C (pa (0 :: p) b) τ (fun e τ' => match e with | .exit j => (match Nat.beq j i with | true => Q .normal τ' | false => Q (.exit j) τ') | e => Q e τ')) (hs : ZGg i (pa p b) = true := by kernel_rfl) : LW P n C (pa p b) τ Q := by
 unfold pa at h
 generalize pa p b = c at *
 cases c with
 | block j x => exact Zpm i x (by rw [show j = i from Ya hs]) h
 | _ => cases hs
theorem cd (x : Bool) {m1 m2 : Option β} (hm : (if x = true then m1 else m2) = some y) (h1 : m1 = some y → LW P n C (pa (0 :: p) b) τ Q) (h2 : m2 = some y → LW P n C (pa (1 :: p) b) τ Q) (hs : ZFF (pa p b) = true := by kernel_rfl) (he : ev τ.s (ZA3 (pa p b)) = .d (.bool x) := by kernel_rfl) : LW P n C (pa p b) τ Q := by
 unfold pa at h1 h2
 generalize pa p b = c at *
 cases c with
 | cond o u v => exact ZyR he (fun e => h1 (by rw [if_pos e] at hm; exact hm)) (fun e => h2 (by rw [if_neg (by rw [e]; decide)] at hm; exact hm))
 | _ => cases hs
theorem lo (h : LL P n C (pa (0 :: p) b) τ Q) (hs : ZE5 (pa p b) = true := by kernel_rfl) : LW P n C (pa p b) τ Q := by
 unfold pa at h
 generalize pa p b = c at *
 cases c with
 | loop x => exact Zx2 h
 | _ => cases hs
theorem ZCi (v : PT os β) {fx : List Nat} (co : COx C os fx) (hv : v.m = some y) (hL : HL L y) (hn : ∀ r (g : Gd C r), v.n ⟨⟨C.l, r, fun _ _ => False, Post⟩, L, C, _, co, g, rfl⟩) (r : Ren) (hr : Gd C r)
  (hq : ∀ l r Q Post, ZDF T rs os τ v.a Post = v.q ⟨l, r, Q, Post⟩ := by intro l r Q P; kernel_rfl) : FQ T rs os Post .normal τ :=
 ⟨.inl rfl, v.a, by rw [hq C.l r (fun _ _ => False) Post]; exact v.ok _ (hn r hr) y hv hL⟩
end
section
variable {σ ξ ρ : Type}
def Zag (B : σ → Option (Lv σ ξ ρ)) : Nat → σ → Option (ξ ⊕ ρ)
 | 0, _ => none
 | n + 1, v => match B v with
  | some (.nx v') => Zag B n v'
  | some (.ex b) => some (.inl b)
  | some (.rt y) => some (.inr y)
  | none => none
def big : Nat := 4611686018427387904
def LvL (S : σ → St) (X : ξ → Nat × St) (er : ρ → AV) (bs : ρ → List Blk) (Q : Exit → St → Prop) (Post : AV → List Blk → Prop) : Lv σ ξ ρ → Prop
 | .nx v => Q .normal (S v)
 | .ex b => Q (.exit (X b).1) (X b).2
 | .rt y => Post (er y) (bs y)
variable {P : Program} {T : Nat → Option TI} {n : Nat} {C : Cx} {τ : St} {Q : Exit → St → Prop} {rs : List ResultVar} {os : Nat} {c : Code} {Post : AV → List Blk → Prop}
variable {S : σ → St} {X : ξ → Nat × St} {er : ρ → AV} {bs : ρ → List Blk} {B : σ → Option (Lv σ ξ ρ)}
def KL (P : Program) (T : Nat → Option TI) (n : Nat) (C : Cx) (c : Code) (rs : List ResultVar) (os : Nat) (S : σ → St) (X : ξ → Nat × St) (er : ρ → AV) (bs : ρ → List Blk) (B : σ → Option (Lv σ ξ ρ)) : Prop :=
 ∀ v o, B v = some o → ∀ (Q : Exit → St → Prop) (Post : AV → List Blk → Prop), (∀ τ, FQ T rs os Post .ret τ → Q .ret τ) → HL (LvL S X er bs Q Post) o → LW P n C c (S v) Q
theorem ZgD (hb : KL P T n C c rs os S X er bs B) (hQ : ∀ τ, FQ T rs os Post .ret τ → Q .ret τ) : ∀ (k : Nat) (v : σ) (o : ξ ⊕ ρ), Zag B k v = some o →
  (∀ b, o = .inl b → Q (.exit (X b).1) (X b).2) → (∀ y, o = .inr y → Post (er y) (bs y)) → LL P n C c (S v) Q
 | 0, v, o, h, _, _ => by cases h
 | k + 1, v, o, h, h1, h2 => by
  rw [Zag] at h
  refine ZjX ?_
  cases hv : B v with
  | none => rw [hv] at h; cases h
  | some w =>
   rw [hv] at h
   refine hb v w hv _ Post (fun τ hτ => hQ τ hτ) ?_
   cases w with
   | nx v' => exact ZgD hb hQ k v' o h h1 h2
   | ex b => cases h; exact h1 b rfl
   | rt y => cases h; exact h2 y rfl
theorem lpB {β : Type} {k : ξ ⊕ ρ → Option β} {N : Nat} {v : σ} {y : β} (hb : KL P T n C c rs os S X er bs B) (hQ : ∀ τ, FQ T rs os Post .ret τ → Q .ret τ) (hm : (Zag B N v).bind k = some y)
  (h1 : ∀ b, k (.inl b) = some y → Q (.exit (X b).1) (X b).2) (h2 : ∀ z, k (.inr z) = some y → Post (er z) (bs z)) : LL P n C c (S v) Q := by
 obtain ⟨o, e1, e2⟩ := bind_some hm
 exact ZgD hb hQ N v o e1 (fun b e => h1 b (e ▸ e2)) (fun z e => h2 z (e ▸ e2))
theorem lpF {g : ξ → Option ρ} {N : Nat} {v : σ} {y : ρ} (hb : KL P T n C c rs os S X er bs B) (hQ : ∀ τ, FQ T rs os Post .ret τ → Q .ret τ) (hm : (Zag B N v).bind (Sum.elim g some) = some y) (hL : HL (fun y => Post (er y) (bs y)) y)
  (h1 : ∀ b, g b = some y → Q (.exit (X b).1) (X b).2) (hs : S v = τ := by kernel_rfl) : LL P n C c τ Q :=
 hs ▸ lpB hb hQ hm h1 fun z hz => by cases hz; exact hL
theorem lpL {σ' ξ' : Type} {S' : σ' → St} {X' : ξ' → Nat × St} {Q' : Exit → St → Prop} {g : ξ → Option (Lv σ' ξ' ρ)} {N : Nat} {v : σ} {y : Lv σ' ξ' ρ} (hb : KL P T n C c rs os S X er bs B) (hQ : ∀ τ, FQ T rs os Post .ret τ → Q .ret τ) (hm : (Zag B N v).bind (Sum.elim g fun z => some (.rt z)) = some y) (hL : HL (LvL S' X' er bs Q' Post) y)
  (h1 : ∀ b, g b = some y → Q (.exit (X b).1) (X b).2) (hs : S v = τ := by kernel_rfl) : LL P n C c τ Q :=
 hs ▸ lpB hb hQ hm h1 fun z hz => by cases hz; exact hL
end
theorem kc1 {P : Program} {T : Nat → Option TI} {n : Nat} {f : FuncId} {fn : Func} {xs : List AV} {γ : Type} {M : Option γ} {e : γ → AV} (hf : P.funcs[f]? = some fn) (hn : fn.ntmps = n) (hT : TOk P T) (rs : List ResultVar)
  (h : ∀ C : Cx, CO C 0 → ∀ y, M = some y → ∀ Post : AV → List Blk → Prop, HL (fun y => Post (e y) []) y → LW P n C (pa [] (Zah fn)) (mkS (Ziz 0 xs) []) (FQ T rs 0 Post))
  (hx : ∀ r, Zau r xs = xs := by intro r; kernel_rfl) (he : ∀ r y, ren r (e y) = e y := by intro r y; kernel_rfl)
  (hb : fn.body = some (Zah fn) := by kernel_rfl) (hname : (fn.name == "runtime.NumGoroutine") = false := by kernel_rfl) (hr : fn.results.toList = rs := by kernel_rfl) (hl : Nat.ble xs.length n = true := by kernel_rfl) : KC P f xs M e :=
 ⟨fun l H y hm => Zgz rs (Zah fn) (fun _ => .top) xs hf hb hname hn hr (Yc hl) hT (hx _) fun B => h _ ⟨ZfD l B _ H, rfl, rfl, fun _ h => absurd h (Yak _)⟩ y hm (fun z _ => z = e y ∧ H = H) ⟨rfl, rfl⟩, hx, he⟩
end Go.Eng
