import Derived.Test.YthhipejbnbochaaCs11
import Derived.Test.YthhipejbnbochaaCs00
namespace Go.Eng
set_option linter.all false
open Go Go.RowKit
abbrev vL {α : Type} (e : α → List D) (xs : List α) : AV := .d (.list (xs.map e))
abbrev vS (s : ByteArray) : AV := .d (.str s)
abbrev vI (x : Int) : AV := .d (.int .i64 x)
abbrev vN (x : Nat) : AV := .d (.int .i64 (x : Int))
abbrev vB (x : Bool) : AV := .d (.bool x)
abbrev nl : Lf := ⟨[], [], [], []⟩
abbrev lf1 (ls : List Nat) : Lf := ⟨ls, [], [], []⟩
abbrev lf2 (ls : List Nat) (ks : List (Key × Bool)) : Lf := ⟨ls, ks, [], []⟩
class Rw (α : Type) where
 e : α → List D
 f : α → List D
 z : α
 s : Nat
 len : ∀ x, (e x).length = s
 ef : ∀ x, e x = f x
 s0 : s ≠ 0
instance : Rw ByteArray := ⟨Zaj, Zaj, ⟨#[]⟩, 1, fun _ => rfl, fun _ => rfl, by decide⟩
instance : Rw Int := ⟨Zda, Zda, 0, 1, fun _ => rfl, fun _ => rfl, by decide⟩
instance : Rw Fld := ⟨Zfl, Zfl, ZAB, 16, fun _ => rfl, fun _ => rfl, by decide⟩
instance : Rw Msg := ⟨Zbx, Zbx, ZAr, 5, fun _ => rfl, fun _ => rfl, by decide⟩
instance : Rw Enm := ⟨ZbT, ZbT, ZAG, 5, fun _ => rfl, fun _ => rfl, by decide⟩
instance (α : Type) [Rw α] : Rw (List α) := ⟨fun x => [.list (x.map Rw.e)], fun x => [.list (x.map Rw.e)], [], 1, fun _ => rfl, fun _ => rfl, by decide⟩
inductive Lv (σ ξ ρ : Type) where
 | nx (v : σ)
 | ex (b : ξ)
 | rt (y : ρ)
structure En where
 l : Nat
 r : Ren
 Q : Exit → St → Prop
 P : AV → List Blk → Prop
structure Gd (C : Cx) (r : Ren) : Prop where
 θ : r.θ = C.θ
 H : r.H0 = C.H0
 κ : r.κ = C.κ
 no : r.no = C.no
structure CO (C : Cx) (os : Nat) : Prop where
 ok : CxOk C
 O : C.outs = os
 F : C.fx = Zgj os
 W : ∀ q, q < os → C.no (C.κ (0, q))
def HL {β : Type} (L : β → Prop) (y : β) : Prop := L y
structure Ev (os : Nat) (β : Type) where
 E : En
 L : β → Prop
 C : Cx
 co : CO C os
 g : Gd C E.r
 hl : E.l = C.l
structure PT (os : Nat) (β : Type) where
 a : AT
 q : En → Prop
 m : Option β
 n : Ev os β → Prop
 ok : ∀ E : Ev os β, n E → ∀ y, m = some y → HL E.L y → q E.E
section
variable {os : Nat} {β : Type}
structure Sp where
 w : AT → AT
 p : En → Prop
 c : Prop
 d : Decidable c
 ok : c → ∀ E, p E
structure Sz where
 w : AT → AT
 p : En → Prop
 ok : ∀ E, p E
theorem Zay {c : Prop} [d : Decidable c] {m : Option β} {y : β} (h : (if c then m else none) = some y) : c ∧ m = some y := by
 grind
theorem bind_some {γ : Type} {m : Option γ} {k : γ → Option β} {y : β} (h : m.bind k = some y) : ∃ x, m = some x ∧ k x = some y := by
 cases m with
 | none => cases h
 | some x => exact ⟨x, rfl, h⟩
@[reducible] def vs (s : Sp) (k : PT os β) : PT os β := ⟨s.w k.a, fun E => s.p E ∧ k.q E, @ite _ s.c s.d k.m none, k.n, fun E hn y hm hL => by
 obtain ⟨h1, h2⟩ := @Zay _ _ s.d _ _ hm
 exact ⟨s.ok h1 E.E, k.ok E hn y h2 hL⟩⟩
@[reducible] def vz (s : Sz) (k : PT os β) : PT os β := ⟨s.w k.a, fun E => s.p E ∧ k.q E, k.m, k.n, fun E hn y hm hL => ⟨s.ok E.E, k.ok E hn y hm hL⟩⟩
@[reducible] def vy (b : Bool) (s : Sz) (k : PT os β) : PT os β := ⟨s.w k.a, fun E => (b = true → s.p E) ∧ k.q E, k.m, k.n, fun E hn y hm hL => ⟨fun _ => s.ok E.E, k.ok E hn y hm hL⟩⟩
@[reducible] def v2 (s : Sp) (p1 p2 : En → Prop) (h : s.c → ∀ E, p1 E ∧ p2 E) (k : PT os β) : PT os β := ⟨s.w k.a, fun E => p1 E ∧ p2 E ∧ k.q E, @ite _ s.c s.d k.m none, k.n, fun E hn y hm hL => by
 obtain ⟨h1, h2⟩ := @Zay _ _ s.d _ _ hm
 exact ⟨(h h1 E.E).1, (h h1 E.E).2, k.ok E hn y h2 hL⟩⟩
@[reducible] def vw (w : AT → AT) (k : PT os β) : PT os β := ⟨w k.a, k.q, k.m, k.n, k.ok⟩
@[reducible] def br (b : Bool) (t f : PT os β) : PT os β := ⟨.br t.a f.a, fun E => (b = true → t.q E) ∧ (b = false → f.q E), if b = true then t.m else f.m, fun E => t.n E ∧ f.n E, fun E hn y hm hL =>
 ⟨fun e => t.ok E hn.1 y (by rw [if_pos e] at hm; exact hm) hL, fun e => f.ok E hn.2 y (by rw [if_neg (by rw [e]; decide)] at hm; exact hm) hL⟩⟩
@[reducible] def al {α : Type} (e : α → List D) (xs : List α) (neg : Bool) (k : Bool → PT os β) : PT os β := ⟨(k neg).a, fun E => ∀ b : Bool, (xs.map e ≠ [] → b = neg) → (k b).q E, (k neg).m,
 fun E => (∀ b, (k b).n E) ∧ ∀ b, xs = [] → (k b).m = (k neg).m, fun E hn y hm hL b hb => by
  by_cases h : xs = []
  ·exact (k b).ok E (hn.1 b) y ((hn.2 b h).trans hm) hL
  ·have : b = neg := hb (by intro h2; exact h (Ybc.1 h2))
   subst this
   exact (k b).ok E (hn.1 b) y hm hL⟩
@[reducible] def lf (p : En → Prop) (y : β) : PT os β := ⟨.nil, p, some y, fun E => HL E.L y → p E.E, fun E hn z hm hL => hn (by cases hm; exact hL)⟩
@[reducible] def lc (s : St) (m : Option β) : PT os β := ⟨.nil, fun E => E.Q .normal s, m, fun E => ∀ y, m = some y → HL E.L y → E.E.Q .normal s, fun E hn y hm hL => hn y hm hL⟩
@[reducible] def lxc (i : Nat) (s : St) (m : Option β) : PT os β := ⟨.nil, fun E => E.Q (.exit i) s, m, fun E => ∀ y, m = some y → HL E.L y → E.E.Q (.exit i) s, fun E hn y hm hL => hn y hm hL⟩
@[reducible] def lr (er : β → AV) (bs : β → List Blk) (y : β) : PT os β := lf (fun E => E.P (er y) (bs y)) y
section
variable {σ ξ ρ : Type}
@[reducible] def lrt (er : ρ → AV) (bs : ρ → List Blk) (y : ρ) : PT os (Lv σ ξ ρ) := lf (fun E => E.P (er y) (bs y)) (.rt y)
@[reducible] def ln (S : σ → St) (v : σ) : PT os (Lv σ ξ ρ) := lf (fun E => E.Q .normal (S v)) (.nx v)
@[reducible] def lxe (X : ξ → Nat × St) (b : ξ) : PT os (Lv σ ξ ρ) := lf (fun E => E.Q (.exit (X b).1) (X b).2) (.ex b)
end
section
variable {α : Type} [Rw α]
@[reducible] def ix (xs : List α) (i : Nat) (k : α → PT os β) : PT os β :=
 ⟨.ds (Rw.f (xs.getD i Rw.z)) (k (xs.getD i Rw.z)).a, fun E => Zs3 (xs.map Rw.e) ((i : Nat) : Int) (Rw.f (xs.getD i Rw.z)) ∧ (k (xs.getD i Rw.z)).q E, xs[i]?.bind fun x => (k x).m, fun E => ∀ x, (k x).n E, fun E hn y hm hL => by
  obtain ⟨x, h1, h2⟩ := bind_some hm
  have e : xs.getD i Rw.z = x := by rw [Yw, h1]; rfl
  rw [e]
  exact ⟨Zm0 h1 Rw.ef, (k x).ok E (hn x) y h2 hL⟩⟩
@[reducible] def ixg (b : Bool) (xs : List α) (i : Int) (k : α → PT os β) : PT os β :=
 ⟨.ds (Rw.f (xs.getD i.toNat Rw.z)) (k (xs.getD i.toNat Rw.z)).a, fun E => (b = true → Zs3 (xs.map Rw.e) i (Rw.f (xs.getD i.toNat Rw.z))) ∧ (k (xs.getD i.toNat Rw.z)).q E, if (b = true → 0 ≤ i ∧ i < xs.length) then (k (xs.getD i.toNat Rw.z)).m else none, fun E => ∀ x, (k x).n E, fun E hn y hm hL => by
  obtain ⟨h0, hm⟩ := Zay hm
  exact ⟨fun e => ZpJ (h0 e).1 (h0 e).2 Rw.ef, (k _).ok E (hn _) y hm hL⟩⟩
@[reducible] def ca (xs : List α) (j : Nat) (k : α → PT os β) : PT os β :=
 ⟨.cs ((Rw.f (xs.getD j Rw.z)).map .d) (k (xs.getD j Rw.z)).a, fun E => Zcl (Zai Rw.e xs) (j * Rw.s α) ((Rw.f (xs.getD j Rw.z)).map .d) ∧ (k (xs.getD j Rw.z)).q E, xs[j]?.bind fun x => (k x).m, fun E => ∀ x, (k x).n E, fun E hn y hm hL => by
  obtain ⟨x, h1, h2⟩ := bind_some hm
  have e : xs.getD j Rw.z = x := by rw [Yw, h1]; rfl
  rw [e]
  exact ⟨ZkK h1 Rw.len Rw.ef, (k x).ok E (hn x) y h2 hL⟩⟩
@[reducible] def st (xs : List α) (j : Nat) (y : α) : Sp := ⟨.cs (Zai Rw.e (xs.set j y)), fun _ => StS (Zai Rw.e xs) (j * Rw.s α) ((Rw.f y).map .d) (Zai Rw.e (xs.set j y)), j < xs.length, inferInstance, fun h _ => Zo9 h Rw.len Rw.ef⟩
@[reducible] def eqL (xs : List α) : Sz := ⟨.num ((xs.length : Nat) : Int), fun _ => EqI ((xs.map (Rw.e (α := α))).length : Nat) ((xs.length : Nat) : Int), fun _ => ZrH _ _⟩
@[reducible] def fl (xs : List α) : Sz := ⟨id, fun _ => ZeH (Zai Rw.e xs), fun _ => Zak _ _⟩
@[reducible] def fz (xs : List α) : Sz := ⟨id, fun _ => FzR (Zai Rw.e xs) 0 xs.length (Rw.s α) (xs.map Rw.e), fun _ => ZnJ _ Rw.s0 Rw.len⟩
@[reducible] def fr (xs : List α) : Sz := ⟨.av (.d (.list (xs.map Rw.e))), fun _ => FzR (Zai Rw.e xs) 0 xs.length (Rw.s α) (xs.map Rw.e), fun _ => ZnJ _ Rw.s0 Rw.len⟩
@[reducible] def ap (xs : List α) (y : α) (k : PT os β) : PT os β := ⟨.nat 1 (.cs (Zai Rw.e [y]) (.cs (Zai Rw.e (xs ++ [y])) (.nat (xs ++ [y]).length k.a))),
 fun E => Zh9 (Rw.s α) [] (.d (.list [Rw.f y])) 1 (Zai Rw.e [y]) ∧ Zsv (Zai Rw.e xs) 0 xs.length 1 (Rw.s α) 256 (Zai Rw.e [y]) (Zai Rw.e (xs ++ [y])) (xs ++ [y]).length ∧ k.q E,
 if xs.length < 549755813887 then k.m else none, k.n, fun E hn z hm hL => by
  obtain ⟨h0, hm⟩ := Zay hm
  exact ⟨ZhG _ Rw.len Rw.ef, ZeL xs [y] Rw.len rfl rfl (by rw [YaH]; omega), k.ok E hn z hm hL⟩⟩
@[reducible] def aq (xs ys : List α) (k : PT os β) : PT os β := ⟨.nat ys.length (.cs (Zai Rw.e ys) (.cs (Zai Rw.e (xs ++ ys)) (.nat (xs ++ ys).length k.a))),
 fun E => Zh9 (Rw.s α) [] (.d (.list (ys.map Rw.e))) ys.length (Zai Rw.e ys) ∧ Zsv (Zai Rw.e xs) 0 xs.length ys.length (Rw.s α) 256 (Zai Rw.e ys) (Zai Rw.e (xs ++ ys)) (xs ++ ys).length ∧ k.q E,
 if xs.length + ys.length < 549755813888 then k.m else none, k.n, fun E hn z hm hL => by
  obtain ⟨h0, hm⟩ := Zay hm
  exact ⟨Zhr _ _ Rw.len, ZeL xs ys Rw.len rfl rfl (by omega), k.ok E hn z hm hL⟩⟩
@[reducible] def ar (xs ys : List α) (kk : Key) (g : Nat) (k : PT os β) : PT os β := ⟨.nat ys.length (.cs (Zai Rw.e ys) (.cs (Zai Rw.e (xs ++ ys)) (.nat (xs ++ ys).length k.a))),
 fun E => Zh9 (Rw.s α) (Zai Rw.e ys) (.ref kk g 0 ys.length) ys.length (Zai Rw.e ys) ∧ Zsv (Zai Rw.e xs) 0 xs.length ys.length (Rw.s α) 256 (Zai Rw.e ys) (Zai Rw.e (xs ++ ys)) (xs ++ ys).length ∧ k.q E,
 if xs.length + ys.length < 549755813888 then k.m else none, k.n, fun E hn z hm hL => by
  obtain ⟨h0, hm⟩ := Zay hm
  exact ⟨Zqb _ _ _ Rw.len, ZeL xs ys Rw.len rfl rfl (by omega), k.ok E hn z hm hL⟩⟩
@[reducible] def a1 (y : α) (k : PT os β) : PT os β := ⟨.nat 1 (.cs (Zai Rw.e [y]) k.a), fun E => Zh9 (Rw.s α) [] (.d (.list [Rw.f y])) 1 (Zai Rw.e [y]) ∧ Zux 1 256 ∧ k.q E, k.m, k.n, fun E hn z hm hL => ⟨ZhG _ Rw.len Rw.ef, by unfold Zux; decide, k.ok E hn z hm hL⟩⟩
@[reducible] def a0 (ys : List α) (k : PT os β) : PT os β := ⟨.nat ys.length (.cs (Zai Rw.e ys) k.a), fun E => Zh9 (Rw.s α) [] (.d (.list (ys.map Rw.e))) ys.length (Zai Rw.e ys) ∧ Zux ys.length 256 ∧ k.q E, if ys.length < 549755813888 then k.m else none, k.n, fun E hn z hm hL => by
  obtain ⟨h0, hm⟩ := Zay hm
  exact ⟨Zhr _ _ Rw.len, by unfold Zux; omega, k.ok E hn z hm hL⟩⟩
@[reducible] def rn (j d n : Nat) (xs : List α) (k : PT os β) : PT os β := ⟨.reb j d xs.length (Zai Rw.e xs) k.a,
 fun E => (n = xs.length ∧ 0 * Rw.s α ≤ (Zai (Rw.e (α := α)) xs).length ∧ (Zai Rw.e xs).drop (0 * Rw.s α) = Zai Rw.e xs) ∧ k.q E, if n = xs.length then k.m else none, k.n, fun E hn y hm hL => by
  obtain ⟨h0, hm⟩ := Zay hm
  exact ⟨⟨h0, by rw [Yae]; exact Yax _, by rw [Yae]; rfl⟩, k.ok E hn y hm hL⟩⟩
@[reducible] def stp (xs : List α) (j fo : Nat) (vs : List D) (Y : α → α) (he : ∀ x, Rw.e (Y x) = (Rw.e x).take fo ++ vs ++ (Rw.e x).drop (fo + vs.length)) (k : List α → PT os β) (hf : Nat.ble (fo + vs.length) (Rw.s α) = true := by kernel_rfl) : PT os β :=
 ⟨.cs (Zai Rw.e (xs.set j (Y (xs.getD j Rw.z)))) (k (xs.set j (Y (xs.getD j Rw.z)))).a, fun E => StS (Zai Rw.e xs) (j * Rw.s α + fo) (vs.map .d) (Zai Rw.e (xs.set j (Y (xs.getD j Rw.z)))) ∧ (k (xs.set j (Y (xs.getD j Rw.z)))).q E, xs[j]?.bind fun x => (k (xs.set j (Y x))).m, fun E => ∀ l, (k l).n E, fun E hn y hm hL => by
  obtain ⟨x, h1, h2⟩ := bind_some hm
  have e : xs.getD j Rw.z = x := by rw [Yw, h1]; rfl
  exact ⟨Zpu (Yb.1 h1).1 Rw.len (Yf hf) (he _), by rw [e]; exact (k _).ok E (hn _) y h2 hL⟩⟩
@[reducible] def rb (j d n : Nat) (xs : List α) (off : Nat) (k : PT os β) : PT os β := ⟨.reb j d (xs.drop off).length (Zai Rw.e (xs.drop off)) k.a,
 fun E => (n = (xs.drop off).length ∧ off * Rw.s α ≤ (Zai (Rw.e (α := α)) xs).length ∧ (Zai Rw.e xs).drop (off * Rw.s α) = Zai Rw.e (xs.drop off)) ∧ k.q E, if n = (xs.drop off).length ∧ off ≤ xs.length then k.m else none, k.n, fun E hn y hm hL => by
  obtain ⟨h0, hm⟩ := Zay hm
  exact ⟨ZrQ h0.1 h0.2 Rw.len, k.ok E hn y hm hL⟩⟩
end
@[reducible] def vwr (q : Nat) (vs : List AV) (low : ∀ r : Ren, ZxP r (0, q) vs) (k : PT os β) (hq : Nat.ble (q + 1) os = true := by kernel_rfl) : PT os β :=
 ⟨k.a, fun E => WrS E.r (0, q) ∧ ZxP E.r (0, q) vs ∧ k.q E, k.m, k.n, fun E hn y hm hL => ⟨⟨rfl, by rw [E.g.no, E.g.κ]; exact E.co.W q (Yf hq)⟩, low _, k.ok E hn y hm hL⟩⟩
inductive Bd
 | no
 | nt (n : Nat)
 | it (x : Int)
def Bd.ov : Bd → Option AV
 | .no => none
 | .nt n => some (.d (.int .i64 (n : Int)))
 | .it x => some (.d (.int .i64 x))
def Bd.vl (d : Nat) : Bd → Nat
 | .no => d
 | .nt n => n
 | .it x => x.toNat
def Bd.c : Bd → Prop
 | .it x => 0 ≤ x
 | _ => True
instance (b : Bd) : Decidable b.c := by cases b <;> unfold Bd.c <;> infer_instance
theorem Bd.ok {d : Nat} {b : Bd} (h : b.c) : SlB d b.ov (b.vl d) := by
 cases b with
 | no => rfl
 | nt n => rfl
 | it x => exact (Int.toNat_of_nonneg h).symm
@[reducible] def ss (s : ByteArray) (lo hi : Bd) (k : ByteArray → PT os β) : PT os β :=
 ⟨.nat (lo.vl 0) (.nat (hi.vl s.size) (k (s.extract (lo.vl 0) (hi.vl s.size))).a), fun E => SlB 0 lo.ov (lo.vl 0) ∧ SlB s.size hi.ov (hi.vl s.size) ∧ SlS (lo.vl 0) (hi.vl s.size) s.size ∧ (k (s.extract (lo.vl 0) (hi.vl s.size))).q E,
 if lo.c ∧ hi.c ∧ lo.vl 0 ≤ hi.vl s.size ∧ hi.vl s.size ≤ s.size then (k (s.extract (lo.vl 0) (hi.vl s.size))).m else none, fun E => ∀ x, (k x).n E, fun E hn y hm hL => by
  obtain ⟨h0, hm⟩ := Zay hm
  exact ⟨Bd.ok h0.1, Bd.ok h0.2.1, h0.2.2, (k _).ok E (hn _) y hm hL⟩⟩
section
variable {α : Type} [Rw α]
@[reducible] def sL (xs : List α) (lo hi : Bd) (k : List α → PT os β) : PT os β :=
 ⟨.nat (lo.vl 0) (.nat (hi.vl xs.length) (.av (.d (.list (((xs.drop (lo.vl 0)).take (hi.vl xs.length - lo.vl 0)).map Rw.e))) (k ((xs.drop (lo.vl 0)).take (hi.vl xs.length - lo.vl 0))).a)),
 fun E => SlB 0 lo.ov (lo.vl 0) ∧ SlB (xs.map (Rw.e (α := α))).length hi.ov (hi.vl xs.length) ∧ SlS (lo.vl 0) (hi.vl xs.length) (xs.map (Rw.e (α := α))).length ∧ SlD (xs.map Rw.e) (Rw.s α) (lo.vl 0) (hi.vl xs.length) (((xs.drop (lo.vl 0)).take (hi.vl xs.length - lo.vl 0)).map Rw.e) ∧ (k ((xs.drop (lo.vl 0)).take (hi.vl xs.length - lo.vl 0))).q E,
 if lo.c ∧ hi.c ∧ lo.vl 0 ≤ hi.vl xs.length ∧ hi.vl xs.length ≤ xs.length then (k ((xs.drop (lo.vl 0)).take (hi.vl xs.length - lo.vl 0))).m else none, fun E => ∀ x, (k x).n E, fun E hn y hm hL => by
  obtain ⟨h0, hm⟩ := Zay hm
  exact ⟨Bd.ok h0.1, by rw [Yn]; exact Bd.ok h0.2.1, Ztz h0.2.2, Ztb Rw.len, (k _).ok E (hn _) y hm hL⟩⟩
end
@[reducible] def sR (len off : Nat) (lo hi : Bd) (k : PT os β) : PT os β :=
 ⟨.nat (lo.vl 0) (.nat (hi.vl len) (.nat (off + lo.vl 0) (.nat (hi.vl len - lo.vl 0) k.a))), fun E => SlB 0 lo.ov (lo.vl 0) ∧ SlB len hi.ov (hi.vl len) ∧ SlS (lo.vl 0) (hi.vl len) len ∧ SlR off (lo.vl 0) (hi.vl len) (off + lo.vl 0) (hi.vl len - lo.vl 0) ∧ k.q E,
 if lo.c ∧ hi.c ∧ lo.vl 0 ≤ hi.vl len ∧ hi.vl len ≤ len then k.m else none, k.n, fun E hn y hm hL => by
  obtain ⟨h0, hm⟩ := Zay hm
  exact ⟨Bd.ok h0.1, Bd.ok h0.2.1, h0.2.2, ⟨rfl, rfl⟩, k.ok E hn y hm hL⟩⟩
@[reducible] def eqN (n : Nat) : Sz := ⟨.num ((n : Nat) : Int), fun _ => EqI ((n : Nat) : Int) ((n : Nat) : Int), fun _ => rfl⟩
@[reducible] def wa (a b : Nat) : Sp := ⟨.num ((a + b : Nat) : Int), fun _ => Zb3 .i64 (((a : Nat) : Int) + ((b : Nat) : Int)) ((a + b : Nat) : Int), a + b < 9223372036854775808, inferInstance, fun h _ => ZqZ (by omega) (by omega) (by omega)⟩
@[reducible] def wi (x : Int) : Sp := ⟨.num x, fun _ => Zb3 .i64 x x, -9223372036854775808 ≤ x ∧ x < 9223372036854775808, inferInstance, fun h _ => ZqZ rfl h.1 h.2⟩
@[reducible] def ir (i len sz : Nat) : Sp := ⟨.nat (i * sz), fun _ => Zuq ((i : Nat) : Int) len 0 sz (i * sz), i < len, inferInstance, fun h _ => Zx8 h⟩
@[reducible] def iri (i : Int) (len sz : Nat) : Sp := ⟨.nat (i.toNat * sz), fun _ => Zuq i len 0 sz (i.toNat * sz), 0 ≤ i ∧ i < len, inferInstance, fun h _ => Zm1 h.1 h.2⟩
@[reducible] def ad (a b : ByteArray) (k : ByteArray → PT os β) : PT os β := ⟨(k (a ++ b)).a, fun E => ZzK a b ∧ (k (a ++ b)).q E, if a.size + b.size ≤ 9223372036854775807 then (k (a ++ b)).m else none, fun E => ∀ x, (k x).n E, fun E hn y hm hL => by
  obtain ⟨h0, hm⟩ := Zay hm
  exact ⟨h0, (k _).ok E (hn _) y hm hL⟩⟩
def ZzG (k : IntKind) (x y : Int) : Int := x.fdiv (2 ^ (min y.toNat k.bits))
def ZyV (k : IntKind) (x y : Int) : Int := k.wrap (x * 2 ^ (min y.toNat k.bits))
def ZyZ (k : IntKind) (x y : Int) : Int := k.wrap (x.tdiv y)
def Zzc (_ : IntKind) (x y : Int) : Int := x.tmod y
@[reducible] def shr (i : IntKind) (x y : Int) (k : PT os β) : PT os β := v2 ⟨.num (ZzG i x y), fun _ => True, 0 ≤ y, inferInstance, fun _ _ => trivial⟩ (fun _ => LeI 0 y) (fun _ => EqI (x.fdiv (2 ^ (min y.toNat i.bits))) (ZzG i x y)) (fun h _ => ⟨h, rfl⟩) k
@[reducible] def shl (i : IntKind) (x y : Int) (k : PT os β) : PT os β := v2 ⟨.num (ZyV i x y), fun _ => True, 0 ≤ y, inferInstance, fun _ _ => trivial⟩ (fun _ => LeI 0 y) (fun _ => Zb3 i (x * 2 ^ (min y.toNat i.bits)) (ZyV i x y)) (fun h _ => ⟨h, rfl⟩) k
@[reducible] def quo (i : IntKind) (x y : Int) (k : PT os β) : PT os β := v2 ⟨.num (ZyZ i x y), fun _ => True, y ≠ 0, inferInstance, fun _ _ => trivial⟩ (fun _ => NeI y 0) (fun _ => Zb3 i (x.tdiv y) (ZyZ i x y)) (fun h _ => ⟨h, rfl⟩) k
@[reducible] def rem (i : IntKind) (x y : Int) (k : PT os β) : PT os β := v2 ⟨.num (Zzc i x y), fun _ => True, y ≠ 0, inferInstance, fun _ _ => trivial⟩ (fun _ => NeI y 0) (fun _ => EqI (x.tmod y) (Zzc i x y)) (fun h _ => ⟨h, rfl⟩) k
structure KC (P : Program) (f : FuncId) (xs : List AV) {γ : Type} (M : Option γ) (e : γ → AV) : Prop where
 k : ∀ l H y, M = some y → Za3 P f l xs H (fun z H' => z = e y ∧ H' = H)
 x : ∀ r, Zan r xs = xs
 e : ∀ r y, ren r (e y) = e y
@[reducible] def cl {P : Program} {f : FuncId} {xs : List AV} {γ : Type} [Inhabited γ] {M : Option γ} {e : γ → AV} (K : KC P f xs M e) (k : γ → PT os β) : PT os β :=
 ⟨.call (e (M.getD default)) [] (k (M.getD default)).a, fun E => Zfe P E.l E.r f xs [] (e (M.getD default)) ∧ (k (M.getD default)).q E, M.bind fun y => (k y).m, fun E => ∀ y, (k y).n E, fun E hn y hm hL => by
  obtain ⟨x, h1, h2⟩ := bind_some hm
  have h3 : M.getD default = x := by rw [h1]; rfl
  rw [h3]
  exact ⟨fun H' _ _ => by rw [K.x, K.e]; exact K.k _ H' x h1, (k x).ok E (hn x) y h2 hL⟩⟩
@[reducible] def clg (b : Bool) {P : Program} {f : FuncId} {xs : List AV} {γ : Type} [Inhabited γ] {M : Option γ} {e : γ → AV} (K : KC P f xs M e) (k : γ → PT os β) : PT os β :=
 ⟨.call (e (M.getD default)) [] (k (M.getD default)).a, fun E => (b = true → Zfe P E.l E.r f xs [] (e (M.getD default))) ∧ (k (M.getD default)).q E, if (b = true → M.isSome = true) then (k (M.getD default)).m else none, fun E => ∀ y, (k y).n E, fun E hn y hm hL => by
  obtain ⟨h0, hm⟩ := Zay hm
  refine ⟨fun hb H' _ _ => ?_, (k _).ok E (hn _) y hm hL⟩
  obtain ⟨x, h1⟩ := YK.1 (h0 hb)
  have h3 : M.getD default = x := by rw [h1]; rfl
  rw [K.x, K.e, h3]; exact K.k _ H' x h1⟩
theorem KC.nrm {P : Program} {f : FuncId} {xs xs' : List AV} {γ : Type} {M : Option γ} {e : γ → AV} (K : KC P f xs M e) (h : ∀ l H Post, Za3 P f l xs H Post → Za3 P f l xs' H Post) (hx : ∀ r, Zan r xs' = xs') : KC P f xs' M e := ⟨fun l H y hm => h _ _ _ (K.k l H y hm), hx, K.e⟩
end
section
variable {P : Program} {T : Nat → Option TI} {n : Nat} {C : Cx} {τ σ : St} {Q : Exit → St → Prop} {os : Nat} {p : List Nat} {b : Code}
def pa : List Nat → Code → Code
 | [], c => c
 | i :: p, c => cAt [i] (pa p c)
def Zys : Code → Bool
 | .seq _ _ => true
 | _ => false
def ZxS (i : Nat) : Code → Bool
 | .block j _ => Nat.beq j i
 | _ => false
def Zyv : Code → Bool
 | .cond _ _ _ => true
 | _ => false
def ZyE : Code → Bool
 | .loop _ => true
 | _ => false
theorem sq (h : LW P n C (pa (0 :: p) b) τ (fun e τ' => match e with | .normal => LW P n C (pa (1 :: p) b) τ' Q | e => Q e τ')) (hs : Zys (pa p b) = true := by kernel_rfl) : LW P n C (pa p b) τ Q := by
 unfold pa at h
 generalize pa p b = c at *
 cases c with
 | seq x y => exact Zu7 h
 | _ => cases hs
def Zyz (P : Program) (T : Nat → Option TI) (l n os : Nat) (r : Ren) : Nat → Code → AT → St → (Exit → St → AT → Prop) → Prop
 | 0, _, a, τ, K => K .normal τ a
 | m + 1, .seq x y, a, τ, K => ZcB P T l n os r x a τ (fun e τ' a' => match e with | .normal => Zyz P T l n os r m y a' τ' K | e => K e τ' a')
 | _, _, _, _, _ => False
def rst : Nat → Code → Code
 | m + 1, .seq _ y => rst m y
 | _, c => c
def up : Nat → List Nat → List Nat
 | 0, p => p
 | m + 1, p => up m (1 :: p)
def lng : Nat → Code → Bool
 | m + 1, .seq _ y => lng m y
 | 0, _ => true
 | _, _ => false
theorem ZqD : ∀ (m : Nat) (p : List Nat), lng m (pa p b) = true → rst m (pa p b) = pa (up m p) b
 | 0, p, _ => by
  show rst 0 (pa p b) = pa p b
  cases pa p b <;> rfl
 | m + 1, p, h => by
  have ih := ZqD m (1 :: p)
  have e : pa (1 :: p) b = cAt [1] (pa p b) := rfl
  show rst (m + 1) (pa p b) = pa (up m (1 :: p)) b
  generalize pa p b = c at *
  cases c with
  | seq x y =>
   have e : pa (1 :: p) b = y := e
   rw [e] at ih
   exact ih h
  | _ => cases h
theorem ZfF (hC : CxOk C) (hT : TOk P T) (hm : P.follows .mixedOrders = true) {γ : Key → Nat} {QQ : Exit → St → Prop} (hw : ∀ e σ σ', QQ e σ' → Wk n C σ σ' → QQ e σ) : ∀ (m : Nat) (c : Code) (a : AT) (τ σ : St) (K : Exit → St → AT → Prop), Zyz P T C.l n C.outs (C.r γ) m c a τ K → RG (C.r γ) C.l C.outs [] τ σ →
  (∀ τ' a' σ', K .normal τ' a' → RG (C.r γ) C.l C.outs [] τ' σ' → AWp P C.l n C.B (rst m c) QQ σ') → (∀ e τ' a' σ', e ≠ .normal → K e τ' a' → RG (C.r γ) C.l C.outs [] τ' σ' → QQ e σ') → AWp P C.l n C.B c QQ σ
 | 0, c, a, τ, σ, K, h, hG, hK, _ => by
  have := hK τ a σ h hG
  have e : rst 0 c = c := by cases c <;> rfl
  grind
 | m + 1, c, a, τ, σ, K, h, hG, hK, hE => by
  cases c with
  | seq x y =>
   refine Zga (ZbN (Za4 hC hT hm x a τ σ _ h hG) fun e σ' hi => ?_)
   obtain ⟨τ', a', σ'', h1, h2, h3⟩ := hi
   cases e with
   | normal => exact AWp.weak (ZfF hC hT hm hw m y a' τ' σ'' K h1 h2 hK hE) h3
   | _ => exact hw _ _ _ (hE _ _ _ _ (by intro e; cases e) h1 h2) h3
  | _ => exact h.elim
variable {β : Type} {Post : AV → List Blk → Prop} {rs : List ResultVar} {L : β → Prop} {y : β}
theorem ZcM (co : CO C os) (hT : TOk P T) (hm : P.follows .mixedOrders = true) {c : Code} (v : PT os β) (h : v.m = some y) (hL : HL L y)
  (hn : ∀ r (g : Gd C r), v.n ⟨⟨C.l, r, fun _ _ => False, Post⟩, L, C, co, g, rfl⟩) (hq : ∀ l r Q Post, ZcB P T l n os r c v.a τ (KF T rs os Post) = v.q ⟨l, r, Q, Post⟩ := by intro l r Q P; kernel_rfl) : LW P n C c τ (FQ T rs os Post) :=
 Zs4 co.ok hT hm co.O v.a rs (fun r Post => v.q ⟨C.l, r, fun _ _ => False, Post⟩) (fun r Post => hq _ r _ Post) fun r h1 h2 h3 h4 => v.ok _ (hn r ⟨h1, h2, h3, h4⟩) y h hL
theorem ZaU (co : CO C os) (hT : TOk P T) (hm : P.follows .mixedOrders = true) {c : Code} (v : PT os β) (lf lx : Lf) (hQ : ∀ τ, FQ T rs os Post .ret τ → Q .ret τ) (h : v.m = some y) (hL : HL L y)
  (hn : ∀ r (g : Gd C r), v.n ⟨⟨C.l, r, Q, Post⟩, L, C, co, g, rfl⟩) (hq : ∀ l r Q Post, ZcB P T l n os r c v.a τ (KB T rs os (Zgj os) r Post lf lx Q) = v.q ⟨l, r, Q, Post⟩ := by intro l r Q P; kernel_rfl) : LW P n C c τ Q :=
 Zsf co.ok hT hm co.O co.F v.a lf lx rs (fun r Q Post => v.q ⟨C.l, r, Q, Post⟩) (hq _) hQ fun r h1 h2 h3 h4 => v.ok _ (hn r ⟨h1, h2, h3, h4⟩) y h hL
theorem Zap (co : CO C os) (hT : TOk P T) (hm : P.follows .mixedOrders = true) (m : Nat) (v : PT os β) (lf lx : Lf) (hQ : ∀ τ, FQ T rs os Post .ret τ → Q .ret τ) (hv : v.m = some y) (hL : HL L y)
  (hn : ∀ r (g : Gd C r), v.n ⟨⟨C.l, r, fun e τ' => match e with | .normal => LW P n C (pa (up m p) b) τ' Q | e => Q e τ', Post⟩, L, C, co, g, rfl⟩)
  (hq : ∀ l r Q Post, Zyz P T l n os r m (pa p b) v.a τ (KB T rs os (Zgj os) r Post lf lx Q) = v.q ⟨l, r, Q, Post⟩ := by intro l r Q P; kernel_rfl) (hl : lng m (pa p b) = true := by kernel_rfl) : LW P n C (pa p b) τ Q := by
 intro γ σ hg hG
 have h1 := v.ok _ (hn (C.r γ) ⟨rfl, rfl, rfl, rfl⟩) y hv hL
 rw [← hq] at h1
 generalize v.a = a at h1
 rw [← co.O, show Zgj C.outs = C.fx from by rw [co.O]; exact co.F.symm] at h1
 refine ZfF co.ok hT hm (QQ := fun e σ => Is n C (Q e) σ) (fun e σ σ' hi hw => ?_) m _ _ _ _ _ h1 hG (fun τ' a' σ' hk hG' => ?_) (fun e τ' a' σ' hne hk hG' => ?_)
 ·obtain ⟨γ', τ₂, σ₂, k0, k1, k2, k3⟩ := hi
  exact ⟨γ', τ₂, σ₂, k0, k1, k2, hw.trans k3⟩
 ·simp only [KB] at hk
  obtain ⟨τ₁, a₁, σ₁, k1, k2, k3⟩ := Zaq (n := n) co.ok a' hk hG'
  obtain ⟨γ', τ₂, σ₂, j0, j1, j2, j3⟩ := Zbu (n := n) co.ok k1 hg k2
  rw [ZqD m p hl]
  exact AWp.weak (j1 γ' σ₂ j0 j2) (k3.trans j3)
 ·cases e with
  | normal => exact absurd rfl hne
  | ret => exact .of hg hG' (hQ _ ⟨.inr rfl, a', by rw [← co.O]; exact hk⟩)
  | exit i =>
   simp only [KB] at hk
   obtain ⟨τ₁, a₁, σ₁, k1, k2, k3⟩ := Zaq (n := n) co.ok a' hk hG'
   obtain ⟨γ', τ₂, σ₂, j0, j1, j2, j3⟩ := Zbu (n := n) co.ok k1 hg k2
   exact ⟨γ', τ₂, σ₂, j0, j1, j2, k3.trans j3⟩
  | _ => exact hk.elim
theorem Zvo {σ' : Type} (co : CO C os) (hT : TOk P T) (hm : P.follows .mixedOrders = true) {c : Code} (v : PT os β) (lf lx : Lf) (hQ : ∀ τ, FQ T rs os Post .ret τ → Q .ret τ) (h : v.m = some y) (hL : HL L y) (e : Exit) (SJ : σ' → St) (MJ : σ' → Option β)
  (hJ : ∀ x y, MJ x = some y → HL L y → Q e (SJ x)) (hn : (∀ x y, MJ x = some y → HL L y → Q e (SJ x)) → ∀ r (g : Gd C r), v.n ⟨⟨C.l, r, Q, Post⟩, L, C, co, g, rfl⟩)
  (hq : ∀ l r Q Post, ZcB P T l n os r c v.a τ (KB T rs os (Zgj os) r Post lf lx Q) = v.q ⟨l, r, Q, Post⟩ := by intro l r Q P; kernel_rfl) : LW P n C c τ Q :=
 ZaU co hT hm v lf lx hQ h hL (hn hJ) hq
theorem bk (i : Nat) (h : LW P n C (pa (0 :: p) b) τ (fun e τ' => match e with | .exit j => (match Nat.beq j i with | true => Q .normal τ' | false => Q (.exit j) τ') | e => Q e τ')) (hs : ZxS i (pa p b) = true := by kernel_rfl) : LW P n C (pa p b) τ Q := by
 unfold pa at h
 generalize pa p b = c at *
 cases c with
 | block j x => exact Zms i x (by rw [show j = i from Ya hs]) h
 | _ => cases hs
theorem cd (x : Bool) {m1 m2 : Option β} (hm : (if x = true then m1 else m2) = some y) (h1 : m1 = some y → LW P n C (pa (0 :: p) b) τ Q) (h2 : m2 = some y → LW P n C (pa (1 :: p) b) τ Q) (hs : Zyv (pa p b) = true := by kernel_rfl) (he : ev τ.s (ZuW (pa p b)) = .d (.bool x) := by kernel_rfl) : LW P n C (pa p b) τ Q := by
 unfold pa at h1 h2
 generalize pa p b = c at *
 cases c with
 | cond o u v => exact ZsV he (fun e => h1 (by rw [if_pos e] at hm; exact hm)) (fun e => h2 (by rw [if_neg (by rw [e]; decide)] at hm; exact hm))
 | _ => cases hs
theorem lo (h : LL P n C (pa (0 :: p) b) τ Q) (hs : ZyE (pa p b) = true := by kernel_rfl) : LW P n C (pa p b) τ Q := by
 unfold pa at h
 generalize pa p b = c at *
 cases c with
 | loop x => exact Zr8 h
 | _ => cases hs
end
section
variable {σ ξ ρ : Type}
def ZaA (B : σ → Option (Lv σ ξ ρ)) : Nat → σ → Option (ξ ⊕ ρ)
 | 0, _ => none
 | n + 1, v => match B v with
  | some (.nx v') => ZaA B n v'
  | some (.ex b) => some (.inl b)
  | some (.rt y) => some (.inr y)
  | none => none
def big : Nat := 4611686018427387904
def LvL (S : σ → St) (X : ξ → Nat × St) (er : ρ → AV) (bs : ρ → List Blk) (Q : Exit → St → Prop) (Post : AV → List Blk → Prop) : Lv σ ξ ρ → Prop
 | .nx v => Q .normal (S v)
 | .ex b => Q (.exit (X b).1) (X b).2
 | .rt y => Post (er y) (bs y)
variable {P : Program} {T : Nat → Option TI} {n : Nat} {C : Cx} {τ : St} {Q : Exit → St → Prop} {rs : List ResultVar} {os : Nat} {c : Code} {Post : AV → List Blk → Prop}
variable {S : σ → St} {X : ξ → Nat × St} {er : ρ → AV} {bs : ρ → List Blk} {B : σ → Option (Lv σ ξ ρ)}
def KL (P : Program) (T : Nat → Option TI) (n : Nat) (C : Cx) (c : Code) (rs : List ResultVar) (os : Nat) (S : σ → St) (X : ξ → Nat × St) (er : ρ → AV) (bs : ρ → List Blk) (B : σ → Option (Lv σ ξ ρ)) : Prop :=
 ∀ v o, B v = some o → ∀ (Q : Exit → St → Prop) (Post : AV → List Blk → Prop), (∀ τ, FQ T rs os Post .ret τ → Q .ret τ) → HL (LvL S X er bs Q Post) o → LW P n C c (S v) Q
theorem ZfR (hb : KL P T n C c rs os S X er bs B) (hQ : ∀ τ, FQ T rs os Post .ret τ → Q .ret τ) : ∀ (k : Nat) (v : σ) (o : ξ ⊕ ρ), ZaA B k v = some o →
  (∀ b, o = .inl b → Q (.exit (X b).1) (X b).2) → (∀ y, o = .inr y → Post (er y) (bs y)) → LL P n C c (S v) Q
 | 0, v, o, h, _, _ => by cases h
 | k + 1, v, o, h, h1, h2 => by
  rw [ZaA] at h
  refine Zjw ?_
  cases hv : B v with
  | none => rw [hv] at h; cases h
  | some w =>
   rw [hv] at h
   refine hb v w hv _ Post (fun τ hτ => hQ τ hτ) ?_
   cases w with
   | nx v' => exact ZfR hb hQ k v' o h h1 h2
   | ex b => cases h; exact h1 b rfl
   | rt y => cases h; exact h2 y rfl
theorem lpB {β : Type} {k : ξ ⊕ ρ → Option β} {N : Nat} {v : σ} {y : β} (hb : KL P T n C c rs os S X er bs B) (hQ : ∀ τ, FQ T rs os Post .ret τ → Q .ret τ) (hm : (ZaA B N v).bind k = some y)
  (h1 : ∀ b, k (.inl b) = some y → Q (.exit (X b).1) (X b).2) (h2 : ∀ z, k (.inr z) = some y → Post (er z) (bs z)) : LL P n C c (S v) Q := by
 obtain ⟨o, e1, e2⟩ := bind_some hm
 exact ZfR hb hQ N v o e1 (fun b e => h1 b (e ▸ e2)) (fun z e => h2 z (e ▸ e2))
theorem lpF {g : ξ → Option ρ} {N : Nat} {v : σ} {y : ρ} (hb : KL P T n C c rs os S X er bs B) (hQ : ∀ τ, FQ T rs os Post .ret τ → Q .ret τ) (hm : (ZaA B N v).bind (Sum.elim g some) = some y) (hL : HL (fun y => Post (er y) (bs y)) y)
  (h1 : ∀ b, g b = some y → Q (.exit (X b).1) (X b).2) (hs : S v = τ := by kernel_rfl) : LL P n C c τ Q :=
 hs ▸ lpB hb hQ hm h1 fun z hz => by cases hz; exact hL
theorem lpL {σ' ξ' : Type} {S' : σ' → St} {X' : ξ' → Nat × St} {Q' : Exit → St → Prop} {g : ξ → Option (Lv σ' ξ' ρ)} {N : Nat} {v : σ} {y : Lv σ' ξ' ρ} (hb : KL P T n C c rs os S X er bs B) (hQ : ∀ τ, FQ T rs os Post .ret τ → Q .ret τ) (hm : (ZaA B N v).bind (Sum.elim g fun z => some (.rt z)) = some y) (hL : HL (LvL S' X' er bs Q' Post) y)
  (h1 : ∀ b, g b = some y → Q (.exit (X b).1) (X b).2) (hs : S v = τ := by kernel_rfl) : LL P n C c τ Q :=
 hs ▸ lpB hb hQ hm h1 fun z hz => by cases hz; exact hL
end
theorem kc1 {P : Program} {T : Nat → Option TI} {n : Nat} {f : FuncId} {fn : Func} {xs : List AV} {γ : Type} {M : Option γ} {e : γ → AV} (hf : P.funcs[f]? = some fn) (hn : fn.ntmps = n) (hT : TOk P T) (rs : List ResultVar)
  (h : ∀ C : Cx, CO C 0 → ∀ y, M = some y → ∀ Post : AV → List Blk → Prop, HL (fun y => Post (e y) []) y → LW P n C (pa [] (Zad fn)) (mkS (Zib 0 xs) []) (FQ T rs 0 Post))
  (hx : ∀ r, Zan r xs = xs := by intro r; kernel_rfl) (he : ∀ r y, ren r (e y) = e y := by intro r y; kernel_rfl)
  (hb : fn.body = some (Zad fn) := by kernel_rfl) (hname : (fn.name == "runtime.NumGoroutine") = false := by kernel_rfl) (hr : fn.results.toList = rs := by kernel_rfl) (hl : Nat.ble xs.length n = true := by kernel_rfl) : KC P f xs M e :=
 ⟨fun l H y hm => ZfB rs (Zad fn) (fun _ => .top) xs hf hb hname hn hr (Yf hl) hT (hx _) fun B => h _ ⟨Zfc l B _ H, rfl, rfl, fun _ h => absurd h (Yas _)⟩ y hm (fun z _ => z = e y ∧ H = H) ⟨rfl, rfl⟩, hx, he⟩
end Go.Eng
namespace Go.Eng
set_option linter.all false
open Go Go.RowKit
def ZiD : Nat → List Blk → List (Key × Blk)
 | _, [] => []
 | i, b :: bs => ((0, i), b) :: ZiD (i + 1) bs
abbrev Cl := (Key → Prop) → Nat → Hp → (Nat → AV) → Prop
structure KO (P : Program) (f : FuncId) (os : Nat) (ys : List AV) (bi : List Blk) (Θ : Cl) {γ : Type} (M : Option γ) (e : γ → AV) (bs : γ → List Blk) : Prop where
 k : ∀ l H (ks : List Key) (gs : List Nat) (θ : Nat → AV), ks.length = os → ZsP l ks → ks.Nodup → HOk H (rOf l ks gs θ H) (ZiD 0 bi) 0 ks → Θ (fun k => k ∈ ks) l H θ → ∀ y, M = some y →
  Za3 P f l (Zan (rOf l ks gs θ H) ys) H (fun z H' => z = ren (rOf l ks gs θ H) (e y) ∧ H' = ZhR H ks (ZcO (rOf l ks gs θ H) 0 (bs y)))
mutual
def kno (os : Nat) : AV → Bool
 | .ref k _ _ _ => Nat.beq k.1 0 && Nat.ble (k.2 + 1) os
 | .ptr k _ _ => Nat.beq k.1 0 && Nat.ble (k.2 + 1) os
 | .mp k _ => Nat.beq k.1 0 && Nat.ble (k.2 + 1) os
 | .fn f xs ys => (match f with | .yield _ => false | _ => true) && Zqr os xs && Zqr os ys
 | .agg xs => Zqr os xs
 | .tup xs => Zqr os xs
 | .top => true
 | .d _ => true
 | .e0 => true
 | .p _ => true
 | .iptr _ _ => true
def Zqr (os : Nat) : List AV → Bool
 | [] => true
 | x :: xs => kno os x && Zqr os xs
end
def Zkx (os : Nat) (r r' : Ren) : Prop := ∀ q, q < os → r.κ (0, q) = r'.κ (0, q) ∧ r.γ (0, q) = r'.γ (0, q)
theorem Zh1 {os : Nat} {r r' : Ren} (hs : Zkx os r r') {k : Key} (h : (Nat.beq k.1 0 && Nat.ble (k.2 + 1) os) = true) : r.κ k = r'.κ k ∧ r.γ k = r'.γ k := by
 simp only [Yc] at h
 obtain ⟨a, b⟩ := k
 have h1 := Ya h.1
 have h2 := Yf h.2
 simp only at h1 h2
 subst h1
 exact hs b h2
mutual
theorem Zis {os : Nat} {r r' : Ren} (hs : Zkx os r r') : ∀ x : AV, kno os x = true → ren r x = ren r' x
 | .ref k g off n, h => by obtain ⟨e1, e2⟩ := Zh1 hs h; simp only [ren, e1, e2]
 | .ptr k g off, h => by obtain ⟨e1, e2⟩ := Zh1 hs h; simp only [ren, e1, e2]
 | .mp k g, h => by obtain ⟨e1, e2⟩ := Zh1 hs h; simp only [ren, e1, e2]
 | .fn f xs ys, h => by
  simp only [kno, Yc] at h
  have e1 := Zc2 hs xs h.1.2
  have e2 := Zc2 hs ys h.2
  cases f <;> first | (simp only [ren, e1, e2]; done) | (simp at h)
 | .agg xs, h => by simp only [kno] at h; simp only [ren, Zc2 hs xs h]
 | .tup xs, h => by simp only [kno] at h; simp only [ren, Zc2 hs xs h]
 | .top, _ => by simp [ren]
 | .d _, _ => by simp [ren]
 | .e0, _ => by simp [ren]
 | .p _, _ => by simp [ren]
 | .iptr _ _, _ => by simp [ren]
theorem Zc2 {os : Nat} {r r' : Ren} (hs : Zkx os r r') : ∀ xs : List AV, Zqr os xs = true → Zan r xs = Zan r' xs
 | [], _ => by simp [Zan]
 | x :: xs, h => by
  simp only [Zqr, Yc] at h
  simp only [Zan, Zis hs x h.1, Zc2 hs xs h.2]
end
def Zk1 (os : Nat) : List Blk → Prop
 | [] => True
 | b :: bs => (ZeH b.cells ∨ Zqr os b.cells = true) ∧ b.live = true ∧ Zk1 os bs
theorem Zk1.ren {os : Nat} {r r' : Ren} (hs : Zkx os r r') : ∀ (bs : List Blk) (i : Nat), i + bs.length ≤ os → Zk1 os bs → ZcO r i bs = ZcO r' i bs
 | [], _, _, _ => rfl
 | b :: bs, i, hl, h => by
  simp only [Y5] at hl
  have e1 : Zan r b.cells = Zan r' b.cells := by
   rcases h.1 with hf | hk
   ·rw [Zbm hf, Zbm hf]
   ·exact Zc2 hs _ hk
  simp only [ZcO, Zk1.ren hs bs (i + 1) (by omega) h.2.2, ZaN, e1, (hs i (by omega)).2]
theorem Zk1.live {os : Nat} : ∀ {bs : List Blk}, Zk1 os bs → ∀ b ∈ bs, b.live = true
 | c :: bs, h, b, hb => by
  rcases Yo.1 hb with rfl | hb
  ·exact h.2.1
  ·exact Zk1.live h.2.2 b hb
theorem Zsk : ZeH [] := fun x hx => by cases hx
theorem ko1 {P : Program} {T : Nat → Option TI} {n : Nat} {f : FuncId} {fn : Func} {ys : List AV} {bi : List Blk} {Θ : Cl} {γ : Type} {M : Option γ} {e : γ → AV} {bs : γ → List Blk} (hf : P.funcs[f]? = some fn) (hn : fn.ntmps = n) (hT : TOk P T) (rs : List ResultVar) (os : Nat)
  (h : ∀ C : Cx, CO C os → Θ C.no C.l C.H0 C.θ → ∀ y, M = some y → ∀ Post : AV → List Blk → Prop, HL (fun y => Post (e y) (bs y)) y → LW P n C (pa [] (Zad fn)) (mkS (Zib 0 ys) (ZiD 0 bi)) (FQ T rs os Post))
  (he : ∀ y, kno os (e y) = true := by intro y; kernel_rfl) (hB : ∀ y, Zk1 os (bs y) := by intro y; repeat (first | exact trivial | refine ⟨.inl (Zak _ _), rfl, ?_⟩ | refine ⟨.inl Zsk, rfl, ?_⟩ | refine ⟨.inr (by kernel_rfl), rfl, ?_⟩)) (hl : ∀ y, (bs y).length = os := by intro y; rfl) (hin : Zq6 os (ZiD 0 bi) = true := by kernel_rfl)
  (hb : fn.body = some (Zad fn) := by kernel_rfl) (hname : (fn.name == "runtime.NumGoroutine") = false := by kernel_rfl) (hr : fn.results.toList = rs := by kernel_rfl) (hx : Nat.ble ys.length n = true := by kernel_rfl) : KO P f os ys bi Θ M e bs :=
 ⟨fun l H ks gs θ hks hlow hnd hH hΘ y hy => by
  have hN : ∀ r, NmO l ks gs r → Zkx os r (rOf l ks gs θ H) := fun r hr q hq => by
   obtain ⟨h1, h2⟩ := hr
   exact ⟨congrFun h1 _, h2 q (by omega)⟩
  refine Zip rs (Zad fn) ks gs os θ ys (ZiD 0 bi) (e y) (bs y) (Y' := ren (rOf l ks gs θ H) (e y)) (bs' := ZcO (rOf l ks gs θ H) 0 (bs y)) hf hb hname hn hr (by rw [ZaC]; exact Yf hx) hT hks hlow hnd hin hH rfl (hl y) (hB y).live
   (fun r hr => Zis (hN r hr) _ (he y)) (fun r hr => Zk1.ren (hN r hr) _ _ (by rw [hl]; omega) (hB y)) (fun C hC hO hF hl' hH0 hθ hκ hno => ?_) ⟨rfl, rfl⟩
  refine h C ⟨hC, hO, hF, fun q hq => ?_⟩ (by rw [hno, hl', hH0, hθ]; exact hΘ) y hy (fun z b => z = e y ∧ b = bs y) ⟨rfl, rfl⟩
  rw [hno, hκ]
  show (match nth ks q with | some k => k | none => (0, 0)) ∈ ks
  rw [Za2, Yd (by omega)]
  exact Yay _⟩
def Zpv (r : Ren) : List (Key × Blk) → List Nat
 | [] => []
 | (k, b) :: r' => (r.γ k + b.g) :: Zpv r r'
def BE (r r' : Ren) : Nat → List Blk → List (Key × Blk) → Prop
 | i, b :: bs, (k, c) :: cs => (b.live = true → c.live = true ∧ ZaN r (0, i) b = ZaN r' k c) ∧ r.γ (0, i) + b.g = r'.γ k + c.g ∧ BE r r' (i + 1) bs cs
 | _, [], [] => True
 | _, _, _ => False
def Zd5 : List Key → Bool
 | [] => true
 | k :: ks => !(ks.any (Zdi k)) && Zd5 ks
theorem Zct {κ : Key → Key} {os : Nat} (hinj : ∀ q k : Key, okK os q = true → okK os k = true → q ≠ k → κ q ≠ κ k) : ∀ (ks : List Key), Zd5 ks = true → ks.all (okK os) = true → (ks.map κ).Nodup
 | [], _, _ => List.nodup_nil
 | k :: ks, h, ho => by
  simp only [Zd5, Yc, YQ] at h
  simp only [YaA, Yc] at ho
  rw [YT, YbA]
  refine ⟨fun hm => ?_, Zct hinj ks h.2 ho.2⟩
  obtain ⟨q, hq, e⟩ := Yr.1 hm
  have hne : q ≠ k := fun e' => Zgb h.1 (e' ▸ hq)
  grind
section
variable {P : Program} {f : FuncId} {os os' : Nat} {ys : List AV} {bi : List Blk} {Θ : Cl} {γ : Type} {M : Option γ} {e : γ → AV} {bs : γ → List Blk} {C : Cx} {r : Ren} {xs : List AV} {x : AV} {y : γ}
theorem Zje (co : CO C os') (g : Gd C r) : ∀ q k : Key, okK os' q = true → okK os' k = true → q ≠ k → r.κ q ≠ r.κ k := by
 intro q k hq hk hne he
 rw [g.κ] at he
 rcases ZcY hq with h1 | ⟨h1, h2⟩ <;> rcases ZcY hk with j1 | ⟨j1, j2⟩
 ·obtain ⟨a, b⟩ := q
  obtain ⟨c, d⟩ := k
  simp only at h1 j1
  subst h1; subst j1
  rw [co.ok.own, co.ok.own] at he
  grind
 ·obtain ⟨a, b⟩ := q
  obtain ⟨c, d⟩ := k
  simp only at h1 j1 j2
  subst h1; subst j1
  rw [co.ok.own] at he
  have := co.ok.out d (by rw [co.O]; exact j2)
  grind
 ·obtain ⟨a, b⟩ := q
  obtain ⟨c, d⟩ := k
  simp only at h1 h2 j1
  subst h1; subst j1
  rw [co.ok.own] at he
  have := co.ok.out b (by rw [co.O]; exact h2)
  grind
 ·obtain ⟨a, b⟩ := q
  obtain ⟨c, d⟩ := k
  simp only at h1 h2 j1 j2
  subst h1; subst j1
  have := co.ok.inj b d (by rw [co.O]; exact h2) (by rw [co.O]; exact j2) he
  grind
theorem Zcc (co : CO C os') (g : Gd C r) : ∀ (ks : List Key), ks.all (okK os') = true → ZsP (C.l + 1) (ks.map r.κ)
 | [], _ => trivial
 | k :: ks, h => by
  simp only [YaA, Yc] at h
  refine ⟨?_, Zcc co g ks h.2⟩
  rw [g.κ]
  obtain ⟨a, b⟩ := k
  rcases ZcY h.1 with h1 | ⟨h1, h2⟩
  ·simp only at h1; subst h1; rw [co.ok.own]; exact Yg _
  ·simp only at h1 h2; subst h1; exact Nat.le_succ_of_le (co.ok.out b (by rw [co.O]; exact h2))
theorem ZeN : ∀ (bi : List Blk) (i j : Nat), lkH (ZiD i bi) (0, i + j) = (bi[j]?).getD ZkV
 | [], i, j => by simp [ZiD, lkH]
 | b :: bi, i, 0 => by simp [ZiD, lkH, Zdi]
 | b :: bi, i, j + 1 => by
  have ih := ZeN bi (i + 1) j
  simp only [ZiD, lkH]
  have : Zdi (0, i) (0, i + (j + 1)) = false := by
   simp only [Zdi, Ya2]
   right
   cases h : Nat.beq i (i + (j + 1)) with
   | false => rfl
   | true => have := Ya h; omega
  grind
theorem ZhK {r' : Ren} {H' : Hp} : ∀ (bi : List Blk) (cb : List (Key × Blk)) (i : Nat) (B : List Blk), (∀ j, lkH (ZiD 0 B) (0, i + j) = (bi[j]?).getD ZkV) → BE r' r i bi cb →
  (∀ p ∈ cb, (H' (r.κ p.1)).g = r.γ p.1 + p.2.g ∧ (p.2.live = true → H' (r.κ p.1) = ZaN r p.1 p.2)) → HOk H' r' (ZiD 0 B) i ((cb.map (·.1)).map r.κ)
 | [], [], i, B, _, _, _ => trivial
 | b :: bi, (k, c) :: cb, i, B, hB, h, hH => by
  have h0 := hB 0
  simp only [YO, Y4, Yad] at h0
  obtain ⟨h1, h2, h3⟩ := h
  refine ⟨?_, ZhK bi cb (i + 1) B (fun j => ?_) h3 fun p hp => hH p (List.mem_cons_of_mem _ hp)⟩
  ·rw [h0]
   have hc := hH _ (Yu ..)
   grind
  ·have := hB (j + 1)
   grind
 | [], _ :: _, _, _, _, h, _ => h.elim
 | _ :: _, [], _, _, _, h, _ => h.elim
theorem ZnM {H : Hp} {k : Key} : updH H k (H k) = H := by
 funext q
 by_cases h : q = k
 ·subst h; exact Zaa ..
 ·exact Zab _ _ h
theorem ZeD {r' : Ren} {H' : Hp} : ∀ (bi : List Blk) (cb : List (Key × Blk)) (i : Nat), BE r' r i bi cb → (∀ b ∈ bi, b.live = true) → (∀ p ∈ cb, p.2.live = true → H' (r.κ p.1) = ZaN r p.1 p.2) → ZhR H' ((cb.map (·.1)).map r.κ) (ZcO r' i bi) = H'
 | [], [], _, _, _, _ => rfl
 | b :: bi, (k, c) :: cb, i, h, hl, hH => by
  obtain ⟨h1, h2, h3⟩ := h
  have e := h1 (hl b (Yu ..))
  have e2 := hH _ (Yu ..) e.1
  simp only [YT, ZhR, ZcO]
  rw [e.2, ← e2, ZnM]
  exact ZeD bi cb (i + 1) h3 (fun b hb => hl b (List.mem_cons_of_mem _ hb)) fun p hp => hH p (List.mem_cons_of_mem _ hp)
 | [], _ :: _, _, h, _, _ => h.elim
 | _ :: _, [], _, h, _, _ => h.elim
theorem Zf3 {r' : Ren} : ∀ (bo : List Blk) (cb cb2 : List (Key × Blk)) (i : Nat) (H' : Hp), BE r' r i bo cb2 → (∀ b ∈ bo, b.live = true) → cb.map (·.1) = cb2.map (·.1) → ZhR H' ((cb.map (·.1)).map r.κ) (ZcO r' i bo) = Zco r cb2 H'
 | [], [], [], _, _, _, _, _ => rfl
 | [], _ :: _, [], _, _, _, _, h => by cases h
 | b :: bo, [], _ :: _, _, _, _, _, h => by cases h
 | b :: bo, (k, c) :: cb, (k2, c2) :: cb2, i, H', h, hl, he => by
  obtain ⟨h1, h2, h3⟩ := h
  simp only [YT, List.cons.injEq] at he
  obtain ⟨rfl, he⟩ := he
  have e := h1 (hl b (Yu ..))
  simp only [YT, ZhR, ZcO, Zco]
  rw [e.2]
  exact Zf3 bo cb cb2 (i + 1) _ h3 (fun b hb => hl b (List.mem_cons_of_mem _ hb)) he
 | _ :: _, _, [], _, _, h, _, _ => h.elim
 | [], _, _ :: _, _, _, h, _, _ => h.elim
def rC (C : Cx) (r : Ren) (cb : List (Key × Blk)) (θ : Nat → AV) (H : Hp) : Ren := rOf (C.l + 1) ((cb.map (·.1)).map r.κ) (Zpv r cb) θ H
def Th (Θ : Cl) (C : Cx) (r : Ren) (cb hb : List (Key × Blk)) (θ : Nat → AV) : Prop :=
 ∀ H', (∀ p ∈ hb, (H' (r.κ p.1)).g = r.γ p.1 + p.2.g ∧ (p.2.live = true → H' (r.κ p.1) = ZaN r p.1 p.2)) → (∀ k : Key, k.1 ≤ C.l → ¬ r.no k → H' k = r.H0 k) → Θ (fun k => k ∈ (cb.map (·.1)).map r.κ) (C.l + 1) H' θ
theorem Zc4 (K : KO P f os ys bi Θ M e bs) (hy : M = some y) (co : CO C os') (g : Gd C r) (cb cc : List (Key × Blk)) (θ : Nat → AV) (hΘ : Th Θ C r cb (cb ++ cc) θ) (hBE : ∀ H, BE (rC C r cb θ H) r 0 bi cb) (hro : bs y = bi := by rfl) (hlv' : bi.all Blk.live = true := by kernel_rfl) (hlv2' : (cb ++ cc).all (fun p => p.2.live) = true := by kernel_rfl) (hx : ∀ H, Zan (rC C r cb θ H) ys = Zan r xs := by intro H; kernel_rfl) (hy2 : ∀ H, ren (rC C r cb θ H) (e y) = ren r x := by intro H; kernel_rfl)
  (hk : ((cb.map (·.1)).all (okK os') && Zd5 (cb.map (·.1)) && Nat.beq cb.length os) = true := by kernel_rfl) : Zfe P C.l r f xs (cb ++ cc) x := by
 intro H' h1 h2
 have hlv : ∀ b ∈ bi, b.live = true := fun b hb => Yj.1 hlv' b hb
 have hlv2 : ∀ p ∈ cb ++ cc, p.2.live = true := fun p hp => Yj.1 hlv2' p hp
 have hsub : ∀ p ∈ cb, p ∈ cb ++ cc := fun p hp => YN _ hp
 simp only [Yc] at hk
 have hg : ∀ p ∈ cb ++ cc, (H' (r.κ p.1)).g = r.γ p.1 + p.2.g ∧ (p.2.live = true → H' (r.κ p.1) = ZaN r p.1 p.2) := fun p hp => ⟨by rw [h1 p hp (hlv2 p hp)]; rfl, h1 p hp⟩
 have := K.k (C.l + 1) H' ((cb.map (fun p : Key × Blk => p.1)).map r.κ) (Zpv r cb) θ (by rw [Yn, Yn]; exact Ya hk.2) (Zcc co g _ hk.1.1) (Zct (Zje co g) _ hk.1.2 hk.1.1)
  (ZhK bi cb 0 bi (fun j => by have := ZeN bi 0 j; rwa [Yy] at this ⊢) (hBE H') fun p hp => hg p (hsub p hp)) (hΘ H' hg h2) y hy
 rw [← hx H']
 refine this.mono fun z H'' ⟨e1, e2⟩ => ⟨e1.trans (hy2 H'), e2.trans ?_⟩
 rw [hro]
 exact ZeD bi cb 0 (hBE H') hlv fun p hp hl => (hg p (hsub p hp)).2 hl
theorem ZbD (K : KO P f os ys bi Θ M e bs) (hy : M = some y) (co : CO C os') (g : Gd C r) (cb cc cb2 : List (Key × Blk)) (θ : Nat → AV) (hΘ : Th Θ C r cb (cb ++ cc) θ)
  (hBE : ∀ H, BE (rC C r cb θ H) r 0 bi cb) (hBE2 : ∀ H, BE (rC C r cb θ H) r 0 (bs y) cb2) (hlv' : (bs y).all Blk.live = true := by kernel_rfl) (hx : ∀ H, Zan (rC C r cb θ H) ys = Zan r xs := by intro H; kernel_rfl) (hy2 : ∀ H, ren (rC C r cb θ H) (e y) = ren r x := by intro H; kernel_rfl)
  (hk : ((cb.map (·.1)).all (okK os') && Zd5 (cb.map (·.1)) && Nat.beq cb.length os) = true := by kernel_rfl) (he : cb.map (·.1) = cb2.map (·.1) := by rfl) : ZhL P C.l r f xs (cb ++ cc) x cb2 [] := by
 have hlv : ∀ b ∈ bs y, b.live = true := fun b hb => Yj.1 hlv' b hb
 have hsub : ∀ p ∈ cb, p ∈ cb ++ cc := fun p hp => YN _ hp
 refine ZoL rfl rfl fun H' hg h2 => ?_
 simp only [Yc] at hk
 have := K.k (C.l + 1) H' ((cb.map (fun p : Key × Blk => p.1)).map r.κ) (Zpv r cb) θ (by rw [Yn, Yn]; exact Ya hk.2) (Zcc co g _ hk.1.1) (Zct (Zje co g) _ hk.1.2 hk.1.1)
  (ZhK bi cb 0 bi (fun j => by have := ZeN bi 0 j; rwa [Yy] at this ⊢) (hBE H') fun p hp => hg p (hsub p hp)) (hΘ H' hg h2) y hy
 rw [← hx H']
 exact this.mono fun z H'' ⟨e1, e2⟩ => ⟨e1.trans (hy2 H'), e2.trans (Zf3 (bs y) cb cb2 0 H' (hBE2 H') hlv he)⟩
end
structure CloM (P : Program) (C : Cx) (i : Nat) (xs : List AV) {γ : Type} (M : Option γ) (e : γ → AV) : Prop where
 k : ∀ y, M = some y → Zol P C.l C.no C.H0 (C.θ i) xs (e y)
 x : ∀ r, Zan r xs = xs
 e : ∀ r y, ren r (e y) = e y
section
variable {os : Nat} {β γ : Type} [Inhabited γ]
theorem CloM.callF {P : Program} {i : Nat} {xs : List AV} {M : Option γ} {e : γ → AV} (E : Ev os β) (h : CloM P E.C i xs M e) {y : γ} (hy : M = some y) : Zl7 P E.E.l E.E.r i xs [] (e y) :=
 Zpm (congrFun E.g.θ i) (by rw [E.hl, E.g.no, E.g.H]; exact h.k y hy) (h.x _) (h.e _ _)
@[reducible] def cf (P : Program) (i : Nat) (xs : List AV) (M : Option γ) (e : γ → AV) (k : γ → PT os β) : PT os β :=
 ⟨.call (e (M.getD default)) [] (k (M.getD default)).a, fun E => Zl7 P E.l E.r i xs [] (e (M.getD default)) ∧ (k (M.getD default)).q E, M.bind fun y => (k y).m, fun E => CloM P E.C i xs M e ∧ ∀ y, (k y).n E, fun E hn y hm hL => by
  obtain ⟨x, h1, h2⟩ := bind_some hm
  have h3 : M.getD default = x := by rw [h1]; rfl
  rw [h3]
  exact ⟨hn.1.callF E h1, (k x).ok E (hn.2 x) y h2 hL⟩⟩
@[reducible] def cs (P : Program) (f : FuncId) (xs : List AV) (ks : List Key) (hb : List (Key × Blk)) (M : Option γ) (e : γ → AV) (k : γ → PT os β) : PT os β :=
 ⟨.call (e (M.getD default)) ks (k (M.getD default)).a, fun E => Zfe P E.l E.r f xs hb (e (M.getD default)) ∧ (k (M.getD default)).q E, M.bind fun y => (k y).m, fun E => (∀ y, M = some y → Zfe P E.C.l E.E.r f xs hb (e y)) ∧ ∀ y, (k y).n E, fun E hn y hm hL => by
  obtain ⟨x, h1, h2⟩ := bind_some hm
  have h3 : M.getD default = x := by rw [h1]; rfl
  rw [h3]
  exact ⟨by rw [E.hl]; exact hn.1 x h1, (k x).ok E (hn.2 x) y h2 hL⟩⟩
@[reducible] def csg (b : Bool) (P : Program) (f : FuncId) (xs : List AV) (ks : List Key) (hb : List (Key × Blk)) (M : Option γ) (e : γ → AV) (k : γ → PT os β) : PT os β :=
 ⟨.call (e (M.getD default)) ks (k (M.getD default)).a, fun E => (b = true → Zfe P E.l E.r f xs hb (e (M.getD default))) ∧ (k (M.getD default)).q E, if (b = true → M.isSome = true) then (k (M.getD default)).m else none, fun E => (∀ y, M = some y → Zfe P E.C.l E.E.r f xs hb (e y)) ∧ ∀ y, (k y).n E, fun E hn y hm hL => by
  obtain ⟨h0, hm⟩ := Zay hm
  refine ⟨fun hb => ?_, (k _).ok E (hn.2 _) y hm hL⟩
  obtain ⟨x, h1⟩ := YK.1 (h0 hb)
  have h3 : M.getD default = x := by rw [h1]; rfl
  rw [h3, E.hl]; exact hn.1 x h1⟩
@[reducible] def mv {α : Type} [Rw α] (d q : Nat) (xs : List α) (k : PT os β) (hq : Nat.ble (q + 1) os = true := by kernel_rfl) : PT os β :=
 ⟨.mv d q k.a, fun E => Zdm (Zai Rw.e xs) ∧ (q < os ∧ E.r.no (E.r.κ (0, q))) ∧ k.q E, k.m, k.n, fun E hn y hm hL =>
  ⟨ZfM _ _, ⟨Yf hq, by rw [E.g.no, E.g.κ]; exact E.co.W q (Yf hq)⟩, k.ok E hn y hm hL⟩⟩
end
section
variable {P : Program} {os os' : Nat} {ys : List AV} {bi : List Blk} {Θ : Cl} {γ : Type} {M : Option γ} {e : γ → AV} {bs : γ → List Blk} {C : Cx} {r : Ren} {y : γ}
theorem Zwk {f : FuncId} (K : KO P f os ys bi Θ M e bs) (hy : M = some y) (co : CO C os') (g : Gd C r) (cb cb0 : List (Key × Blk)) {hb : List (Key × Blk)} {H' : Hp} (hg : ∀ p ∈ hb, (H' (r.κ p.1)).g = r.γ p.1 + p.2.g ∧ (p.2.live = true → H' (r.κ p.1) = ZaN r p.1 p.2)) (hsub : ∀ p ∈ cb, p ∈ hb)
  {zs caps : List AV} (θ : Nat → AV) (hΘ : ∀ l' H'', Θ (fun k => k ∈ (cb.map (·.1)).map r.κ) l' H'' θ) (hBE : ∀ l H, BE (rOf l ((cb.map (·.1)).map r.κ) (Zpv r cb) θ H) r 0 bi cb) (hro : bs y = bi := by rfl) (hlv' : bi.all Blk.live = true := by kernel_rfl)
  (hx : ∀ l H, Zan (rOf l ((cb.map (·.1)).map r.κ) (Zpv r cb) θ H) ys = zs ++ caps := by intro l H; kernel_rfl) (hy2 : ∀ l H, ren (rOf l ((cb.map (·.1)).map r.κ) (Zpv r cb) θ H) (e y) = e y := by intro l H; kernel_rfl)
  (hk : (((cb ++ cb0).map (·.1)).all (okK os') && Zd5 ((cb ++ cb0).map (·.1)) && Nat.beq cb.length os) = true := by kernel_rfl) : Zol P (C.l + 1) (fun k => k ∈ (cb0.map (·.1)).map r.κ) H' (.fn (.func f) [] caps) zs (e y) := by
 have hlv : ∀ b ∈ bi, b.live = true := fun b hb => Yj.1 hlv' b hb
 refine ⟨f, [], caps, rfl, fun l' H'' hl ho => ?_⟩
 simp only [Yc, YaM, List.all_append] at hk
 obtain ⟨⟨⟨k1, k2⟩, k3⟩, k4⟩ := hk
 have hnd := Zct (Zje co g) _ k3 (by rw [List.all_append, k1, k2]; rfl)
 rw [YaM, Ybp] at hnd
 have hat : ∀ p ∈ cb, H'' (r.κ p.1) = H' (r.κ p.1) := fun p hp => by
  have hm : r.κ p.1 ∈ (cb.map (·.1)).map r.κ := Yaz (Yaz hp)
  exact ho _ (Zf2 (Zcc co g _ k1) _ hm) fun h => hnd.2.2 _ hm _ h rfl
 have hg2 : ∀ p ∈ cb, (H'' (r.κ p.1)).g = r.γ p.1 + p.2.g ∧ (p.2.live = true → H'' (r.κ p.1) = ZaN r p.1 p.2) := fun p hp => by rw [hat p hp]; exact hg p (hsub p hp)
 have hlow : ZsP l' ((cb.map (·.1)).map r.κ) := by
  have := Zcc co g (cb.map (·.1)) k1
  generalize (cb.map (·.1)).map r.κ = ks at this
  induction ks with
  | nil => trivial
  | cons k ks ih => exact ⟨YR this.1 hl, ih this.2⟩
 have := K.k l' H'' ((cb.map (fun p : Key × Blk => p.1)).map r.κ) (Zpv r cb) θ (by rw [Yn, Yn]; exact Ya k4) hlow hnd.1
  (ZhK bi cb 0 bi (fun j => by have := ZeN bi 0 j; rwa [Yy] at this ⊢) (hBE l' H'') hg2) (hΘ l' H'') y hy
 rw [Yak, ← hx l' H'']
 refine this.mono fun z H3 ⟨e1, e2⟩ => ⟨e1.trans (hy2 l' H''), e2.trans ?_⟩
 rw [hro]
 exact ZeD bi cb 0 (hBE l' H'') hlv fun p hp hl => (hg2 p hp).2 hl
end
theorem ZwC {C : Cx} {r : Ren} {os' : Nat} {P : Program} {i : Nat} {xs : List AV} {y : AV} (co : CO C os') (g : Gd C r) (cb : List (Key × Blk)) {H' : Hp} (ho : ∀ k : Key, k.1 ≤ C.l → ¬ r.no k → H' k = r.H0 k) (h : Zol P C.l C.no C.H0 (C.θ i) xs y)
  (hk : ((cb.map (·.1)).all (okK os')) = true := by kernel_rfl) : Zol P (C.l + 1) (fun k => k ∈ (cb.map (·.1)).map r.κ) H' (r.θ i) xs y := by
 rw [g.θ]
 refine Zrh h (Nat.le_succ _) (fun q hq hn hm => ?_) fun q hq hn => ?_
 ·obtain ⟨k, hk', e⟩ := Yr.1 hm
  rw [g.κ] at e
  obtain ⟨a, b⟩ := k
  rcases ZcY (Yj.1 hk _ hk') with h1 | ⟨h1, h2⟩
  ·simp only at h1; subst h1; rw [co.ok.own] at e; rw [← e] at hq; simp only at hq; omega
  ·simp only at h1 h2; subst h1; rw [← e] at hn; exact hn (co.W b h2)
 ·rw [← g.H]; exact ho q hq (by rw [g.no]; exact hn)
theorem ZaR {r r' : Ren} {k k' : Key} {g g' : Nat} {e : EK} {sz : Nat} {cs : List AV} (h : ZeH cs) (hg : r.γ k + g = r'.γ k' + g') : ZaN r k ⟨g, true, e, sz, cs⟩ = ZaN r' k' ⟨g', true, e, sz, cs⟩ := by
 simp only [ZaN, Zbm h, hg]
section
variable {P : Program} {T : Nat → Option TI} {n : Nat} {C : Cx} {τ : St} {Q : Exit → St → Prop} {os k : Nat} {c : Code} {β : Type} {L : β → Prop} {y : β}
theorem ZsC (co : CO C os) (hT : TOk P T) (m : Nat) (v : PT os β) (lf : Lf) (hv : v.m = some y) (hL : HL L y) (hn : ∀ r (g : Gd C r), v.n ⟨⟨C.l, r, fun _ τ' => LO P n C c (k + m) τ' Q, fun _ _ => False⟩, L, C, co, g, rfl⟩)
  (hq : ∀ l r Q Post, ZcN r os v.a τ (fun τ a => Zon P T l n r ((Zb4 c).toList.map (·.dst)) (Zkj m (Zg2 k (Zb4 c).toList)) [] a (fun τ' env a' => ZcN r os a' (Zkv env τ') (fun τ _ => Zfy (Zgj os) lf τ (Q .normal))) τ) = v.q ⟨l, r, Q, Post⟩ := by intro l r Q P; kernel_rfl) : LO P n C c k τ Q :=
 ZvC co.ok hT co.O co.F m v.a lf (fun r Φ => v.q ⟨C.l, r, fun _ => Φ, fun _ _ => False⟩) (fun r Φ => hq _ r (fun _ => Φ) _) fun r h1 h2 h3 h4 => v.ok _ (hn r ⟨h1, h2, h3, h4⟩) y hv hL
theorem Zcg (co : CO C os) (hT : TOk P T) (v : PT os β) (lf : Lf) (hv : v.m = some y) (hL : HL L y) (hn : ∀ r (g : Gd C r), v.n ⟨⟨C.l, r, Q, fun _ _ => False⟩, L, C, co, g, rfl⟩)
  (hq : ∀ l r Q Post, ZcN r os v.a τ (fun τ a => Zon P T l n r ((Zb4 c).toList.map (·.dst)) (Zg2 k (Zb4 c).toList) [] a (fun τ' env a' => ZcN r os a' (Zkv env τ') (fun τ _ => Zfy (Zgj os) lf τ (Q .normal))) τ) = v.q ⟨l, r, Q, Post⟩ := by intro l r Q P; kernel_rfl) : LO P n C c k τ Q :=
 Zxu co.ok hT co.O co.F v.a lf (fun r Q => v.q ⟨C.l, r, Q, fun _ _ => False⟩) (fun r Q => hq _ r Q _) fun r h1 h2 h3 h4 => v.ok _ (hn r ⟨h1, h2, h3, h4⟩) y hv hL
theorem Zkc {γ : Type} {M : Option γ} {kk : γ → Option β} {ss : List (Nat × AV)} {hs : List (Key × Blk)} (co : CO C os) (hm : M.bind kk = some y) (f : FuncId) (xs : List AV) (ks : List Key) (hb : List (Key × Blk)) (e : γ → AV) (hb2 : γ → List (Key × Blk)) (fl : List Key)
  (hwr : ∀ z, wrL C (hb2 z)) (hfl : flL (lkH hs) fl) (hcall : ∀ z, M = some z → ∀ r, Gd C r → ZhL P C.l r f xs hb (e z) (hb2 z) [])
  (h : ∀ z, kk z = some y → LO P n C c (k + 1) (mkS (Zoo (Zem c k) (e z) (Zdu [] ss)) (hb2 z ++ Zcr ((hb2 z).map (·.1)) [] fl hs)) Q)
  (hop : Zdl c k = some (Zem c k, callF c k, Zgp c k) := by kernel_rfl) (hf : ev (lkS ss) (callF c k) = .fn (.func f) [] [] := by kernel_rfl) (hxs : [] ++ (Zgp c k).map (ev (lkS ss)) ++ [] = xs := by kernel_rfl) (hhb : (ks.map fun k => (k, lkH hs k)) = hb := by kernel_rfl)
  (hok : ∀ z, (Zg1 os (hb2 z) && Zus [] (hb2 z) && ZfT [] (Zgj os) && ZgF hs && Zkm n (Zem c k) && ks.all (okK os)) = true := by intro z; kernel_rfl) : LO P n C c k (mkS ss hs) Q := by
 obtain ⟨z, e1, e2⟩ := bind_some hm
 exact Zpk co.ok co.O co.F f [] [] xs hop hf hxs ks hb hhb (e z) (hb2 z) [] fl (hok z) (hwr z) hfl (fun r h1 h2 h3 h4 => hcall z e1 r ⟨h1, h2, h3, h4⟩) (h z e2)
theorem c6 {γ : Type} {M : Option γ} {kk : γ → Option β} {ss : List (Nat × AV)} {hs : List (Key × Blk)} {f : FuncId} {os' : Nat} {ys : List AV} {bi : List Blk} {Θ : Cl} {e0 : γ → AV} {bs : γ → List Blk} (co : CO C os) (hm : M.bind kk = some y) (K : KO P f os' ys bi Θ M e0 bs)
  (cb cc : List (Key × Blk)) (e : γ → AV) (hb2 : γ → List (Key × Blk)) (fl : List Key)
  (h : ∀ z, kk z = some y → LO P n C c (k + 1) (mkS (Zoo (Zem c k) (e z) (Zdu [] ss)) (hb2 z ++ Zcr ((hb2 z).map (·.1)) [] fl hs)) Q)
  (θ : Ren → Nat → AV := fun _ => lkS []) (hΘ : ∀ r, Gd C r → Th Θ C r cb (cb ++ cc) (θ r) := by intro r g; exact fun _ _ _ => trivial) (xs : List AV := [] ++ (Zgp c k).map (ev (lkS ss)) ++ [])
  (hwr : ∀ z, wrL C (hb2 z) := by intro z; repeat (first | exact trivial | refine ⟨CO.W ‹_› _ (by decide), ?_⟩))
  (hfl : flL (lkH hs) fl := by repeat (first | exact trivial | refine ⟨Zak _ _, ?_⟩))
  (hBE : ∀ r H, BE (rC C r cb (θ r) H) r 0 bi cb := by
   intro r H
   repeat (first | exact trivial | refine ⟨fun _ => ⟨rfl, ZaR (Zak _ _) (by kernel_rfl)⟩, by kernel_rfl, ?_⟩ | refine ⟨fun _ => ⟨rfl, ZaR Zsk (by kernel_rfl)⟩, by kernel_rfl, ?_⟩ | refine ⟨fun _ => ⟨rfl, by kernel_rfl⟩, by kernel_rfl, ?_⟩ | refine ⟨(fun h => nomatch h), by kernel_rfl, ?_⟩))
  (hBE2 : ∀ z r H, BE (rC C r cb (θ r) H) r 0 (bs z) (hb2 z) := by
   intro z r H
   repeat (first | exact trivial | refine ⟨fun _ => ⟨rfl, ZaR (Zak _ _) (by kernel_rfl)⟩, by kernel_rfl, ?_⟩ | refine ⟨fun _ => ⟨rfl, ZaR Zsk (by kernel_rfl)⟩, by kernel_rfl, ?_⟩ | refine ⟨fun _ => ⟨rfl, by kernel_rfl⟩, by kernel_rfl, ?_⟩))
  (hx : ∀ r H, Zan (rC C r cb (θ r) H) ys = Zan r xs := by intro r H; kernel_rfl) (hxs : [] ++ (Zgp c k).map (ev (lkS ss)) ++ [] = xs := by kernel_rfl) (hy2 : ∀ z r H, ren (rC C r cb (θ r) H) (e0 z) = ren r (e z) := by intro z r H; kernel_rfl)
  (hop : Zdl c k = some (Zem c k, callF c k, Zgp c k) := by kernel_rfl) (hf : ev (lkS ss) (callF c k) = .fn (.func f) [] [] := by kernel_rfl)
  (hhb : (((cb ++ cc).map (·.1)).map fun k => (k, lkH hs k)) = cb ++ cc := by kernel_rfl) (hlv : ∀ z, (bs z).all Blk.live = true := by intro z; kernel_rfl) (he : ∀ z, cb.map (·.1) = (hb2 z).map (·.1) := by intro z; rfl)
  (hk : ((cb.map (·.1)).all (okK os) && Zd5 (cb.map (·.1)) && Nat.beq cb.length os') = true := by kernel_rfl)
  (hok : ∀ z, (Zg1 os (hb2 z) && Zus [] (hb2 z) && ZfT [] (Zgj os) && ZgF hs && Zkm n (Zem c k) && ((cb ++ cc).map (·.1)).all (okK os)) = true := by intro z; kernel_rfl) : LO P n C c k (mkS ss hs) Q :=
 Zkc co hm f xs _ (cb ++ cc) e hb2 fl hwr hfl (fun z hz r g => ZbD K hz co g cb cc (hb2 z) (θ r) (hΘ r g) (fun H => hBE r H) (fun H => hBE2 z r H) (hlv z) (fun H => hx r H) (fun H => hy2 z r H) hk (he z)) h hop hf hxs hhb hok
theorem ZgT (co : CO C os) (v : PT os β) (lf : Lf) (hv : v.m = some y) (hL : HL L y) (hn : ∀ r (g : Gd C r), v.n ⟨⟨C.l, r, fun _ τ' => LW P n C c τ' Q, fun _ _ => False⟩, L, C, co, g, rfl⟩)
  (hq : ∀ l r Q Post, ZcN r os v.a τ (fun τ _ => Zfy (Zgj os) lf τ (Q .normal)) = v.q ⟨l, r, Q, Post⟩ := by intro l r Q P; kernel_rfl) : LW P n C c τ Q :=
 Zrs co.ok co.O co.F v.a lf (fun r Φ => v.q ⟨C.l, r, fun _ => Φ, fun _ _ => False⟩) (fun r Φ => hq _ r (fun _ => Φ) _) fun r h1 h2 h3 h4 => v.ok _ (hn r ⟨h1, h2, h3, h4⟩) y hv hL
theorem rg {c : Code} (h : LO P n C c 0 τ Q) (hs : ZuB c = true := by kernel_rfl) : LW P n C c τ Q := Zku hs h
end
end Go.Eng
