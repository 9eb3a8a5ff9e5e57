import Derived.Test.YthagpbkmakocjaaGreatCz10
import Derived.Shelf.Spec.SlicesGrow
import Derived.Test.YthagpbkmakocjaaGreatCz00
namespace Go.Eng
set_option linter.all false
open Go Go.RowKit Go.Shelf
theorem Zmw {w : World} {S : Nat → Prop} {H : Hp} {m : Mu} {l : Nat} {vs : Array Value} {n : Int} (hA : Ze9 w S H m l [.e0, .d (.int .i64 n)] vs) : ∃ a, vs = #[.slice a 0 0, .int .i64 n] := by
 obtain ⟨hs, hr⟩ := hA
 obtain ⟨l⟩ := vs
 match l, hs, hr with
 | [v0, v1], _, hr =>
  have h0 := hr 0 .e0 v0 rfl rfl
  have h1 := hr 1 (.d (.int .i64 n)) v1 rfl rfl
  cases h0 with
  | e0 a =>
   cases h1 with
   | d _ _ h1 =>
    cases h1 with
    | int => exact ⟨a, rfl⟩
theorem ZpJ {P : Program} {ρ : Go.Shelf.Ren} (L : Go.Proofs.Lays8.n4 P ρ) (i0 : TypeInfo) (z : Value) (hi0 : P.info? (ρ.t 25) = some i0) (hz0 : i0.zero = some z) (hs0 : 0 < i0.size) (hzs : z.cells.size = i0.size) (hby : i0.bytes ≤ 256)
  (hb : ∃ fn c, P.funcs[ρ.f 4]? = some fn ∧ fn.body = some c ∧ (fn.name == "runtime.NumGoroutine") = false) {ℓ : Nat} {ℋ : Hp} {k : Key} (hk : k.1 ≤ ℓ) {g : Nat} (hg : (ℋ k).g = g) (n : Nat) (hn : n < 549755813888) {Post : AV → Hp → Prop}
  (h : Post (.ref k (g + 1) 0 0) (updH ℋ k ⟨g + 1, true, ρ.t 25, i0.size, []⟩)) : ZcN P (ρ.f 4) ℓ [.e0, .d (.int .i64 n)] ℋ Post :=
 ⟨hb, fun m S w vs hO hA => by
  obtain ⟨a, rfl⟩ := Zmw hA
  subst hg
  by_cases h0 : n = 0
  ·subst h0
   refine (Go.Proofs.Any8.slices_Grow_room L a 0 0 0 w (by omega) (by omega) (by omega) (by omega)).mono fun e w' ⟨h1, h2⟩ => ?_
   subst h2
   obtain ⟨k1, k2⟩ := hO.overEmpty k hk ((ℋ k).g + 1) (ρ.t 25) i0.size (by omega) ⟨0, 0, 0⟩ rfl
   refine ⟨_, _, _, _, _, h1, h, k1, ?_, k2⟩
   have := RepA.refL (w := w') (S := S) (H := updH ℋ k ⟨(ℋ k).g + 1, true, ρ.t 25, i0.size, []⟩) (m := Zen m k ⟨0, 0, 0⟩) (l := ℓ) k 0 0 a hk (by rw [Zab]) (by omega) (fun q => by rw [Zaf] at q; exact absurd q (Nat.lt_irrefl 0))
   rw [Zab, Zaf] at this
   exact this
  ·have hb2 : n * i0.bytes ≤ 549755813888 * 256 := Nat.mul_le_mul (by omega) hby
   refine (Go.Proofs.Any8.slices_Grow_grow L i0 z hi0 hz0 hs0 a 0 0 n [] w (by omega) (by omega) (by rw [YH]; omega) (by omega) (by simp) (fun _ => rfl) (fun _ _ j v hj => by simp at hj)).mono fun e w' ⟨h1, h2⟩ => ?_
   have hG : n ≤ grownCap w (0 + n) 0 (ρ.t 25) := by have := grownCap_ge w (0 + n) 0 (ρ.t 25); omega
   generalize grownCap w (0 + n) 0 (ρ.t 25) = G at *
   subst h2
   obtain ⟨k1, k2⟩ := hO.alloc k hk (ρ.t 25) i0.size G [] (([] : List Value).toArray ++ Builtin.zeroCells z.cells (0 + n - 0) ++ Builtin.zeroCells z.cells (G - (0 + n))) (by omega)
    (by simp only [YbA, ZdJ, hzs]; rw [show ([] : List Value).toArray.size = 0 from rfl, YH, ← YF, show 0 + n - 0 + (G - (0 + n)) = G from by omega]) (Yaq _) (fun i x v hx => by simp at hx)
    (w.drew.alloc (.cells (([] : List Value).toArray ++ Builtin.zeroCells z.cells (0 + n - 0) ++ Builtin.zeroCells z.cells (G - (0 + n))) (ρ.t 25))) rfl rfl rfl rfl
   refine ⟨_, _, _, _, _, h1, h, k1, ?_, k2⟩
   have := RepA.refL (w := w.drew.alloc (.cells (([] : List Value).toArray ++ Builtin.zeroCells z.cells (0 + n - 0) ++ Builtin.zeroCells z.cells (G - (0 + n))) (ρ.t 25))) (S := S) (H := updH ℋ k ⟨(ℋ k).g + 1, true, ρ.t 25, i0.size, []⟩) (m := Zen m k ⟨w.heap.size, 0, G⟩) (l := ℓ) k 0 0 (some ⟨w.heap.size, 0, none⟩) hk (by rw [Zab]) (by omega) (fun _ => by rw [Zaf]; simp)
   rw [Zab, Zaf] at this
   exact this⟩
theorem ZEw {α : Type} {e : α → List D} {xs : List α} {l h : Nat} (q : SlS l h xs.length) : SlS l h (xs.map e).length := by rw [Yk]; exact q
theorem ZDy {α : Type} {e : α → List D} {xs : List α} {sz : Nat} (he : ∀ x, (e x).length = sz) : ∀ d, d ∈ xs.map e → d.length = sz := fun d h => by
 grind
theorem ZBm {α : Type} {e : α → List D} {xs : List α} {sz l h : Nat} (he : ∀ x, (e x).length = sz) : SlD (xs.map e) sz l h (((xs.drop l).take (h - l)).map e) :=
 ⟨ZDy he, by rw [← List.map_drop, ← List.map_take]⟩
theorem Zt9 {i : Int} {len sz : Nat} (h0 : 0 ≤ i) (h : i < len) : ZFJ i len 0 sz (i.toNat * sz) := ⟨h0, h, by simp⟩
theorem ZwQ {α : Type} {e : α → List D} {xs : List α} {j sz fo : Nat} {z y : α} {vs : List D} (hj : j < xs.length) (hl : ∀ x, (e x).length = sz) (hf : fo + vs.length ≤ sz) (he : e y = (e (xs.getD j z)).take fo ++ vs ++ (e (xs.getD j z)).drop (fo + vs.length)) :
  StS (Zav e xs) (j * sz + fo) (vs.map .d) (Zav e (xs.set j y)) := by
 have h2 : (j + 1) * sz ≤ xs.length * sz := YP _ hj
 rw [YF, Ya5] at h2
 refine ⟨by rw [Yk, ZcO hl]; omega, ?_⟩
 have hx : xs.getD j z = xs[j] := by rw [Yj, Yc hj]; rfl
 rw [hx] at he
 have hs : Zav e xs = Zav e (xs.take j) ++ ((e xs[j]).map .d ++ Zav e (xs.drop (j + 1))) := by
  conv => lhs; rw [← YaX j xs, Yae hj, ZgF, Zct]
 have ha : (Zav e (xs.take j)).length = j * sz := by rw [ZcO hl, Yr, Yap (by omega)]
 have hb : ((e xs[j]).map AV.d).length = sz := by rw [Yk, hl]
 rw [hs, List.take_append, Ybf (by omega : (Zav e (xs.take j)).length ≤ j * sz + fo), ha, show j * sz + fo - j * sz = fo from by omega, YaJ (by omega),
  List.drop_append, YbV (by rw [ha]; omega), ha, Yai, show j * sz + fo + (vs.map AV.d).length - j * sz = fo + vs.length from by rw [Yk]; omega, Ybq (by omega),
  Ybg, if_pos hj, ZgF, Zct, he]
 simp only [YE, List.map_take, List.map_drop, YN]
end Go.Eng
namespace Go.Eng
set_option linter.all false
theorem Znu {α : Type} {l : List α} {p : α → Bool} : ((match l.findIdx? p with | some k => (k : Int) | none => -1) ≥ 0) ↔ l.any p = true := by
 rw [Y0]
 cases h : l.findIdx? p with
 | none =>
  rw [Yar] at h
  constructor
  ·intro e; exact absurd e (by decide)
  ·rintro ⟨x, hx, hp⟩; rw [h x hx] at hp; cases hp
 | some k =>
  obtain ⟨h1, h2, _⟩ := YX.1 h
  exact ⟨fun _ => ⟨l[k], Y9 h1, h2⟩, fun _ => Ybx k⟩
theorem Zvj {α : Type} {e e' : α → List D} {xs : List α} {j sz : Nat} {y : α} (hj : j < xs.length) (hl : ∀ x, (e x).length = sz) (he : ∀ x, e x = e' x) : StS (Zav e xs) (j * sz) ((e' y).map .d) (Zav e (xs.set j y)) := by
 rw [← he]; exact ZCx hj hl
theorem ZjQ {α : Type} {sz : Nat} {e e' : α → List D} {y : α} (C : List AV) (hl : ∀ x, (e x).length = sz) (he : ∀ x, e x = e' x) : Zoj sz C (.d (.list [e' y])) 1 (Zav e [y]) := by
 rw [ZvN, he]; exact ZxA C (by rw [← he]; exact hl y)
theorem ZC2 {C : List AV} {o n m sz : Nat} {es : List (List D)} (h : n = m) (k : FzR C o m sz es) : FzR C o n sz es := h ▸ k
theorem ZDY {α : Type} {e : α → List D} {xs : List α} {n m off sz : Nat} (hn : n = m) (h : off ≤ xs.length) (hl : ∀ x, (e x).length = sz) : n = m ∧ off * sz ≤ (Zav e xs).length ∧ (Zav e xs).drop (off * sz) = Zav e (xs.drop off) :=
 ⟨hn, by rw [ZcO hl]; exact YP _ h, ZeB hl xs off⟩
theorem ZAK {α : Type} {e : α → List D} {z : α} {c : List AV} (hz : (e z).map .d = c) (m : Nat) : (List.replicate m c).flatten = Zav e (List.replicate m z) := by
 subst hz
 induction m with
 | zero => rfl
 | succ m ih => rw [Ybr, YaA, ih, Ybr, Zct]
end Go.Eng
namespace Go.Eng
set_option linter.all false
open Go Go.RowKit
section
variable {P : Program} {T : Nat → Option TI} {n : Nat} {C : Cx} {τ : St} {Q : Exit → St → Prop}
theorem ZBL (hC : CxOk C) {os : Nat} {fx : List Nat} (hO : C.outs = os) (hF : C.fx = fx) {c : Code} (a : AT) (lf : Lf) (q : Ren → (St → Prop) → Prop)
  (hq : ∀ r Φ, Zd1 r os a τ (fun τ _ => Zf5 fx lf τ Φ) = q r Φ) (h : ∀ r, r.θ = C.θ → r.H0 = C.H0 → r.κ = C.κ → r.no = C.no → q r (fun τ' => LW P n C c τ' Q)) : LW P n C c τ Q := by
 subst hO
 subst hF
 intro γ σ hg hG
 have h1 := h (C.r γ) rfl rfl rfl rfl
 rw [← hq] at h1
 obtain ⟨τ₁, a₁, σ₁, h2, hG1, hw1⟩ := Zar (n := n) hC a h1 hG
 obtain ⟨γ', τ₄, σ₄, j0, j1, j2, j3⟩ := ZcM (n := n) hC h2 hg hG1
 exact AWp.weak (j1 γ' σ₄ j0 j2) (hw1.trans j3)
end
theorem ZxG {s : ByteArray} {i : Int} (h0 : 0 ≤ i) (h : i < s.size) : ZFB s i ((s.data.toList.getD i.toNat 0).toNat : Int) := by
 have := ZAE (s := s) (i := i.toNat) (by omega)
 rwa [Int.toNat_of_nonneg h0] at this
abbrev vL {α : Type} (e : α → List D) (xs : List α) : AV := .d (.list (xs.map e))
abbrev vS (s : ByteArray) : AV := .d (.str s)
abbrev vI (x : Int) : AV := .d (.int .i64 x)
abbrev vN (x : Nat) : AV := .d (.int .i64 (x : Int))
abbrev vB (x : Bool) : AV := .d (.bool x)
abbrev nl : Lf := ⟨[], [], [], []⟩
abbrev lf1 (ls : List Nat) : Lf := ⟨ls, [], [], []⟩
abbrev lf2 (ls : List Nat) (ks : List (Key × Bool)) : Lf := ⟨ls, ks, [], []⟩
class Rw (α : Type) where
 e : α → List D
 f : α → List D
 z : α
 s : Nat
 len : ∀ x, (e x).length = s
 ef : ∀ x, e x = f x
 s0 : s ≠ 0
instance : Rw ByteArray := ⟨Zal, Zal, ⟨#[]⟩, 1, fun _ => rfl, fun _ => rfl, by decide⟩
instance : Rw Int := ⟨ZqK, ZqK, 0, 1, fun _ => rfl, fun _ => rfl, by decide⟩
instance : Rw Bool := ⟨ZLK, ZLK, false, 1, fun _ => rfl, fun _ => rfl, by decide⟩
instance : Rw Nt := ⟨eNt, eNt, zNt, 8, fun _ => rfl, fun _ => rfl, by decide⟩
instance : Rw Fld := ⟨Zdb, Zdb, ZPr, 16, fun _ => rfl, fun _ => rfl, by decide⟩
instance : Rw Spn := ⟨Zd0, Zd0, ZQw, 2, fun _ => rfl, fun _ => rfl, by decide⟩
instance : Rw By := ⟨eBy, eBy, zBy, 1, fun _ => rfl, fun _ => rfl, by decide⟩
instance : Rw Msg := ⟨ZaC, ZaC, ZQv, 5, fun _ => rfl, fun _ => rfl, by decide⟩
instance : Rw Itm := ⟨Ze1, Ze1, ZPV, 3, fun _ => rfl, fun _ => rfl, by decide⟩
instance : Rw Enm := ⟨Zan, Zan, ZQ2, 5, fun _ => rfl, fun _ => rfl, by decide⟩
instance : Rw Mth := ⟨Zdv, Zdv, ZQm, 5, fun _ => rfl, fun _ => rfl, by decide⟩
instance : Rw Svc := ⟨ZaG, ZaG, ZQY, 3, fun _ => rfl, fun _ => rfl, by decide⟩
instance : Rw Fil := ⟨Zat, Zat, Zjs, 6, fun _ => rfl, fun _ => rfl, by decide⟩
instance (α : Type) [Rw α] : Rw (List α) := ⟨fun x => [.list (x.map Rw.e)], fun x => [.list (x.map Rw.e)], [], 1, fun _ => rfl, fun _ => rfl, by decide⟩
inductive Lv (σ ξ ρ : Type) where
 | nx (v : σ)
 | ex (b : ξ)
 | rt (y : ρ)
structure En where
 l : Nat
 r : Ren
 Q : Exit → St → Prop
 P : AV → List Blk → Prop
structure Gd (C : Cx) (r : Ren) : Prop where
 θ : r.θ = C.θ
 H : r.H0 = C.H0
 κ : r.κ = C.κ
 no : r.no = C.no
structure CO (C : Cx) (os : Nat) : Prop where
 ok : CxOk C
 O : C.outs = os
 F : C.fx = Zgv os
 W : ∀ q, q < os → C.no (C.κ (0, q))
def HL {β : Type} (L : β → Prop) (y : β) : Prop := L y
structure Ev (os : Nat) (β : Type) where
 E : En
 L : β → Prop
 C : Cx
 co : CO C os
 g : Gd C E.r
 hl : E.l = C.l
structure PT (os : Nat) (β : Type) where
 a : AT
 q : En → Prop
 m : Option β
 n : Ev os β → Prop
 ok : ∀ E : Ev os β, n E → ∀ y, m = some y → HL E.L y → q E.E
section
variable {os : Nat} {β : Type}
structure Sp where
 w : AT → AT
 p : En → Prop
 c : Prop
 d : Decidable c
 ok : c → ∀ E, p E
structure Sz where
 w : AT → AT
 p : En → Prop
 ok : ∀ E, p E
theorem Zas {c : Prop} [d : Decidable c] {m : Option β} {y : β} (h : (if c then m else none) = some y) : c ∧ m = some y := by
 grind
theorem bind_some {γ : Type} {m : Option γ} {k : γ → Option β} {y : β} (h : m.bind k = some y) : ∃ x, m = some x ∧ k x = some y := by
 cases m with
 | none => cases h
 | some x => exact ⟨x, rfl, h⟩
@[reducible] def vs (s : Sp) (k : PT os β) : PT os β := ⟨s.w k.a, fun E => s.p E ∧ k.q E, @ite _ s.c s.d k.m none, k.n, fun E hn y hm hL => by
 obtain ⟨h1, h2⟩ := @Zas _ _ s.d _ _ hm
 exact ⟨s.ok h1 E.E, k.ok E hn y h2 hL⟩⟩
@[reducible] def vg (b : Bool) (s : Sp) (k : PT os β) : PT os β := ⟨s.w k.a, fun E => (b = true → s.p E) ∧ k.q E, @ite _ (b = true → s.c) (@instDecidableForall _ _ _ s.d) k.m none, k.n, fun E hn y hm hL => by
 obtain ⟨h1, h2⟩ := @Zas _ _ (@instDecidableForall _ _ _ s.d) _ _ hm
 exact ⟨fun e => s.ok (h1 e) E.E, k.ok E hn y h2 hL⟩⟩
@[reducible] def vz (s : Sz) (k : PT os β) : PT os β := ⟨s.w k.a, fun E => s.p E ∧ k.q E, k.m, k.n, fun E hn y hm hL => ⟨s.ok E.E, k.ok E hn y hm hL⟩⟩
@[reducible] def vy (b : Bool) (s : Sz) (k : PT os β) : PT os β := ⟨s.w k.a, fun E => (b = true → s.p E) ∧ k.q E, k.m, k.n, fun E hn y hm hL => ⟨fun _ => s.ok E.E, k.ok E hn y hm hL⟩⟩
@[reducible] def v2 (s : Sp) (p1 p2 : En → Prop) (h : s.c → ∀ E, p1 E ∧ p2 E) (k : PT os β) : PT os β := ⟨s.w k.a, fun E => p1 E ∧ p2 E ∧ k.q E, @ite _ s.c s.d k.m none, k.n, fun E hn y hm hL => by
 obtain ⟨h1, h2⟩ := @Zas _ _ s.d _ _ hm
 exact ⟨(h h1 E.E).1, (h h1 E.E).2, k.ok E hn y h2 hL⟩⟩
@[reducible] def vw (w : AT → AT) (k : PT os β) : PT os β := ⟨w k.a, k.q, k.m, k.n, k.ok⟩
@[reducible] def br (b : Bool) (t f : PT os β) : PT os β := ⟨.br t.a f.a, fun E => (b = true → t.q E) ∧ (b = false → f.q E), if b = true then t.m else f.m, fun E => t.n E ∧ f.n E, fun E hn y hm hL =>
 ⟨fun e => t.ok E hn.1 y (by rw [if_pos e] at hm; exact hm) hL, fun e => f.ok E hn.2 y (by rw [if_neg (by rw [e]; decide)] at hm; exact hm) hL⟩⟩
@[reducible] def al {α : Type} (e : α → List D) (xs : List α) (neg : Bool) (k : Bool → PT os β) : PT os β := ⟨(k neg).a, fun E => ∀ b : Bool, (xs.map e ≠ [] → b = neg) → (k b).q E, (k neg).m,
 fun E => (∀ b, (k b).n E) ∧ ∀ b, xs = [] → (k b).m = (k neg).m, fun E hn y hm hL b hb => by
  by_cases h : xs = []
  ·exact (k b).ok E (hn.1 b) y ((hn.2 b h).trans hm) hL
  ·have : b = neg := hb (by intro h2; exact h (List.map_eq_nil_iff.1 h2))
   subst this
   exact (k b).ok E (hn.1 b) y hm hL⟩
@[reducible] def dd : PT os β := ⟨.nil, fun _ => False, none, fun _ => True, fun _ _ _ h _ => by cases h⟩
@[reducible] def lf (p : En → Prop) (y : β) : PT os β := ⟨.nil, p, some y, fun E => HL E.L y → p E.E, fun E hn z hm hL => hn (by cases hm; exact hL)⟩
@[reducible] def lc (s : St) (m : Option β) : PT os β := ⟨.nil, fun E => E.Q .normal s, m, fun E => ∀ y, m = some y → HL E.L y → E.E.Q .normal s, fun E hn y hm hL => hn y hm hL⟩
@[reducible] def lxc (i : Nat) (s : St) (m : Option β) : PT os β := ⟨.nil, fun E => E.Q (.exit i) s, m, fun E => ∀ y, m = some y → HL E.L y → E.E.Q (.exit i) s, fun E hn y hm hL => hn y hm hL⟩
@[reducible] def lfe (c : Prop) [Decidable c] (p : En → Prop) (y : β) : PT os β := ⟨.nil, p, if c then some y else none, fun E => c → HL E.L y → p E.E, fun E hn z hm hL => by
 obtain ⟨h0, hm⟩ := Zas hm
 cases hm
 exact hn h0 hL⟩
@[reducible] def lr (er : β → AV) (bs : β → List Blk) (y : β) : PT os β := lf (fun E => E.P (er y) (bs y)) y
section
variable {σ ξ ρ : Type}
@[reducible] def lrt (er : ρ → AV) (bs : ρ → List Blk) (y : ρ) : PT os (Lv σ ξ ρ) := lf (fun E => E.P (er y) (bs y)) (.rt y)
@[reducible] def ln (S : σ → St) (v : σ) : PT os (Lv σ ξ ρ) := lf (fun E => E.Q .normal (S v)) (.nx v)
@[reducible] def lxe (X : ξ → Nat × St) (b : ξ) : PT os (Lv σ ξ ρ) := lf (fun E => E.Q (.exit (X b).1) (X b).2) (.ex b)
end
section
variable {α : Type} [Rw α]
@[reducible] def ix (xs : List α) (i : Nat) (k : α → PT os β) : PT os β :=
 ⟨.ds (Rw.f (xs.getD i Rw.z)) (k (xs.getD i Rw.z)).a, fun E => Zy4 (xs.map Rw.e) ((i : Nat) : Int) (Rw.f (xs.getD i Rw.z)) ∧ (k (xs.getD i Rw.z)).q E, xs[i]?.bind fun x => (k x).m, fun E => ∀ x, (k x).n E, fun E hn y hm hL => by
  obtain ⟨x, h1, h2⟩ := bind_some hm
  have e : xs.getD i Rw.z = x := by rw [Yj, h1]; rfl
  rw [e]
  exact ⟨Zss h1 Rw.ef, (k x).ok E (hn x) y h2 hL⟩⟩
@[reducible] def ixi (xs : List α) (i : Int) (k : α → PT os β) : PT os β :=
 ⟨.ds (Rw.f (xs.getD i.toNat Rw.z)) (k (xs.getD i.toNat Rw.z)).a, fun E => Zy4 (xs.map Rw.e) i (Rw.f (xs.getD i.toNat Rw.z)) ∧ (k (xs.getD i.toNat Rw.z)).q E, if 0 ≤ i then xs[i.toNat]?.bind fun x => (k x).m else none, fun E => ∀ x, (k x).n E, fun E hn y hm hL => by
  obtain ⟨h0, hm⟩ := Zas hm
  obtain ⟨x, h1, h2⟩ := bind_some hm
  have e : xs.getD i.toNat Rw.z = x := by rw [Yj, h1]; rfl
  have hlt := (Ya.1 h1).1
  exact ⟨ZnU h0 (by omega) Rw.ef, by rw [e]; exact (k x).ok E (hn x) y h2 hL⟩⟩
@[reducible] def ixg (b : Bool) (xs : List α) (i : Int) (k : α → PT os β) : PT os β :=
 ⟨.ds (Rw.f (xs.getD i.toNat Rw.z)) (k (xs.getD i.toNat Rw.z)).a, fun E => (b = true → Zy4 (xs.map Rw.e) i (Rw.f (xs.getD i.toNat Rw.z))) ∧ (k (xs.getD i.toNat Rw.z)).q E, if (b = true → 0 ≤ i ∧ i < xs.length) then (k (xs.getD i.toNat Rw.z)).m else none, fun E => ∀ x, (k x).n E, fun E hn y hm hL => by
  obtain ⟨h0, hm⟩ := Zas hm
  exact ⟨fun e => ZnU (h0 e).1 (h0 e).2 Rw.ef, (k _).ok E (hn _) y hm hL⟩⟩
@[reducible] def ca (xs : List α) (j : Nat) (k : α → PT os β) : PT os β :=
 ⟨.cs ((Rw.f (xs.getD j Rw.z)).map .d) (k (xs.getD j Rw.z)).a, fun E => ZcF (Zav Rw.e xs) (j * Rw.s α) ((Rw.f (xs.getD j Rw.z)).map .d) ∧ (k (xs.getD j Rw.z)).q E, xs[j]?.bind fun x => (k x).m, fun E => ∀ x, (k x).n E, fun E hn y hm hL => by
  obtain ⟨x, h1, h2⟩ := bind_some hm
  have e : xs.getD j Rw.z = x := by rw [Yj, h1]; rfl
  rw [e]
  exact ⟨Zpw h1 Rw.len Rw.ef, (k x).ok E (hn x) y h2 hL⟩⟩
theorem ZL7 {xs : List α} {j o m : Nat} (ho : Nat.ble (o + m) (Rw.s α) = true) (h : j < xs.length) : ZcF (Zav Rw.e xs) (j * Rw.s α + o) ((((Rw.f (xs.getD j Rw.z)).map AV.d).drop o).take m) := by
 have hl : ((Rw.f (xs.getD j Rw.z)).map AV.d).length = Rw.s α := by rw [Yk, ← Rw.ef, Rw.len]
 have ho := Yh ho
 exact ZjO h Rw.len Rw.ef (by rw [Yr, Yav, hl, Yap (by omega)]) (by rw [Yr, Yav, hl]; omega)
@[reducible] def cp (xs : List α) (j o m : Nat) (k : α → PT os β) (ho : Nat.ble (o + m) (Rw.s α) = true := by kernel_rfl) : PT os β :=
 ⟨.cs ((((Rw.f (xs.getD j Rw.z)).map AV.d).drop o).take m) (k (xs.getD j Rw.z)).a, fun E => ZcF (Zav Rw.e xs) (j * Rw.s α + o) ((((Rw.f (xs.getD j Rw.z)).map AV.d).drop o).take m) ∧ (k (xs.getD j Rw.z)).q E, xs[j]?.bind fun x => (k x).m, fun E => ∀ x, (k x).n E, fun E hn y hm hL => by
  obtain ⟨x, h1, h2⟩ := bind_some hm
  have e : xs.getD j Rw.z = x := by rw [Yj, h1]; rfl
  exact ⟨ZL7 ho (Ya.1 h1).1, by rw [e]; exact (k x).ok E (hn x) y h2 hL⟩⟩
@[reducible] def cag (b : Bool) (xs : List α) (j : Nat) (k : α → PT os β) : PT os β :=
 ⟨.cs ((Rw.f (xs.getD j Rw.z)).map .d) (k (xs.getD j Rw.z)).a, fun E => (b = true → ZcF (Zav Rw.e xs) (j * Rw.s α) ((Rw.f (xs.getD j Rw.z)).map .d)) ∧ (k (xs.getD j Rw.z)).q E, if (b = true → j < xs.length) then (k (xs.getD j Rw.z)).m else none, fun E => ∀ x, (k x).n E, fun E hn y hm hL => by
  obtain ⟨h0, hm⟩ := Zas hm
  exact ⟨fun e => Zhu (h0 e) Rw.len Rw.ef, (k _).ok E (hn _) y hm hL⟩⟩
@[reducible] def st (xs : List α) (j : Nat) (y : α) : Sp := ⟨.cs (Zav Rw.e (xs.set j y)), fun _ => StS (Zav Rw.e xs) (j * Rw.s α) ((Rw.f y).map .d) (Zav Rw.e (xs.set j y)), j < xs.length, inferInstance, fun h _ => Zvj h Rw.len Rw.ef⟩
@[reducible] def eqL (xs : List α) : Sz := ⟨.num ((xs.length : Nat) : Int), fun _ => EqI ((xs.map (Rw.e (α := α))).length : Nat) ((xs.length : Nat) : Int), fun _ => ZBr _ _⟩
@[reducible] def fl (xs : List α) : Sz := ⟨id, fun _ => ZhQ (Zav Rw.e xs), fun _ => Zb2 _ _⟩
@[reducible] def fz (xs : List α) : Sz := ⟨id, fun _ => FzR (Zav Rw.e xs) 0 xs.length (Rw.s α) (xs.map Rw.e), fun _ => ZmO _ Rw.s0 Rw.len⟩
@[reducible] def fr (xs : List α) : Sz := ⟨.av (.d (.list (xs.map Rw.e))), fun _ => FzR (Zav Rw.e xs) 0 xs.length (Rw.s α) (xs.map Rw.e), fun _ => ZmO _ Rw.s0 Rw.len⟩
@[reducible] def ap (xs : List α) (y : α) (k : PT os β) : PT os β := ⟨.nat 1 (.cs (Zav Rw.e [y]) (.cs (Zav Rw.e (xs ++ [y])) (.nat (xs ++ [y]).length k.a))),
 fun E => Zoj (Rw.s α) [] (.d (.list [Rw.f y])) 1 (Zav Rw.e [y]) ∧ ZEg (Zav Rw.e xs) 0 xs.length 1 (Rw.s α) 256 (Zav Rw.e [y]) (Zav Rw.e (xs ++ [y])) (xs ++ [y]).length ∧ k.q E,
 if xs.length < 549755813887 then k.m else none, k.n, fun E hn z hm hL => by
  obtain ⟨h0, hm⟩ := Zas hm
  exact ⟨ZjQ _ Rw.len Rw.ef, ZfT xs [y] Rw.len rfl rfl (by rw [YaO]; omega), k.ok E hn z hm hL⟩⟩
@[reducible] def aq (xs ys : List α) (k : PT os β) : PT os β := ⟨.nat ys.length (.cs (Zav Rw.e ys) (.cs (Zav Rw.e (xs ++ ys)) (.nat (xs ++ ys).length k.a))),
 fun E => Zoj (Rw.s α) [] (.d (.list (ys.map Rw.e))) ys.length (Zav Rw.e ys) ∧ ZEg (Zav Rw.e xs) 0 xs.length ys.length (Rw.s α) 256 (Zav Rw.e ys) (Zav Rw.e (xs ++ ys)) (xs ++ ys).length ∧ k.q E,
 if xs.length + ys.length < 549755813888 then k.m else none, k.n, fun E hn z hm hL => by
  obtain ⟨h0, hm⟩ := Zas hm
  exact ⟨ZgV _ _ Rw.len, ZfT xs ys Rw.len rfl rfl (by omega), k.ok E hn z hm hL⟩⟩
@[reducible] def ar (xs ys : List α) (kk : Key) (g : Nat) (k : PT os β) : PT os β := ⟨.nat ys.length (.cs (Zav Rw.e ys) (.cs (Zav Rw.e (xs ++ ys)) (.nat (xs ++ ys).length k.a))),
 fun E => Zoj (Rw.s α) (Zav Rw.e ys) (.ref kk g 0 ys.length) ys.length (Zav Rw.e ys) ∧ ZEg (Zav Rw.e xs) 0 xs.length ys.length (Rw.s α) 256 (Zav Rw.e ys) (Zav Rw.e (xs ++ ys)) (xs ++ ys).length ∧ k.q E,
 if xs.length + ys.length < 549755813888 then k.m else none, k.n, fun E hn z hm hL => by
  obtain ⟨h0, hm⟩ := Zas hm
  exact ⟨Zxv _ _ _ Rw.len, ZfT xs ys Rw.len rfl rfl (by omega), k.ok E hn z hm hL⟩⟩
@[reducible] def a1 (y : α) (k : PT os β) : PT os β := ⟨.nat 1 (.cs (Zav Rw.e [y]) k.a), fun E => Zoj (Rw.s α) [] (.d (.list [Rw.f y])) 1 (Zav Rw.e [y]) ∧ ZIB 1 256 ∧ k.q E, k.m, k.n, fun E hn z hm hL => ⟨ZjQ _ Rw.len Rw.ef, by unfold ZIB; decide, k.ok E hn z hm hL⟩⟩
@[reducible] def a0 (ys : List α) (k : PT os β) : PT os β := ⟨.nat ys.length (.cs (Zav Rw.e ys) k.a), fun E => Zoj (Rw.s α) [] (.d (.list (ys.map Rw.e))) ys.length (Zav Rw.e ys) ∧ ZIB ys.length 256 ∧ k.q E, if ys.length < 549755813888 then k.m else none, k.n, fun E hn z hm hL => by
  obtain ⟨h0, hm⟩ := Zas hm
  exact ⟨ZgV _ _ Rw.len, by unfold ZIB; omega, k.ok E hn z hm hL⟩⟩
@[reducible] def ap2 (xs : List α) (y z : α) (k : PT os β) : PT os β := ⟨.nat 2 (.cs (Zav Rw.e [y, z]) (.cs (Zav Rw.e (xs ++ [y, z])) (.nat (xs ++ [y, z]).length k.a))),
 fun E => Zoj (Rw.s α) [] (.d (.list [Rw.f y, Rw.f z])) 2 (Zav Rw.e [y, z]) ∧ ZEg (Zav Rw.e xs) 0 xs.length 2 (Rw.s α) 256 (Zav Rw.e [y, z]) (Zav Rw.e (xs ++ [y, z])) (xs ++ [y, z]).length ∧ k.q E,
 if xs.length < 549755813886 then k.m else none, k.n, fun E hn w hm hL => by
  obtain ⟨h0, hm⟩ := Zas hm
  refine ⟨?_, ZfT xs [y, z] Rw.len rfl rfl (by simp only [YU, Yao]; omega), k.ok E hn w hm hL⟩
  have := ZgV (sz := Rw.s α) (e := Rw.e) ([] : List AV) [y, z] Rw.len
  rw [← Rw.ef, ← Rw.ef]; exact this⟩
@[reducible] def ms (m : Nat) (z : α) (zc : List AV) (hz : (Rw.e z).map .d = zc) (k : PT os β) : PT os β := ⟨.nat (List.replicate m z).length (.cs (Zav Rw.e (List.replicate m z)) k.a),
 fun E => MkS ((m : Nat) : Int) ((m : Nat) : Int) 256 (List.replicate m z).length zc (Zav Rw.e (List.replicate m z)) ∧ k.q E, if m ≤ 549755813888 then k.m else none, k.n, fun E hn y hm hL => by
  obtain ⟨h0, hm⟩ := Zas hm
  exact ⟨⟨by rw [Ybi], Int.le_refl _, by omega, by rw [Ybi]; exact ZAK hz m⟩, k.ok E hn y hm hL⟩⟩
@[reducible] def rn (j d n : Nat) (xs : List α) (k : PT os β) : PT os β := ⟨.reb j d xs.length (Zav Rw.e xs) k.a,
 fun E => (n = xs.length ∧ 0 * Rw.s α ≤ (Zav (Rw.e (α := α)) xs).length ∧ (Zav Rw.e xs).drop (0 * Rw.s α) = Zav Rw.e xs) ∧ k.q E, if n = xs.length then k.m else none, k.n, fun E hn y hm hL => by
  obtain ⟨h0, hm⟩ := Zas hm
  exact ⟨⟨h0, by rw [YaU]; exact Yaq _, by rw [YaU]; rfl⟩, k.ok E hn y hm hL⟩⟩
@[reducible] def frt (n : Nat) (xs : List α) : Sp := ⟨.av (.d (.list (xs.map Rw.e))), fun _ => FzR (Zav Rw.e xs) 0 n (Rw.s α) (xs.map Rw.e), n = xs.length, inferInstance, fun h _ => ZC2 h (ZmO _ Rw.s0 Rw.len)⟩
@[reducible] def stp (xs : List α) (j fo : Nat) (vs : List D) (Y : α → α) (he : ∀ x, Rw.e (Y x) = (Rw.e x).take fo ++ vs ++ (Rw.e x).drop (fo + vs.length)) (k : List α → PT os β) (hf : Nat.ble (fo + vs.length) (Rw.s α) = true := by kernel_rfl) : PT os β :=
 ⟨.cs (Zav Rw.e (xs.set j (Y (xs.getD j Rw.z)))) (k (xs.set j (Y (xs.getD j Rw.z)))).a, fun E => StS (Zav Rw.e xs) (j * Rw.s α + fo) (vs.map .d) (Zav Rw.e (xs.set j (Y (xs.getD j Rw.z)))) ∧ (k (xs.set j (Y (xs.getD j Rw.z)))).q E, xs[j]?.bind fun x => (k (xs.set j (Y x))).m, fun E => ∀ l, (k l).n E, fun E hn y hm hL => by
  obtain ⟨x, h1, h2⟩ := bind_some hm
  have e : xs.getD j Rw.z = x := by rw [Yj, h1]; rfl
  exact ⟨ZwQ (Ya.1 h1).1 Rw.len (Yh hf) (he _), by rw [e]; exact (k _).ok E (hn _) y h2 hL⟩⟩
@[reducible] def rb (j d n : Nat) (xs : List α) (off : Nat) (k : PT os β) : PT os β := ⟨.reb j d (xs.drop off).length (Zav Rw.e (xs.drop off)) k.a,
 fun E => (n = (xs.drop off).length ∧ off * Rw.s α ≤ (Zav (Rw.e (α := α)) xs).length ∧ (Zav Rw.e xs).drop (off * Rw.s α) = Zav Rw.e (xs.drop off)) ∧ k.q E, if n = (xs.drop off).length ∧ off ≤ xs.length then k.m else none, k.n, fun E hn y hm hL => by
  obtain ⟨h0, hm⟩ := Zas hm
  exact ⟨ZDY h0.1 h0.2 Rw.len, k.ok E hn y hm hL⟩⟩
end
@[reducible] def vwr (q : Nat) (vs : List AV) (low : ∀ r : Ren, ZFH r (0, q) vs) (k : PT os β) (hq : Nat.ble (q + 1) os = true := by kernel_rfl) : PT os β :=
 ⟨k.a, fun E => WrS E.r (0, q) ∧ ZFH E.r (0, q) vs ∧ k.q E, k.m, k.n, fun E hn y hm hL => ⟨⟨rfl, by rw [E.g.no, E.g.κ]; exact E.co.W q (Yh hq)⟩, low _, k.ok E hn y hm hL⟩⟩
inductive Bd
 | no
 | nt (n : Nat)
 | it (x : Int)
def Bd.ov : Bd → Option AV
 | .no => none
 | .nt n => some (.d (.int .i64 (n : Int)))
 | .it x => some (.d (.int .i64 x))
def Bd.vl (d : Nat) : Bd → Nat
 | .no => d
 | .nt n => n
 | .it x => x.toNat
def Bd.c : Bd → Prop
 | .it x => 0 ≤ x
 | _ => True
instance (b : Bd) : Decidable b.c := by cases b <;> unfold Bd.c <;> infer_instance
theorem Bd.ok {d : Nat} {b : Bd} (h : b.c) : SlB d b.ov (b.vl d) := by
 cases b with
 | no => rfl
 | nt n => rfl
 | it x => exact (Int.toNat_of_nonneg h).symm
@[reducible] def ss (s : ByteArray) (lo hi : Bd) (k : ByteArray → PT os β) : PT os β :=
 ⟨.nat (lo.vl 0) (.nat (hi.vl s.size) (k (s.extract (lo.vl 0) (hi.vl s.size))).a), fun E => SlB 0 lo.ov (lo.vl 0) ∧ SlB s.size hi.ov (hi.vl s.size) ∧ SlS (lo.vl 0) (hi.vl s.size) s.size ∧ (k (s.extract (lo.vl 0) (hi.vl s.size))).q E,
 if lo.c ∧ hi.c ∧ lo.vl 0 ≤ hi.vl s.size ∧ hi.vl s.size ≤ s.size then (k (s.extract (lo.vl 0) (hi.vl s.size))).m else none, fun E => ∀ x, (k x).n E, fun E hn y hm hL => by
  obtain ⟨h0, hm⟩ := Zas hm
  exact ⟨Bd.ok h0.1, Bd.ok h0.2.1, h0.2.2, (k _).ok E (hn _) y hm hL⟩⟩
@[reducible] def ssg (b : Bool) (s : ByteArray) (lo hi : Bd) (k : ByteArray → PT os β) : PT os β :=
 ⟨.nat (lo.vl 0) (.nat (hi.vl s.size) (k (s.extract (lo.vl 0) (hi.vl s.size))).a), fun E => (b = true → SlB 0 lo.ov (lo.vl 0)) ∧ (b = true → SlB s.size hi.ov (hi.vl s.size)) ∧ (b = true → SlS (lo.vl 0) (hi.vl s.size) s.size) ∧ (k (s.extract (lo.vl 0) (hi.vl s.size))).q E,
 if (b = true → lo.c ∧ hi.c ∧ lo.vl 0 ≤ hi.vl s.size ∧ hi.vl s.size ≤ s.size) then (k (s.extract (lo.vl 0) (hi.vl s.size))).m else none, fun E => ∀ x, (k x).n E, fun E hn y hm hL => by
  obtain ⟨h0, hm⟩ := Zas hm
  exact ⟨fun e => Bd.ok (h0 e).1, fun e => Bd.ok (h0 e).2.1, fun e => (h0 e).2.2, (k _).ok E (hn _) y hm hL⟩⟩
section
variable {α : Type} [Rw α]
@[reducible] def sL (xs : List α) (lo hi : Bd) (k : List α → PT os β) : PT os β :=
 ⟨.nat (lo.vl 0) (.nat (hi.vl xs.length) (.av (.d (.list (((xs.drop (lo.vl 0)).take (hi.vl xs.length - lo.vl 0)).map Rw.e))) (k ((xs.drop (lo.vl 0)).take (hi.vl xs.length - lo.vl 0))).a)),
 fun E => SlB 0 lo.ov (lo.vl 0) ∧ SlB (xs.map (Rw.e (α := α))).length hi.ov (hi.vl xs.length) ∧ SlS (lo.vl 0) (hi.vl xs.length) (xs.map (Rw.e (α := α))).length ∧ SlD (xs.map Rw.e) (Rw.s α) (lo.vl 0) (hi.vl xs.length) (((xs.drop (lo.vl 0)).take (hi.vl xs.length - lo.vl 0)).map Rw.e) ∧ (k ((xs.drop (lo.vl 0)).take (hi.vl xs.length - lo.vl 0))).q E,
 if lo.c ∧ hi.c ∧ lo.vl 0 ≤ hi.vl xs.length ∧ hi.vl xs.length ≤ xs.length then (k ((xs.drop (lo.vl 0)).take (hi.vl xs.length - lo.vl 0))).m else none, fun E => ∀ x, (k x).n E, fun E hn y hm hL => by
  obtain ⟨h0, hm⟩ := Zas hm
  exact ⟨Bd.ok h0.1, by rw [Yk]; exact Bd.ok h0.2.1, ZEw h0.2.2, ZBm Rw.len, (k _).ok E (hn _) y hm hL⟩⟩
end
@[reducible] def sR (len off : Nat) (lo hi : Bd) (k : PT os β) : PT os β :=
 ⟨.nat (lo.vl 0) (.nat (hi.vl len) (.nat (off + lo.vl 0) (.nat (hi.vl len - lo.vl 0) k.a))), fun E => SlB 0 lo.ov (lo.vl 0) ∧ SlB len hi.ov (hi.vl len) ∧ SlS (lo.vl 0) (hi.vl len) len ∧ SlR off (lo.vl 0) (hi.vl len) (off + lo.vl 0) (hi.vl len - lo.vl 0) ∧ k.q E,
 if lo.c ∧ hi.c ∧ lo.vl 0 ≤ hi.vl len ∧ hi.vl len ≤ len then k.m else none, k.n, fun E hn y hm hL => by
  obtain ⟨h0, hm⟩ := Zas hm
  exact ⟨Bd.ok h0.1, Bd.ok h0.2.1, h0.2.2, ⟨rfl, rfl⟩, k.ok E hn y hm hL⟩⟩
@[reducible] def eqN (n : Nat) : Sz := ⟨.num ((n : Nat) : Int), fun _ => EqI ((n : Nat) : Int) ((n : Nat) : Int), fun _ => rfl⟩
@[reducible] def wa (a b : Nat) : Sp := ⟨.num ((a + b : Nat) : Int), fun _ => Zdl .i64 (((a : Nat) : Int) + ((b : Nat) : Int)) ((a + b : Nat) : Int), a + b < 9223372036854775808, inferInstance, fun h _ => Zn6 (by omega) (by omega) (by omega)⟩
@[reducible] def wm (a b : Nat) : Sp := ⟨.num ((a * b : Nat) : Int), fun _ => Zdl .i64 (((a : Nat) : Int) * ((b : Nat) : Int)) ((a * b : Nat) : Int), a * b < 9223372036854775808, inferInstance, fun h _ => Zn6 (by simp) (by omega) (by omega)⟩
@[reducible] def wi (x : Int) : Sp := ⟨.num x, fun _ => Zdl .i64 x x, -9223372036854775808 ≤ x ∧ x < 9223372036854775808, inferInstance, fun h _ => Zn6 rfl h.1 h.2⟩
@[reducible] def wk (i : IntKind) (x : Int) : Sz := ⟨.num (i.wrap x), fun _ => Zdl i x (i.wrap x), fun _ => rfl⟩
@[reducible] def ir (i len sz : Nat) : Sp := ⟨.nat (i * sz), fun _ => ZFJ ((i : Nat) : Int) len 0 sz (i * sz), i < len, inferInstance, fun h _ => ZNz h⟩
@[reducible] def iri (i : Int) (len sz : Nat) : Sp := ⟨.nat (i.toNat * sz), fun _ => ZFJ i len 0 sz (i.toNat * sz), 0 ≤ i ∧ i < len, inferInstance, fun h _ => Zt9 h.1 h.2⟩
@[reducible] def ibi (s : ByteArray) (i : Int) (k : UInt8 → PT os β) : PT os β :=
 ⟨.num ((s.data.toList.getD i.toNat 0).toNat : Nat) (k (s.data.toList.getD i.toNat 0)).a, fun E => ZFB s i ((s.data.toList.getD i.toNat 0).toNat : Nat) ∧ (k (s.data.toList.getD i.toNat 0)).q E, if 0 ≤ i ∧ i < s.size then (k (s.data.toList.getD i.toNat 0)).m else none, fun E => ∀ x, (k x).n E, fun E hn y hm hL => by
  obtain ⟨h0, hm⟩ := Zas hm
  exact ⟨ZxG h0.1 h0.2, (k _).ok E (hn _) y hm hL⟩⟩
@[reducible] def ad (a b : ByteArray) (k : ByteArray → PT os β) : PT os β := ⟨(k (a ++ b)).a, fun E => ZOZ a b ∧ (k (a ++ b)).q E, if a.size + b.size ≤ 9223372036854775807 then (k (a ++ b)).m else none, fun E => ∀ x, (k x).n E, fun E hn y hm hL => by
  obtain ⟨h0, hm⟩ := Zas hm
  exact ⟨h0, (k _).ok E (hn _) y hm hL⟩⟩
def Zbx (k : IntKind) (x y : Int) : Int := x.fdiv (2 ^ (min y.toNat k.bits))
def ZOw (k : IntKind) (x y : Int) : Int := k.wrap (x * 2 ^ (min y.toNat k.bits))
def ZOs (k : IntKind) (x y : Int) : Int := k.wrap (x.tdiv y)
def ZFo (_ : IntKind) (x y : Int) : Int := x.tmod y
@[reducible] def shr (i : IntKind) (x y : Int) (k : PT os β) : PT os β := v2 ⟨.num (Zbx i x y), fun _ => True, 0 ≤ y, inferInstance, fun _ _ => trivial⟩ (fun _ => LeI 0 y) (fun _ => EqI (x.fdiv (2 ^ (min y.toNat i.bits))) (Zbx i x y)) (fun h _ => ⟨h, rfl⟩) k
@[reducible] def shl (i : IntKind) (x y : Int) (k : PT os β) : PT os β := v2 ⟨.num (ZOw i x y), fun _ => True, 0 ≤ y, inferInstance, fun _ _ => trivial⟩ (fun _ => LeI 0 y) (fun _ => Zdl i (x * 2 ^ (min y.toNat i.bits)) (ZOw i x y)) (fun h _ => ⟨h, rfl⟩) k
@[reducible] def quo (i : IntKind) (x y : Int) (k : PT os β) : PT os β := v2 ⟨.num (ZOs i x y), fun _ => True, y ≠ 0, inferInstance, fun _ _ => trivial⟩ (fun _ => NeI y 0) (fun _ => Zdl i (x.tdiv y) (ZOs i x y)) (fun h _ => ⟨h, rfl⟩) k
@[reducible] def rem (i : IntKind) (x y : Int) (k : PT os β) : PT os β := v2 ⟨.num (ZFo i x y), fun _ => True, y ≠ 0, inferInstance, fun _ _ => trivial⟩ (fun _ => NeI y 0) (fun _ => EqI (x.tmod y) (ZFo i x y)) (fun h _ => ⟨h, rfl⟩) k
structure KC (P : Program) (f : FuncId) (xs : List AV) {γ : Type} (M : Option γ) (e : γ → AV) : Prop where
 k : ∀ l H y, M = some y → ZcN P f l xs H (fun z H' => z = e y ∧ H' = H)
 x : ∀ r, Zao r xs = xs
 e : ∀ r y, ren r (e y) = e y
@[reducible] def cl {P : Program} {f : FuncId} {xs : List AV} {γ : Type} [Inhabited γ] {M : Option γ} {e : γ → AV} (K : KC P f xs M e) (k : γ → PT os β) : PT os β :=
 ⟨.call (e (M.getD default)) [] (k (M.getD default)).a, fun E => ZhO P E.l E.r f xs [] (e (M.getD default)) ∧ (k (M.getD default)).q E, M.bind fun y => (k y).m, fun E => ∀ y, (k y).n E, fun E hn y hm hL => by
  obtain ⟨x, h1, h2⟩ := bind_some hm
  have h3 : M.getD default = x := by rw [h1]; rfl
  rw [h3]
  exact ⟨fun H' _ _ => by rw [K.x, K.e]; exact K.k _ H' x h1, (k x).ok E (hn x) y h2 hL⟩⟩
@[reducible] def clg (b : Bool) {P : Program} {f : FuncId} {xs : List AV} {γ : Type} [Inhabited γ] {M : Option γ} {e : γ → AV} (K : KC P f xs M e) (k : γ → PT os β) : PT os β :=
 ⟨.call (e (M.getD default)) [] (k (M.getD default)).a, fun E => (b = true → ZhO P E.l E.r f xs [] (e (M.getD default))) ∧ (k (M.getD default)).q E, if (b = true → M.isSome = true) then (k (M.getD default)).m else none, fun E => ∀ y, (k y).n E, fun E hn y hm hL => by
  obtain ⟨h0, hm⟩ := Zas hm
  refine ⟨fun hb H' _ _ => ?_, (k _).ok E (hn _) y hm hL⟩
  obtain ⟨x, h1⟩ := Y2.1 (h0 hb)
  have h3 : M.getD default = x := by rw [h1]; rfl
  rw [K.x, K.e, h3]; exact K.k _ H' x h1⟩
end
section
variable {P : Program} {T : Nat → Option TI} {n : Nat} {C : Cx} {τ σ : St} {Q : Exit → St → Prop} {os : Nat} {p : List Nat} {b : Code}
def pa : List Nat → Code → Code
 | [], c => c
 | i :: p, c => cAt [i] (pa p c)
def ZMe : Code → Bool
 | .seq _ _ => true
 | _ => false
def ZNJ (i : Nat) : Code → Bool
 | .block j _ => Nat.beq j i
 | _ => false
def ZK3 : Code → Bool
 | .cond _ _ _ => true
 | _ => false
def ZNo : Code → Bool
 | .loop _ => true
 | _ => false
theorem sq (h : LW P n C (pa (0 :: p) b) τ (fun e τ' => match e with | .normal => LW P n C (pa (1 :: p) b) τ' Q | e => Q e τ')) (hs : ZMe (pa p b) = true := by kernel_rfl) : LW P n C (pa p b) τ Q := by
 unfold pa at h
 generalize pa p b = c at *
 cases c with
 | seq x y => exact ZF0 h
 | _ => cases hs
def ZFs (P : Program) (T : Nat → Option TI) (l n os : Nat) (r : Ren) : Nat → Code → AT → St → (Exit → St → AT → Prop) → Prop
 | 0, _, a, τ, K => K .normal τ a
 | m + 1, .seq x y, a, τ, K => Zdu P T l n os r x a τ (fun e τ' a' => match e with | .normal => ZFs P T l n os r m y a' τ' K | e => K e τ' a')
 | _, _, _, _, _ => False
def rst : Nat → Code → Code
 | m + 1, .seq _ y => rst m y
 | _, c => c
def up : Nat → List Nat → List Nat
 | 0, p => p
 | m + 1, p => up m (1 :: p)
def lng : Nat → Code → Bool
 | m + 1, .seq _ y => lng m y
 | 0, _ => true
 | _, _ => false
theorem ZyC : ∀ (m : Nat) (p : List Nat), lng m (pa p b) = true → rst m (pa p b) = pa (up m p) b
 | 0, p, _ => by
  show rst 0 (pa p b) = pa p b
  cases pa p b <;> rfl
 | m + 1, p, h => by
  have ih := ZyC m (1 :: p)
  have e : pa (1 :: p) b = cAt [1] (pa p b) := rfl
  show rst (m + 1) (pa p b) = pa (up m (1 :: p)) b
  generalize pa p b = c at *
  cases c with
  | seq x y =>
   have e : pa (1 :: p) b = y := e
   rw [e] at ih
   exact ih h
  | _ => cases h
theorem Zia (hC : CxOk C) (hT : TOk P T) (hm : P.follows .mixedOrders = true) {γ : Key → Nat} {QQ : Exit → St → Prop} (hw : ∀ e σ σ', QQ e σ' → Wk n C σ σ' → QQ e σ) : ∀ (m : Nat) (c : Code) (a : AT) (τ σ : St) (K : Exit → St → AT → Prop), ZFs P T C.l n C.outs (C.r γ) m c a τ K → RG (C.r γ) C.l C.outs [] τ σ →
  (∀ τ' a' σ', K .normal τ' a' → RG (C.r γ) C.l C.outs [] τ' σ' → AWp P C.l n C.B (rst m c) QQ σ') → (∀ e τ' a' σ', e ≠ .normal → K e τ' a' → RG (C.r γ) C.l C.outs [] τ' σ' → QQ e σ') → AWp P C.l n C.B c QQ σ
 | 0, c, a, τ, σ, K, h, hG, hK, _ => by
  have := hK τ a σ h hG
  have e : rst 0 c = c := by cases c <;> rfl
  grind
 | m + 1, c, a, τ, σ, K, h, hG, hK, hE => by
  cases c with
  | seq x y =>
   refine ZiX (Zdk (ZbN hC hT hm x a τ σ _ h hG) fun e σ' hi => ?_)
   obtain ⟨τ', a', σ'', h1, h2, h3⟩ := hi
   cases e with
   | normal => exact AWp.weak (Zia hC hT hm hw m y a' τ' σ'' K h1 h2 hK hE) h3
   | _ => exact hw _ _ _ (hE _ _ _ _ (by intro e; cases e) h1 h2) h3
  | _ => exact h.elim
variable {β : Type} {Post : AV → List Blk → Prop} {rs : List ResultVar} {L : β → Prop} {y : β}
theorem ZO9 (co : CO C os) (hT : TOk P T) (hm : P.follows .mixedOrders = true) {c : Code} (v : PT os β) (h : v.m = some y) (hL : HL L y)
  (hn : ∀ r (g : Gd C r), v.n ⟨⟨C.l, r, fun _ _ => False, Post⟩, L, C, co, g, rfl⟩) (hq : ∀ l r Q Post, Zdu P T l n os r c v.a τ (KF T rs os Post) = v.q ⟨l, r, Q, Post⟩ := by intro l r Q P; kernel_rfl) : LW P n C c τ (FQ T rs os Post) :=
 ZC6 co.ok hT hm co.O v.a rs (fun r Post => v.q ⟨C.l, r, fun _ _ => False, Post⟩) (fun r Post => hq _ r _ Post) fun r h1 h2 h3 h4 => v.ok _ (hn r ⟨h1, h2, h3, h4⟩) y h hL
theorem ZO6 (co : CO C os) (hT : TOk P T) (hm : P.follows .mixedOrders = true) {c : Code} (v : PT os β) (lf lx : Lf) (hQ : ∀ τ, FQ T rs os Post .ret τ → Q .ret τ) (h : v.m = some y) (hL : HL L y)
  (hn : ∀ r (g : Gd C r), v.n ⟨⟨C.l, r, Q, Post⟩, L, C, co, g, rfl⟩) (hq : ∀ l r Q Post, Zdu P T l n os r c v.a τ (KB T rs os (Zgv os) r Post lf lx Q) = v.q ⟨l, r, Q, Post⟩ := by intro l r Q P; kernel_rfl) : LW P n C c τ Q :=
 ZE7 co.ok hT hm co.O co.F v.a lf lx rs (fun r Q Post => v.q ⟨C.l, r, Q, Post⟩) (hq _) hQ fun r h1 h2 h3 h4 => v.ok _ (hn r ⟨h1, h2, h3, h4⟩) y h hL
theorem ZLZ (co : CO C os) (hT : TOk P T) (hm : P.follows .mixedOrders = true) (m : Nat) (v : PT os β) (lf lx : Lf) (hQ : ∀ τ, FQ T rs os Post .ret τ → Q .ret τ) (hv : v.m = some y) (hL : HL L y)
  (hn : ∀ r (g : Gd C r), v.n ⟨⟨C.l, r, fun e τ' => match e with | .normal => LW P n C (pa (up m p) b) τ' Q | e => Q e τ', Post⟩, L, C, co, g, rfl⟩)
  (hq : ∀ l r Q Post, ZFs P T l n os r m (pa p b) v.a τ (KB T rs os (Zgv os) r Post lf lx Q) = v.q ⟨l, r, Q, Post⟩ := by intro l r Q P; kernel_rfl) (hl : lng m (pa p b) = true := by kernel_rfl) : LW P n C (pa p b) τ Q := by
 intro γ σ hg hG
 have h1 := v.ok _ (hn (C.r γ) ⟨rfl, rfl, rfl, rfl⟩) y hv hL
 rw [← hq] at h1
 generalize v.a = a at h1
 rw [← co.O, show Zgv C.outs = C.fx from by rw [co.O]; exact co.F.symm] at h1
 refine Zia co.ok hT hm (QQ := fun e σ => Is n C (Q e) σ) (fun e σ σ' hi hw => ?_) m _ _ _ _ _ h1 hG (fun τ' a' σ' hk hG' => ?_) (fun e τ' a' σ' hne hk hG' => ?_)
 ·obtain ⟨γ', τ₂, σ₂, k0, k1, k2, k3⟩ := hi
  exact ⟨γ', τ₂, σ₂, k0, k1, k2, hw.trans k3⟩
 ·simp only [KB] at hk
  obtain ⟨τ₁, a₁, σ₁, k1, k2, k3⟩ := Zar (n := n) co.ok a' hk hG'
  obtain ⟨γ', τ₂, σ₂, j0, j1, j2, j3⟩ := ZcM (n := n) co.ok k1 hg k2
  rw [ZyC m p hl]
  exact AWp.weak (j1 γ' σ₂ j0 j2) (k3.trans j3)
 ·cases e with
  | normal => exact absurd rfl hne
  | ret => exact .of hg hG' (hQ _ ⟨.inr rfl, a', by rw [← co.O]; exact hk⟩)
  | exit i =>
   simp only [KB] at hk
   obtain ⟨τ₁, a₁, σ₁, k1, k2, k3⟩ := Zar (n := n) co.ok a' hk hG'
   obtain ⟨γ', τ₂, σ₂, j0, j1, j2, j3⟩ := ZcM (n := n) co.ok k1 hg k2
   exact ⟨γ', τ₂, σ₂, j0, j1, j2, k3.trans j3⟩
  | _ => exact hk.elim
theorem ZDe {σ' : Type} (co : CO C os) (hT : TOk P T) (hm : P.follows .mixedOrders = true) (m : Nat) (v : PT os β) (lf lx : Lf) (hQ : ∀ τ, FQ T rs os Post .ret τ → Q .ret τ) (hv : v.m = some y) (hL : HL L y) (SJ : σ' → St) (MJ : σ' → Option β)
  (hJ : ∀ x y, MJ x = some y → HL L y → LW P n C (pa (up m p) b) (SJ x) Q)
  (hn : (∀ x y, MJ x = some y → HL L y → LW P n C (pa (up m p) b) (SJ x) Q) → ∀ r (g : Gd C r), v.n ⟨⟨C.l, r, fun e τ' => match e with | .normal => LW P n C (pa (up m p) b) τ' Q | e => Q e τ', Post⟩, L, C, co, g, rfl⟩)
  (hq : ∀ l r Q Post, ZFs P T l n os r m (pa p b) v.a τ (KB T rs os (Zgv os) r Post lf lx Q) = v.q ⟨l, r, Q, Post⟩ := by intro l r Q P; kernel_rfl) (hl : lng m (pa p b) = true := by kernel_rfl) : LW P n C (pa p b) τ Q :=
 ZLZ co hT hm m v lf lx hQ hv hL (hn hJ) hq hl
theorem bk (i : Nat) (h : LW P n C (pa (0 :: p) b) τ (fun e τ' => match e with | .exit j => (match Nat.beq j i with | true => Q .normal τ' | false => Q (.exit j) τ') | e => Q e τ')) (hs : ZNJ i (pa p b) = true := by kernel_rfl) : LW P n C (pa p b) τ Q := by
 unfold pa at h
 generalize pa p b = c at *
 cases c with
 | block j x => exact ZsG i x (by rw [show j = i from Yb hs]) h
 | _ => cases hs
theorem cd (x : Bool) {m1 m2 : Option β} (hm : (if x = true then m1 else m2) = some y) (h1 : m1 = some y → LW P n C (pa (0 :: p) b) τ Q) (h2 : m2 = some y → LW P n C (pa (1 :: p) b) τ Q) (hs : ZK3 (pa p b) = true := by kernel_rfl) (he : ev τ.s (ZzS (pa p b)) = .d (.bool x) := by kernel_rfl) : LW P n C (pa p b) τ Q := by
 unfold pa at h1 h2
 generalize pa p b = c at *
 cases c with
 | cond o u v => exact ZEt he (fun e => h1 (by rw [if_pos e] at hm; exact hm)) (fun e => h2 (by rw [if_neg (by rw [e]; decide)] at hm; exact hm))
 | _ => cases hs
theorem lo (h : LL P n C (pa (0 :: p) b) τ Q) (hs : ZNo (pa p b) = true := by kernel_rfl) : LW P n C (pa p b) τ Q := by
 unfold pa at h
 generalize pa p b = c at *
 cases c with
 | loop x => exact ZE1 h
 | _ => cases hs
theorem Zf4 (v : PT os β) (co : CO C os) (hv : v.m = some y) (hL : HL L y) (hn : ∀ r (g : Gd C r), v.n ⟨⟨C.l, r, fun _ _ => False, Post⟩, L, C, co, g, rfl⟩) (r : Ren) (hr : Gd C r)
  (hq : ∀ l r Q Post, ZIG T rs os τ v.a Post = v.q ⟨l, r, Q, Post⟩ := by intro l r Q P; kernel_rfl) : FQ T rs os Post .normal τ :=
 ⟨.inl rfl, v.a, by rw [hq C.l r (fun _ _ => False) Post]; exact v.ok _ (hn r hr) y hv hL⟩
end
section
variable {σ ξ ρ : Type}
def Zaa (B : σ → Option (Lv σ ξ ρ)) : Nat → σ → Option (ξ ⊕ ρ)
 | 0, _ => none
 | n + 1, v => match B v with
  | some (.nx v') => Zaa B n v'
  | some (.ex b) => some (.inl b)
  | some (.rt y) => some (.inr y)
  | none => none
def big : Nat := 4611686018427387904
def LvL (S : σ → St) (X : ξ → Nat × St) (er : ρ → AV) (bs : ρ → List Blk) (Q : Exit → St → Prop) (Post : AV → List Blk → Prop) : Lv σ ξ ρ → Prop
 | .nx v => Q .normal (S v)
 | .ex b => Q (.exit (X b).1) (X b).2
 | .rt y => Post (er y) (bs y)
variable {P : Program} {T : Nat → Option TI} {n : Nat} {C : Cx} {τ : St} {Q : Exit → St → Prop} {rs : List ResultVar} {os : Nat} {c : Code} {Post : AV → List Blk → Prop}
variable {S : σ → St} {X : ξ → Nat × St} {er : ρ → AV} {bs : ρ → List Blk} {B : σ → Option (Lv σ ξ ρ)}
def KL (P : Program) (T : Nat → Option TI) (n : Nat) (C : Cx) (c : Code) (rs : List ResultVar) (os : Nat) (S : σ → St) (X : ξ → Nat × St) (er : ρ → AV) (bs : ρ → List Blk) (B : σ → Option (Lv σ ξ ρ)) : Prop :=
 ∀ v o, B v = some o → ∀ (Q : Exit → St → Prop) (Post : AV → List Blk → Prop), (∀ τ, FQ T rs os Post .ret τ → Q .ret τ) → HL (LvL S X er bs Q Post) o → LW P n C c (S v) Q
theorem ZhY (hb : KL P T n C c rs os S X er bs B) (hQ : ∀ τ, FQ T rs os Post .ret τ → Q .ret τ) : ∀ (k : Nat) (v : σ) (o : ξ ⊕ ρ), Zaa B k v = some o →
  (∀ b, o = .inl b → Q (.exit (X b).1) (X b).2) → (∀ y, o = .inr y → Post (er y) (bs y)) → LL P n C c (S v) Q
 | 0, v, o, h, _, _ => by cases h
 | k + 1, v, o, h, h1, h2 => by
  rw [Zaa] at h
  refine ZwC ?_
  cases hv : B v with
  | none => rw [hv] at h; cases h
  | some w =>
   rw [hv] at h
   refine hb v w hv _ Post (fun τ hτ => hQ τ hτ) ?_
   cases w with
   | nx v' => exact ZhY hb hQ k v' o h h1 h2
   | ex b => cases h; exact h1 b rfl
   | rt y => cases h; exact h2 y rfl
theorem lpB {β : Type} {k : ξ ⊕ ρ → Option β} {N : Nat} {v : σ} {y : β} (hb : KL P T n C c rs os S X er bs B) (hQ : ∀ τ, FQ T rs os Post .ret τ → Q .ret τ) (hm : (Zaa B N v).bind k = some y)
  (h1 : ∀ b, k (.inl b) = some y → Q (.exit (X b).1) (X b).2) (h2 : ∀ z, k (.inr z) = some y → Post (er z) (bs z)) : LL P n C c (S v) Q := by
 obtain ⟨o, e1, e2⟩ := bind_some hm
 exact ZhY hb hQ N v o e1 (fun b e => h1 b (e ▸ e2)) (fun z e => h2 z (e ▸ e2))
theorem lpF {g : ξ → Option ρ} {N : Nat} {v : σ} {y : ρ} (hb : KL P T n C c rs os S X er bs B) (hQ : ∀ τ, FQ T rs os Post .ret τ → Q .ret τ) (hm : (Zaa B N v).bind (Sum.elim g some) = some y) (hL : HL (fun y => Post (er y) (bs y)) y)
  (h1 : ∀ b, g b = some y → Q (.exit (X b).1) (X b).2) (hs : S v = τ := by kernel_rfl) : LL P n C c τ Q :=
 hs ▸ lpB hb hQ hm h1 fun z hz => by cases hz; exact hL
theorem lpL {σ' ξ' : Type} {S' : σ' → St} {X' : ξ' → Nat × St} {Q' : Exit → St → Prop} {g : ξ → Option (Lv σ' ξ' ρ)} {N : Nat} {v : σ} {y : Lv σ' ξ' ρ} (hb : KL P T n C c rs os S X er bs B) (hQ : ∀ τ, FQ T rs os Post .ret τ → Q .ret τ) (hm : (Zaa B N v).bind (Sum.elim g fun z => some (.rt z)) = some y) (hL : HL (LvL S' X' er bs Q' Post) y)
  (h1 : ∀ b, g b = some y → Q (.exit (X b).1) (X b).2) (hs : S v = τ := by kernel_rfl) : LL P n C c τ Q :=
 hs ▸ lpB hb hQ hm h1 fun z hz => by cases hz; exact hL
end
theorem kc1 {P : Program} {T : Nat → Option TI} {n : Nat} {f : FuncId} {fn : Func} {xs : List AV} {γ : Type} {M : Option γ} {e : γ → AV} (hf : P.funcs[f]? = some fn) (hn : fn.ntmps = n) (hT : TOk P T) (rs : List ResultVar)
  (h : ∀ C : Cx, CO C 0 → ∀ y, M = some y → ∀ Post : AV → List Blk → Prop, HL (fun y => Post (e y) []) y → LW P n C (pa [] (Zac fn)) (mkS (ZmF 0 xs) []) (FQ T rs 0 Post))
  (hx : ∀ r, Zao r xs = xs := by intro r; kernel_rfl) (he : ∀ r y, ren r (e y) = e y := by intro r y; kernel_rfl)
  (hb : fn.body = some (Zac fn) := by kernel_rfl) (hname : (fn.name == "runtime.NumGoroutine") = false := by kernel_rfl) (hr : fn.results.toList = rs := by kernel_rfl) (hl : Nat.ble xs.length n = true := by kernel_rfl) : KC P f xs M e :=
 ⟨fun l H y hm => ZpU rs (Zac fn) (fun _ => .top) xs hf hb hname hn hr (Yh hl) hT (hx _) fun B => h _ ⟨Zks l B _ H, rfl, rfl, fun _ h => absurd h (YQ _)⟩ y hm (fun z _ => z = e y ∧ H = H) ⟨rfl, rfl⟩, hx, he⟩
end Go.Eng
