import Derived.Test.YthhipejbnbochaaCs10
import Derived.Shelf.Spec.SlicesGrow
import Derived.Test.YthhipejbnbochaaCs00
namespace Go.Eng
set_option linter.all false
open Go Go.RowKit
def cAt : List Nat → Code → Code
 | [], c => c
 | 0 :: p, .seq a _ => cAt p a
 | _ :: p, .seq _ b => cAt p b
 | 0 :: p, .cond _ a _ => cAt p a
 | _ :: p, .cond _ _ b => cAt p b
 | _ :: p, .block _ c => cAt p c
 | _ :: p, .loop c => cAt p c
 | _ :: p, .scope c => cAt p c
 | _, c => c
def Zad (f : Func) : Code := f.body.getD .skip
def Zai {α : Type} (e : α → List D) (xs : List α) : List AV := ((xs.map e).flatten).map .d
theorem Zak {α : Type} (e : α → List D) (xs : List α) : ZeH (Zai e xs) := fun x hx => by
 obtain ⟨d, _, rfl⟩ := Yr.1 hx; rfl
theorem ZbH {α : Type} {e : α → List D} {sz : Nat} (he : ∀ x, (e x).length = sz) (xs : List α) : (Zai e xs).length = xs.length * sz := by
 unfold Zai
 induction xs with
 | nil => simp
 | cons x xs ih => simp only [Yn, YT, Yav, List.length_append, he, Y5, YE] at ih ⊢; omega
theorem Zer {α : Type} (e : α → List D) (xs ys : List α) : Zai e (xs ++ ys) = Zai e xs ++ Zai e ys := by simp [Zai]
section
variable {P : Program} {n : Nat} {C : Cx} {τ : St} {Q : Exit → St → Prop}
theorem Zms {c : Code} (id : Nat) (x : Code) (hc : c = .block id x) (h : LW P n C x τ (fun e τ' => match e with | .exit i => (match Nat.beq i id with | true => Q .normal τ' | false => Q (.exit i) τ') | e => Q e τ')) : LW P n C c τ Q := hc ▸ ZpI (h.mono fun e τ' hq => by
 cases e with
 | exit i =>
  simp only at hq ⊢
  split at hq
  ·rename_i he; rw [if_pos (Ya he)]; exact hq
  ·rename_i he; rw [if_neg (by rintro rfl; simp at he)]; exact hq
 | _ => exact hq)
end
theorem ZfB {P : Program} {T : Nat → Option TI} {n : Nat} {f : FuncId} {fn : Func} (rs : List ResultVar) (c : Code) {l : Nat} {xs : List AV} {H : Hp} {Post : AV → Hp → Prop} (θ : Nat → AV) (ys : List AV)
  (hf : P.funcs[f]? = some fn) (hb : fn.body = some c) (hname : (fn.name == "runtime.NumGoroutine") = false) (hn : fn.ntmps = n) (hr : fn.results.toList = rs) (hx : xs.length ≤ n) (hT : TOk P T)
  (hxs : Zan ⟨fun k => (l + 1, k.2), fun _ => 0, θ, H, fun _ => False⟩ ys = xs) (h : ∀ B : Base, LW P n (cxP l θ H B) c (mkS (Zib 0 ys) []) (FQ T rs 0 (fun y _ => Post y H))) : Za3 P f l xs H Post :=
 Zi2 rs (cxP l θ H) (γ := fun _ => 0) (LPost := fun y _ => Post y H) hf hb hname hn hr hx hT (fun B => Zfc l B θ H) (fun B => ⟨rfl, rfl, rfl, trivial⟩) (fun B => hxs) (fun _ => rfl) (fun _ => rfl) (fun B k hk => by simp [lkH, ZkV] at hk) (fun B i hi => absurd hi (Yas _))
  (fun B γ y bs H' _ hp ho hy => by rw [hy rfl, ZoO ho]; exact hp) h
theorem ZrH {α : Type} (e : α → List D) (xs : List α) : EqI ((xs.map e).length : Nat) xs.length := by simp [EqI]
theorem Zm0 {α : Type} {e e' : α → List D} {xs : List α} {i : Nat} {x : α} (hx : xs[i]? = some x) (he : ∀ x, e x = e' x) : Zs3 (xs.map e) (i : Nat) (e' x) := ⟨by omega, by simp [hx, he]⟩
theorem Zts {α : Type} {e e' : α → List D} {xs : List α} {i : Nat} {z : α} (hi : i < xs.length) (he : ∀ x, e x = e' x) : Zs3 (xs.map e) (i : Nat) (e' (xs.getD i z)) := by
 refine Zm0 ?_ he
 grind
theorem ZqZ {a r : Int} (h : a = r) (h1 : -9223372036854775808 ≤ r) (h2 : r < 9223372036854775808) : Zb3 .i64 a r := by
 subst h; exact IntWalk.i64_in _ ⟨h1, by omega⟩
theorem Zx8 {i len sz : Nat} (h : i < len) : Zuq (i : Nat) len 0 sz (i * sz) := ⟨by omega, by omega, by simp⟩
theorem Zp1 {sz : Nat} {e : List D} (C : List AV) (he : e.length = sz) : Zh9 sz C (.d (.list [e])) 1 (e.map .d) := by
 refine ⟨Yj.2 fun x hx => ?_, fun q hq => ?_, rfl, by simp⟩
 ·obtain ⟨d, _, rfl⟩ := Yr.1 hx; rfl
 grind
theorem Zhr {α : Type} {sz : Nat} {e : α → List D} (C : List AV) (xs : List α) (he : ∀ x, (e x).length = sz) : Zh9 sz C (.d (.list (xs.map e))) xs.length (Zai e xs) := by
 refine ⟨Yj.2 fun x hx => ?_, fun q hq => ?_, by simp, rfl⟩
 ·obtain ⟨d, _, rfl⟩ := Yr.1 hx; rfl
 grind
theorem Zqb {α : Type} {sz : Nat} {e : α → List D} (k : Key) (g : Nat) (xs : List α) (he : ∀ x, (e x).length = sz) : Zh9 sz (Zai e xs) (.ref k g 0 xs.length) xs.length (Zai e xs) := by
 refine ⟨Yj.2 fun x hx => ?_, rfl, by rw [ZbH he]; simp, by rw [Yae, YaG, ← ZbH he xs, Ya0]⟩
 obtain ⟨d, _, rfl⟩ := Yr.1 hx; rfl
theorem Zow {α : Type} {sz byt : Nat} {e : α → List D} (xs ys : List α) {n' : Nat} (he : ∀ x, (e x).length = sz) (hn : xs.length + ys.length = n') (hb : n' * byt ≤ 140737488355328) :
  Zsv (Zai e xs) 0 xs.length ys.length sz byt (Zai e ys) (Zai e (xs ++ ys)) n' :=
 ⟨by rw [ZbH he, Yy], by rw [Yae, YaG, Zer], hn, hb⟩
theorem Zp8 {α : Type} (e : α → List D) (x : α) : Zai e [x] = (e x).map .d := by simp [Zai]
theorem ZnJ {α : Type} {sz : Nat} {e : α → List D} (xs : List α) (hz : sz ≠ 0) (he : ∀ x, (e x).length = sz) : FzR (Zai e xs) 0 xs.length sz (xs.map e) :=
 ⟨by simp, hz, fun q hq => by obtain ⟨x, _, rfl⟩ := Yr.1 hq; exact he x, by rw [ZbH he]; simp, by rw [Yae, YaG, ← ZbH he xs, Ya0]; rfl⟩
theorem ZpJ {α : Type} {e e' : α → List D} {xs : List α} {i : Int} {z : α} (h0 : 0 ≤ i) (hi : i < xs.length) (he : ∀ x, e x = e' x) : Zs3 (xs.map e) i (e' (xs.getD i.toNat z)) := by
 have h := Zts (e := e) (e' := e') (xs := xs) (i := i.toNat) (z := z) (by omega) he
 grind
theorem ZeL {α : Type} {sz byt c : Nat} {e : α → List D} {news : List AV} (xs ys : List α) (he : ∀ x, (e x).length = sz) (hc : ys.length = c) (hn : news = Zai e ys) (hb : (xs.length + ys.length) * byt ≤ 140737488355328) :
  Zsv (Zai e xs) 0 xs.length c sz byt news (Zai e (xs ++ ys)) (xs ++ ys).length := by
 subst hc; subst hn
 exact Zow xs ys he (by rw [List.length_append]) (by rw [List.length_append]; exact hb)
section
variable {P : Program} {l : Nat} {r : Ren} {f : FuncId} {xs xs' : List AV} {hb : List (Key × Blk)} {x x' : AV}
def Zol (P : Program) (l : Nat) (no : Key → Prop) (H : Hp) (c : AV) (aZ : List AV) (y : AV) : Prop :=
 ∃ f first caps, c = .fn (.func f) first caps ∧ ∀ l' H', l ≤ l' → (∀ k : Key, k.1 ≤ l → ¬ no k → H' k = H k) → Za3 P f l' (first ++ aZ ++ caps) H' (fun y' H'' => y' = y ∧ H'' = H')
theorem Zpm {i : Nat} {c : AV} (hθ : r.θ i = c) (h : Zol P l r.no r.H0 c xs' x') (h1 : Zan r xs = xs') (h2 : ren r x = x') : Zl7 P l r i xs hb x := by
 obtain ⟨f, first, caps, rfl, h⟩ := h
 exact ⟨f, first, caps, hθ, fun H' _ ho => by rw [h1, h2]; exact h (l + 1) H' (Nat.le_succ l) ho⟩
end
section
variable {P : Program} {T : Nat → Option TI} {n : Nat} {C : Cx} {τ : St} {Q : Exit → St → Prop}
theorem Zsf (hC : CxOk C) (hT : TOk P T) (hm : P.follows .mixedOrders = true) {os : Nat} {fx : List Nat} (hO : C.outs = os) (hF : C.fx = fx) {c : Code} (a : AT) (lf lx : Lf) (rs : List ResultVar) {Post : AV → List Blk → Prop} (q : Ren → (Exit → St → Prop) → (AV → List Blk → Prop) → Prop)
  (hq : ∀ r Q Post, ZcB P T C.l n os r c a τ (KB T rs os fx r Post lf lx Q) = q r Q Post) (hQ : ∀ τ, FQ T rs os Post .ret τ → Q .ret τ) (h : ∀ r, r.θ = C.θ → r.H0 = C.H0 → r.κ = C.κ → r.no = C.no → q r Q Post) : LW P n C c τ Q :=
 ZuS hC hT hm a lf lx (by rw [hO]; exact hQ) (fun γ => by rw [hO, hF, hq]; exact h _ rfl rfl rfl rfl)
theorem Zs4 (hC : CxOk C) (hT : TOk P T) (hm : P.follows .mixedOrders = true) {os : Nat} (hO : C.outs = os) {c : Code} (a : AT) (rs : List ResultVar) {Post : AV → List Blk → Prop} (q : Ren → (AV → List Blk → Prop) → Prop)
  (hq : ∀ r Post, ZcB P T C.l n os r c a τ (KF T rs os Post) = q r Post) (h : ∀ r, r.θ = C.θ → r.H0 = C.H0 → r.κ = C.κ → r.no = C.no → q r Post) : LW P n C c τ (FQ T rs os Post) := by
 subst hO
 exact Zwo hC hT hm a (fun γ => by rw [hq]; exact h _ rfl rfl rfl rfl)
mutual
theorem ZoE {H : Hp} : ∀ (x : AV) {a : AT} {K K' : AV → AT → Prop}, (∀ y a, K y a → K' y a) → frz H x a K → frz H x a K'
 | .d x, a, K, K', hk, h => hk _ _ h
 | .e0, a, K, K', hk, h => hk _ _ h
 | .agg xs, a, K, K', hk, h => ZhA xs (fun ys a h => hk _ _ h) h
 | .ref k g off m, a, K, K', hk, h => by
  unfold frz at h ⊢
  grind
 | .top, a, K, K', hk, h => by simp only [frz] at h
 | .p _, a, K, K', hk, h => by simp only [frz] at h
 | .ptr _ _ _, a, K, K', hk, h => by simp only [frz] at h
 | .mp k g, a, K, K', hk, h => by
  unfold frz at h ⊢
  grind
 | .iptr _ _, a, K, K', hk, h => by simp only [frz] at h
 | .fn _ _ _, a, K, K', hk, h => by simp only [frz] at h
 | .tup _, a, K, K', hk, h => by simp only [frz] at h
theorem ZhA {H : Hp} : ∀ (xs : List AV) {a : AT} {K K' : List AV → AT → Prop}, (∀ y a, K y a → K' y a) → ZqQ H xs a K → ZqQ H xs a K'
 | [], a, K, K', hk, h => hk _ _ h
 | x :: xs, a, K, K', hk, h => by
  simp only [ZqQ] at h ⊢
  exact ZoE x (fun y a h => ZhA xs (fun ys a h => hk _ _ h) h) h
end
end
end Go.Eng
namespace Go.Eng
set_option linter.all false
open Go Go.RowKit
theorem Zbp {α : Type} (e : α → List D) (x : α) (xs : List α) : Zai e (x :: xs) = (e x).map .d ++ Zai e xs := by simp [Zai]
theorem ZdD {α : Type} {e : α → List D} {sz : Nat} (hl : ∀ x, (e x).length = sz) : ∀ (xs : List α) (j : Nat), (Zai e xs).drop (j * sz) = Zai e (xs.drop j)
 | [], j => by simp [Zai]
 | x :: xs, 0 => by simp
 | x :: xs, j + 1 => by
  have h1 : ((e x).map AV.d).length = sz := by rw [Yn, hl]
  rw [Zbp, YE, YaT, Ybt, ← List.drop_drop, List.drop_left' h1, ZdD hl xs j]
  rfl
theorem Zhz {α : Type} {e : α → List D} {sz : Nat} (hl : ∀ x, (e x).length = sz) : ∀ (xs : List α) (j : Nat), (Zai e xs).take (j * sz) = Zai e (xs.take j)
 | [], j => by simp [Zai]
 | x :: xs, 0 => by simp [Zai]
 | x :: xs, j + 1 => by
  have h1 : ((e x).map AV.d).length = sz := by rw [Yn, hl]
  rw [Zbp, List.take_succ_cons, Zbp, YE, YaT, Ybt, List.take_append, h1, Nat.add_sub_cancel_left, Zhz hl xs j, Yab (by omega)]
theorem ZsN {α : Type} {xs : List α} {j : Nat} {z : α} (hj : j < xs.length) : xs.drop j = xs.getD j z :: xs.drop (j + 1) := by
 rw [Y6 hj, Yw, Yd hj]; rfl
theorem Zii {α : Type} {e e' : α → List D} {xs : List α} {j sz : Nat} {z : α} (hj : j < xs.length) (hl : ∀ x, (e x).length = sz) (he : ∀ x, e x = e' x) : Zcl (Zai e xs) (j * sz) ((e' (xs.getD j z)).map .d) := by
 unfold Zcl
 rw [ZdD hl, ZsN (z := z) hj, Zbp, he, List.take_left]
theorem Ztf {α : Type} {e : α → List D} {xs : List α} {j sz : Nat} {y : α} (hj : j < xs.length) (hl : ∀ x, (e x).length = sz) : StS (Zai e xs) (j * sz) ((e y).map .d) (Zai e (xs.set j y)) := by
 have h1 : ((e y).map AV.d).length = sz := by rw [Yn, hl]
 have h2 : (j + 1) * sz ≤ xs.length * sz := YM _ hj
 rw [YE, YaT] at h2
 refine ⟨by rw [h1, ZbH hl]; omega, ?_⟩
 rw [h1, Zhz hl, show j * sz + sz = (j + 1) * sz from by rw [YE, YaT], ZdD hl, YaV, if_pos hj, Zer, Zbp, YS]
def Zco (r : Ren) : List (Key × Blk) → Hp → Hp
 | [], H => H
 | (k, b) :: rest, H => Zco r rest (updH H (r.κ k) (ZaN r k b))
def ZhL (P : Program) (l : Nat) (r : Ren) (f : FuncId) (xs : List AV) (hb : List (Key × Blk)) (x : AV) (hb2 : List (Key × Blk)) (fr : List Key) : Prop :=
 ∀ H', (∀ p ∈ hb, (H' (r.κ p.1)).g = r.γ p.1 + p.2.g ∧ (p.2.live = true → H' (r.κ p.1) = ZaN r p.1 p.2)) → (∀ k : Key, k.1 ≤ l → ¬ r.no k → H' k = r.H0 k) →
  Za3 P f (l + 1) (Zan r xs) H' (fun y H'' => ∃ γ' : Key → Nat, (∀ k, k ∉ fr → γ' k = r.γ k) ∧ y = ren ⟨r.κ, γ', r.θ, r.H0, r.no⟩ x ∧ H'' = Zco ⟨r.κ, γ', r.θ, r.H0, r.no⟩ hb2 H')
mutual
def Zdk (fr : List Key) : AV → Bool
 | .ref k _ _ _ => fr.any (Zdi k)
 | .ptr k _ _ => fr.any (Zdi k)
 | .mp k _ => fr.any (Zdi k)
 | .fn _ xs ys => ZcG fr xs || ZcG fr ys
 | .agg xs => ZcG fr xs
 | .tup xs => ZcG fr xs
 | .top => false
 | .d _ => false
 | .e0 => false
 | .p _ => false
 | .iptr _ _ => false
def ZcG (fr : List Key) : List AV → Bool
 | [] => false
 | x :: xs => Zdk fr x || ZcG fr xs
end
def Zdu (fr : List Key) : List (Nat × AV) → List (Nat × AV)
 | [] => []
 | (j, x) :: r => (j, match Zdk fr x with | true => .top | false => x) :: Zdu fr r
def Zcr (ks fr fl : List Key) : List (Key × Blk) → List (Key × Blk)
 | [] => []
 | (k, b) :: r => match ks.any (Zdi k), fl.any (Zdi k) || !ZcG fr b.cells with
  | false, true => (k, b) :: Zcr ks fr fl r
  | _, _ => Zcr (k :: ks) fr fl r
def Zoo : Option Nat → AV → List (Nat × AV) → List (Nat × AV)
 | some d, x, r => (d, x) :: r
 | none, _, r => r
def okK (os : Nat) (k : Key) : Bool := Nat.beq k.1 1 || (Nat.beq k.1 0 && Nat.ble (k.2 + 1) os)
def Zg1 (os : Nat) : List (Key × Blk) → Bool
 | [] => true
 | (k, b) :: r => okK os k && b.live && !(r.any fun p => Zdi k p.1) && Zg1 os r
mutual
theorem ZfX {r : Ren} {γ' : Key → Nat} {fr : List Key} (hγ : ∀ k, k ∉ fr → γ' k = r.γ k) : ∀ (x : AV), Zdk fr x = false → ren ⟨r.κ, γ', r.θ, r.H0, r.no⟩ x = ren r x
 | .ref k g off n, h => by simp only [Zdk] at h; simp only [ren]; rw [hγ k (Zgb h)]
 | .ptr k g off, h => by simp only [Zdk] at h; simp only [ren]; rw [hγ k (Zgb h)]
 | .mp k g, h => by simp only [Zdk] at h; simp only [ren]; rw [hγ k (Zgb h)]
 | .fn f xs ys, h => by
  simp only [Zdk, Ya9] at h
  have e1 := ZbB hγ xs h.1
  have e2 := ZbB hγ ys h.2
  cases f <;> simp only [ren, e1, e2]
 | .agg xs, h => by simp only [Zdk] at h; simp only [ren, ZbB hγ xs h]
 | .tup xs, h => by simp only [Zdk] at h; simp only [ren, ZbB hγ xs h]
 | .top, _ => by simp [ren]
 | .d _, _ => by simp [ren]
 | .e0, _ => by simp [ren]
 | .p _, _ => by simp [ren]
 | .iptr _ _, _ => by simp [ren]
theorem ZbB {r : Ren} {γ' : Key → Nat} {fr : List Key} (hγ : ∀ k, k ∉ fr → γ' k = r.γ k) : ∀ (xs : List AV), ZcG fr xs = false → Zan ⟨r.κ, γ', r.θ, r.H0, r.no⟩ xs = Zan r xs
 | [], _ => by simp [Zan]
 | x :: xs, h => by
  simp only [ZcG, Ya9] at h
  simp only [Zan, ZfX hγ x h.1, ZbB hγ xs h.2]
theorem Zgb {k : Key} {fr : List Key} (h : fr.any (Zdi k) = false) : k ∉ fr := fun hm => by
 have : fr.any (Zdi k) = true := YL.2 ⟨k, hm, ZaQ.2 rfl⟩
 grind
end
def Zb4 : Code → Array Oper
 | .region _ ops _ => ops
 | _ => #[]
def ZuB : Code → Bool
 | .region _ _ false => true
 | _ => false
def Zg2 {α : Type} : Nat → List α → List α
 | 0, l => l
 | _ + 1, [] => []
 | n + 1, _ :: l => Zg2 n l
def Zkj {α : Type} : Nat → List α → List α
 | 0, _ => []
 | _ + 1, [] => []
 | n + 1, x :: l => x :: Zkj n l
theorem Zgw {α : Type} : ∀ (n : Nat) (l : List α), Zg2 n l = l.drop n
 | 0, l => rfl
 | n + 1, [] => rfl
 | n + 1, x :: l => Zgw n l
theorem Zjk {α : Type} : ∀ (n : Nat) (l : List α), Zkj n l = l.take n
 | 0, l => rfl
 | n + 1, [] => rfl
 | n + 1, x :: l => by rw [Zkj, Zjk n l]; rfl
def LO (P : Program) (n : Nat) (C : Cx) (c : Code) (k : Nat) (τ : St) (Q : Exit → St → Prop) : Prop :=
 ∀ γ σ act w, C.G γ → RG (C.r γ) C.l C.outs [] τ σ → R C.l n C.B σ act w → wpList P (Zb4 c) (fun e a' w' => ∃ σ', Is n C (Q e) σ' ∧ R C.l n C.B σ' a' w') ((Zb4 c).toList.drop k) act w
def Zdl (c : Code) (k : Nat) : Option (Option Nat × Operand × List Operand) :=
 match nth (Zb4 c).toList k with
 | some o => (match o.guard, o.op with
  | none, .call cl => (match cl.callee with | .value f => some (o.dst, f, cl.args.toList) | _ => none)
  | _, _ => none)
 | none => none
def wrL (C : Cx) : List (Key × Blk) → Prop
 | [] => True
 | (k, _) :: r => match Nat.beq k.1 1 with | true => wrL C r | false => C.no (C.κ k) ∧ wrL C r
def flL (H : Hp) : List Key → Prop
 | [] => True
 | k :: r => ZeH (H k).cells ∧ flL H r
def Zus (fr : List Key) (hb2 : List (Key × Blk)) : Bool := fr.all fun k => hb2.any fun p => Zdi k p.1
def ZfT (fr : List Key) (fx : List Nat) : Bool := fr.all fun k => !(Nat.beq k.1 0 && fx.any (Nat.beq k.2))
def ZgF : List (Key × Blk) → Bool
 | [] => true
 | (_, b) :: r => Nat.beq b.g 0 && ZgF r
def Zy1 : Option Nat → (Nat → AV) → AV → Nat → AV
 | some d, s, v => upd s d v
 | none, s, _ => s
def Zkm (n : Nat) : Option Nat → Bool
 | some d => Nat.ble (d + 1) n
 | none => true
section
variable {P : Program} {T : Nat → Option TI} {n : Nat} {C : Cx} {τ : St} {Q : Exit → St → Prop}
theorem Zku {c : Code} (hc : ZuB c = true) (h : LO P n C c 0 τ Q) : LW P n C c τ Q := by
 cases c with
 | region id ops dr =>
  cases dr with
  | true => cases hc
  | false =>
   obtain ⟨opl, rfl⟩ : ∃ l : List Oper, ops = l.toArray := ⟨ops.toList, by simp⟩
   intro γ σ hg hG act w hR
   have := h γ σ act w hg hG hR
   simp only [Zb4, YaG] at this
   exact wp_region_lit this
 | _ => cases hc
theorem ZvC (hC : CxOk C) (hT : TOk P T) {os : Nat} {fx : List Nat} (hO : C.outs = os) (hF : C.fx = fx) {c : Code} {k : Nat} (m : Nat) (a : AT) (lf : Lf) (q : Ren → (St → Prop) → Prop)
  (hq : ∀ r Φ, ZcN r os a τ (fun τ a => Zon P T C.l n r ((Zb4 c).toList.map (·.dst)) (Zkj m (Zg2 k (Zb4 c).toList)) [] a (fun τ' env a' => ZcN r os a' (Zkv env τ') (fun τ _ => Zfy fx lf τ Φ)) τ) = q r Φ)
  (h : ∀ r, r.θ = C.θ → r.H0 = C.H0 → r.κ = C.κ → r.no = C.no → q r (fun τ' => LO P n C c (k + m) τ' Q)) : LO P n C c k τ Q := by
 subst hO
 subst hF
 intro γ σ act w hg hG hR
 have h1 := h (C.r γ) rfl rfl rfl rfl
 rw [← hq] at h1
 obtain ⟨τ₁, a₁, σ₁, h2, hG1, hw1⟩ := Zaq (n := n) hC a h1 hG
 have e : (Zb4 c).toList.drop k = Zkj m (Zg2 k (Zb4 c).toList) ++ (Zb4 c).toList.drop (k + m) := by
  rw [Zjk, Zgw, ← List.drop_drop, YbF]
 rw [e]
 refine Zcs (hC.ren γ) hT (B := C.B) _ (fun τ' env' a' σ' act' w' k1 k2 k3 => ?_) _ [] a₁ τ₁ σ₁ act w h2 hG1 (hw1 _ _ hR)
 obtain ⟨σ₂, g1, g2⟩ := Zdd (n := n) k2
 obtain ⟨τ₃, a₃, σ₃, f1, f2, f3⟩ := Zaq (n := n) hC a' k1 g1
 obtain ⟨γ', τ₄, σ₄, j0, j1, j2, j3⟩ := Zbu (n := n) hC f1 hg f2
 exact j1 γ' σ₄ act' w' j0 j2 (j3 _ _ (f3 _ _ (g2 _ _ k3)))
theorem Zxu (hC : CxOk C) (hT : TOk P T) {os : Nat} {fx : List Nat} (hO : C.outs = os) (hF : C.fx = fx) {c : Code} {k : Nat} (a : AT) (lf : Lf) (q : Ren → (Exit → St → Prop) → Prop)
  (hq : ∀ r Φ, ZcN r os a τ (fun τ a => Zon P T C.l n r ((Zb4 c).toList.map (·.dst)) (Zg2 k (Zb4 c).toList) [] a (fun τ' env a' => ZcN r os a' (Zkv env τ') (fun τ _ => Zfy fx lf τ (Φ .normal))) τ) = q r Φ)
  (h : ∀ r, r.θ = C.θ → r.H0 = C.H0 → r.κ = C.κ → r.no = C.no → q r Q) : LO P n C c k τ Q := by
 subst hO
 subst hF
 intro γ σ act w hg hG hR
 have h1 := h (C.r γ) rfl rfl rfl rfl
 rw [← hq] at h1
 obtain ⟨τ₁, a₁, σ₁, h2, hG1, hw1⟩ := Zaq (n := n) hC a h1 hG
 have e : (Zb4 c).toList.drop k = Zg2 k (Zb4 c).toList ++ [] := by rw [Zgw, YaL]
 rw [e]
 refine Zcs (hC.ren γ) hT (B := C.B) _ (fun τ' env' a' σ' act' w' k1 k2 k3 => ?_) _ [] a₁ τ₁ σ₁ act w h2 hG1 (hw1 _ _ hR)
 obtain ⟨σ₂, g1, g2⟩ := Zdd (n := n) k2
 obtain ⟨τ₃, a₃, σ₃, f1, f2, f3⟩ := Zaq (n := n) hC a' k1 g1
 obtain ⟨γ', τ₄, σ₄, j0, j1, j2, j3⟩ := Zbu (n := n) hC f1 hg f2
 unfold wpList
 exact ⟨σ₄, ⟨γ', τ₄, σ₄, j0, j1, j2, Wk.refl _⟩, j3 _ _ (f3 _ _ (g2 _ _ k3))⟩
theorem Zeq : ∀ {hs : List (Key × Blk)}, ZgF hs = true → ∀ k, (lkH hs k).g = 0
 | [], _, k => rfl
 | (k', b) :: r, h, k => by
  simp only [ZgF, Yc] at h
  simp only [lkH]
  split
  ·exact Ya h.1
  ·exact Zeq h.2 k
theorem ZjF {k : Key} {ks : List Key} : ks.any (Zdi k) = true ↔ k ∈ ks := by
 rw [YL]
 exact ⟨fun ⟨q, h1, h2⟩ => by rw [ZaQ.1 h2]; exact h1, fun h => ⟨k, h, ZaQ.2 rfl⟩⟩
theorem Zrl (a b : List (Key × Blk)) (k : Key) : lkH (a ++ b) k = if k ∈ a.map (·.1) then lkH a k else lkH b k := by
 induction a with
 | nil => simp
 | cons p a ih =>
  obtain ⟨q, b'⟩ := p
  simp only [YaY, lkH, YT, Yo]
  cases hq : Zdi q k with
  | true => rw [if_pos (.inl (ZaQ.1 hq).symm)]
  | false =>
   have : k ≠ q := fun e => by rw [ZaQ.2 e.symm] at hq; cases hq
   grind
theorem Zcp {fr fl : List Key} : ∀ (hs : List (Key × Blk)) (ks : List Key) (k : Key), (k ∈ ks → lkH (Zcr ks fr fl hs) k = ZkV) ∧ (k ∉ ks → (lkH (Zcr ks fr fl hs) k = lkH hs k ∧ (k ∈ fl ∨ ZcG fr (lkH hs k).cells = false)) ∨ lkH (Zcr ks fr fl hs) k = ZkV)
 | [], ks, k => ⟨fun _ => rfl, fun _ => .inr rfl⟩
 | (q, b) :: r, ks, k => by
  simp only [Zcr]
  split
  ·rename_i h1 h2
   have hqk : q ∉ ks := fun hm => by rw [ZjF.2 hm] at h1; cases h1
   simp only [lkH]
   cases hq : Zdi q k with
   | true =>
    have hq := ZaQ.1 hq
    subst hq
    refine ⟨fun h => absurd h hqk, fun _ => .inl ⟨rfl, ?_⟩⟩
    simp only [Yz, YQ] at h2
    rcases h2 with h2 | h2
    ·exact .inl (ZjF.1 h2)
    grind
   | false => exact Zcp r ks k
  ·obtain ⟨h1, h2⟩ := Zcp (fr := fr) (fl := fl) r (q :: ks) k
   refine ⟨fun h => h1 (List.mem_cons_of_mem _ h), fun h => ?_⟩
   by_cases hq : k = q
   ·grind
   ·rcases h2 (fun hm => (Yo.1 hm).elim hq h) with ⟨e1, e2⟩ | e
    ·have : Zdi q k = false := by
      cases hb : Zdi q k with
      | true => exact absurd (ZaQ.1 hb).symm hq
      | false => rfl
     simp only [lkH, this]
     grind
    grind
theorem ZcA {r : Ren} : ∀ (hb2 : List (Key × Blk)) (H : Hp) (q : Key), (∀ p ∈ hb2, r.κ p.1 ≠ q) → Zco r hb2 H q = H q
 | [], H, q, h => rfl
 | (k, b) :: rest, H, q, h => by
  simp only [Zco]
  rw [ZcA rest _ q (fun p hp => h p (List.mem_cons_of_mem _ hp)), Zab _ _ (fun e => h (k, b) (Yu ..) e.symm)]
theorem ZjJ {r : Ren} {os : Nat} (hinj : ∀ q k : Key, okK os q = true → okK os k = true → q ≠ k → r.κ q ≠ r.κ k) : ∀ (hb2 : List (Key × Blk)) (H : Hp), Zg1 os hb2 = true → ∀ k b, (k, b) ∈ hb2 → Zco r hb2 H (r.κ k) = ZaN r k b ∧ lkH hb2 k = b ∧ okK os k = true ∧ b.live = true
 | [], H, _, k, b, hm => by cases hm
 | (q, c) :: rest, H, hok, k, b, hm => by
  simp only [Zg1, Yc, YQ] at hok
  obtain ⟨⟨⟨h1, h2⟩, h3⟩, h4⟩ := hok
  have hno : ∀ p ∈ rest, p.1 ≠ q := fun p hp e => by
   have : (rest.any fun p => Zdi q p.1) = true := YL.2 ⟨p, hp, ZaQ.2 e.symm⟩
   rw [this] at h3; cases h3
  have hoks : ∀ (l : List (Key × Blk)), Zg1 os l = true → ∀ p ∈ l, okK os p.1 = true := by
   intro l
   induction l with
   | nil => intro _ p hp; cases hp
   | cons p l ih =>
    obtain ⟨p1, p2⟩ := p
    intro hl p hp
    simp only [Zg1, Yc] at hl
    rcases Yo.1 hp with rfl | hp
    ·exact hl.1.1.1
    ·exact ih hl.2 p hp
  simp only [Zco]
  rcases Yo.1 hm with e | hm
  ·cases e
   refine ⟨?_, by simp only [lkH, ZaQ.2 rfl], h1, h2⟩
   rw [ZcA rest _ _ (fun p hp => hinj _ _ (hoks rest h4 p hp) h1 (hno p hp)), Zaa]
  ·obtain ⟨g1, g2, g3, g4⟩ := ZjJ hinj rest (updH H (r.κ q) (ZaN r q c)) h4 k b hm
   refine ⟨g1, ?_, g3, g4⟩
   have : Zdi q k = false := by
    cases hb : Zdi q k with
    | true => exact absurd (ZaQ.1 hb).symm (hno _ hm)
    | false => rfl
   simp only [lkH, this]
   exact g2
theorem Zk7 : ∀ {hb2 : List (Key × Blk)}, wrL C hb2 → ∀ p ∈ hb2, p.1.1 ≠ 1 → C.no (C.κ p.1)
 | (k, b) :: r, h, p, hp, hne => by
  simp only [wrL] at h
  split at h
  ·rename_i hk
   rcases Yo.1 hp with rfl | hp
   ·exact absurd (Ya hk) hne
   ·exact Zk7 h p hp hne
  ·rcases Yo.1 hp with rfl | hp
   ·exact h.1
   ·exact Zk7 h.2 p hp hne
theorem ZlV {H : Hp} : ∀ {ks : List Key}, flL H ks → ∀ k ∈ ks, ZeH (H k).cells
 | q :: r, h, k, hk => by
  rcases Yo.1 hk with rfl | hk
  ·exact h.1
  ·exact ZlV h.2 k hk
theorem ZcY {os : Nat} {k : Key} (h : okK os k = true) : k.1 = 1 ∨ (k.1 = 0 ∧ k.2 < os) := by
 simp only [okK, Yz, Yc] at h
 rcases h with h | ⟨h1, h2⟩
 ·exact .inl (Ya h)
 ·exact .inr ⟨Ya h1, Yf h2⟩
theorem Zjc {fr : List Key} : ∀ (ss : List (Nat × AV)) (j : Nat), lkS (Zdu fr ss) j = .top ∨ (lkS (Zdu fr ss) j = lkS ss j ∧ Zdk fr (lkS ss j) = false)
 | [], j => .inl rfl
 | (i, x) :: r, j => by
  simp only [Zdu, lkS]
  split
  ·grind
  ·exact Zjc r j
theorem ZjG (hC : CxOk C) {os : Nat} {fx : List Nat} (hO : C.outs = os) (hF : C.fx = fx) {c : Code} {k : Nat} {ss : List (Nat × AV)} {hs : List (Key × Blk)} (dst : Option Nat) (fo : Operand) (aZ : List Operand) (hop : Zdl c k = some (dst, fo, aZ))
  (f : FuncId) (first caps xs : List AV) (hf : ev (lkS ss) fo = .fn (.func f) first caps) (hxs : first ++ aZ.map (ev (lkS ss)) ++ caps = xs) (ks : List Key) (hb : List (Key × Blk)) (hhb : (ks.map fun k => (k, lkH hs k)) = hb)
  {ι : Type} (I : ι → Prop) (xF : ι → AV) (hbF : ι → List (Key × Blk)) (fr fl : List Key) (hok0 : (ZfT fr fx && ZgF hs && Zkm n dst && ks.all (okK os)) = true) (hok : ∀ i, (Zg1 os (hbF i) && Zus fr (hbF i)) = true) (hwr : ∀ i, wrL C (hbF i)) (hfl : flL (lkH hs) fl)
  (hcall : ∀ r : Ren, r.θ = C.θ → r.H0 = C.H0 → r.κ = C.κ → r.no = C.no → ∀ H', (∀ p ∈ hb, (H' (r.κ p.1)).g = r.γ p.1 + p.2.g ∧ (p.2.live = true → H' (r.κ p.1) = ZaN r p.1 p.2)) → (∀ k : Key, k.1 ≤ C.l → ¬ r.no k → H' k = r.H0 k) →
   Za3 P f (C.l + 1) (Zan r xs) H' (fun y H'' => ∃ i, I i ∧ ∃ γ' : Key → Nat, (∀ k, k ∉ fr → γ' k = r.γ k) ∧ y = ren ⟨r.κ, γ', r.θ, r.H0, r.no⟩ (xF i) ∧ H'' = Zco ⟨r.κ, γ', r.θ, r.H0, r.no⟩ (hbF i) H'))
  (h : ∀ i, I i → LO P n C c (k + 1) (mkS (Zoo dst (xF i) (Zdu fr ss)) (hbF i ++ Zcr ((hbF i).map (·.1)) fr fl hs)) Q) : LO P n C c k (mkS ss hs) Q := by
 subst hO
 subst hF
 simp only [Yc] at hok0
 obtain ⟨⟨⟨k3, k4⟩, k5⟩, k6⟩ := hok0
 intro γ σ act w hg hG hR
 have hr := hC.ren γ
 have hs' : ∀ j, σ.s j = ren (C.r γ) (lkS ss j) := fun j => (hG.s j).1 Zag
 have heval : ∀ y : Operand, ev σ.s y = ren (C.r γ) (ev (lkS ss) y) := fun y => ZeQ (c := []) hG Zag (by cases y <;> rfl)
 unfold Zdl at hop
 split at hop
 case h_2 => cases hop
 rename_i o ho
 split at hop
 case h_2 => cases hop
 rename_i cl hgd hopc
 split at hop
 case h_2 => cases hop
 rename_i fo' hcal
 simp only [Ye, Yaf] at hop
 obtain ⟨hd, rfl, rfl⟩ := hop
 rw [Za2] at ho
 have hlt : k < (Zb4 c).toList.length := by
  grind
 have hrest : (Zb4 c).toList.drop k = o :: (Zb4 c).toList.drop (k + 1) := by
  rw [Y6 hlt]
  grind
 rw [hrest]
 have hinj : ∀ q k : Key, okK C.outs q = true → okK C.outs k = true → q ≠ k → (C.r γ).κ q ≠ (C.r γ).κ k := fun q k h1 h2 h3 => hr.ne (ZcY h1) (ZcY h2) h3
 have hA := hcall (C.r γ) rfl rfl rfl rfl σ.H (fun p hp => by
  rw [← hhb] at hp
  obtain ⟨q, hq, rfl⟩ := Yr.1 hp
  have hq' := ZcY (Yj.1 k6 q hq)
  refine ⟨?_, fun hl => hG.h q hl⟩
  obtain ⟨q1, q2⟩ := q
  simp only at hq'
  rcases hq' with rfl | ⟨rfl, h2⟩
  ·have := hG.g q2
   rw [← hr.own] at this
   exact this
  ·exact hG.go q2 h2) hG.o
 have hargs : Zan (C.r γ) xs = Zan (C.r γ) first ++ cl.args.toList.map (ev σ.s) ++ Zan (C.r γ) caps := by
  rw [← hxs, ZbF, ZbF]
  congr 2
  rw [ZbK, Yaq]
  exact YW fun y _ => (heval y).symm
 have hfe : ev σ.s fo' = .fn (.func f) (Zan (C.r γ) first) (Zan (C.r γ) caps) := by rw [heval, hf]; simp [ren]
 have hrop : rOp P C.l n o (fun σ' => ∃ i, I i ∧ ∃ γ' : Key → Nat, (∀ q, q ∉ fr → γ' q = γ q) ∧ σ' = ⟨Zy1 dst σ.s (ren (C.r γ') (xF i)), Zco (C.r γ') (hbF i) σ.H⟩) σ := by
  unfold rOp
  rw [hopc]
  simp only [hcal, hfe]
  rw [hargs] at hA
  refine hA.mono fun y H'' ⟨i, hi, γ', e1, e2, e3⟩ => ?_
  unfold Zvn Ze2
  rw [hd]
  cases dst with
  | none => exact ⟨i, hi, γ', e1, by rw [e3]; rfl⟩
  | some d => exact ⟨Yf k5, i, hi, γ', e1, by rw [e2, e3]; rfl⟩
 refine ZcH (by simp [Region.wanted, hgd]) (Zcv hrop) hR fun σ' act' w' hK hR' => ?_
 obtain ⟨i, hi, γ', e1, rfl⟩ := hK
 have h := h i hi
 have hwr := hwr i
 have hok := hok i
 generalize hbF i = hb2 at h hwr hok hR'
 generalize xF i = x at h hR'
 simp only [Yc] at hok
 obtain ⟨k1, k2⟩ := hok
 have hsub : ∀ q, q ∈ fr → ∃ b, (q, b) ∈ hb2 := fun q hq => by
  obtain ⟨p, hp, hk⟩ := YL.1 (Yj.1 k2 q hq)
  rw [ZaQ.1 hk]; exact ⟨p.2, hp⟩
 let τ2 : St := mkS (Zoo dst x (Zdu fr ss)) (hb2 ++ Zcr (hb2.map (·.1)) fr fl hs)
 have hlow : ∀ q, lkH (hb2 ++ Zcr (hb2.map (·.1)) fr fl hs) q = if q ∈ hb2.map (·.1) then lkH hb2 q else lkH (Zcr (hb2.map (·.1)) fr fl hs) q := fun q => Zrl _ _ _
 have hin : ∀ q, q ∈ hb2.map (·.1) → ∃ b, (q, b) ∈ hb2 := fun q hq => by obtain ⟨p, hp, rfl⟩ := Yr.1 hq; exact ⟨p.2, hp⟩
 have hput : ∀ q b, (q, b) ∈ hb2 → Zco (C.r γ') hb2 σ.H ((C.r γ').κ q) = ZaN (C.r γ') q b ∧ lkH hb2 q = b ∧ okK C.outs q = true ∧ b.live = true := ZjJ (r := C.r γ') hinj hb2 σ.H k1
 have hkeep : ∀ q, q ∉ hb2.map (·.1) → okK C.outs q = true → Zco (C.r γ') hb2 σ.H ((C.r γ').κ q) = σ.H ((C.r γ').κ q) ∧ γ' q = γ q := fun q hq hkq => by
  refine ⟨ZcA _ _ _ fun p hp => hinj _ _ (hput p.1 p.2 hp).2.2.1 hkq fun e => hq (Yr.2 ⟨p, hp, e⟩), e1 q fun hf => ?_⟩
  grind
 have hgen : ∀ q, okK C.outs q = true → (σ.H (C.κ q)).g = γ q → (Zco (C.r γ') hb2 σ.H (C.κ q)).g = γ' q + (lkH (hb2 ++ Zcr (hb2.map (·.1)) fr fl hs) q).g := fun q hkq hq0 => by
  rw [hlow]
  split
  ·rename_i hm
   obtain ⟨b, hb⟩ := hin q hm
   obtain ⟨a1, a2, _⟩ := hput q b hb
   rw [show C.κ q = (C.r γ').κ q from rfl, a1, a2]
   rfl
  ·rename_i hm
   obtain ⟨a1, a2⟩ := hkeep q hm hkq
   rw [show C.κ q = (C.r γ').κ q from rfl, a1, a2]
   have : (lkH (Zcr (hb2.map (·.1)) fr fl hs) q).g = 0 := by
    rcases (Zcp (fr := fr) (fl := fl) hs (hb2.map (·.1)) q).2 hm with ⟨e, _⟩ | e
    ·rw [e]; exact Zeq k4 q
    ·rw [e]; rfl
   rw [this]
   exact hq0
 have hG2 : RG (C.r γ') C.l C.outs [] τ2 ⟨fun j => ren (C.r γ') (τ2.s j), Zco (C.r γ') hb2 σ.H⟩ := by
  refine ⟨fun j => ⟨fun _ => rfl, fun hn => absurd Zag hn⟩, fun q hq => ?_, fun d => ?_, fun i hi => ?_, fun q hq => ?_, fun q hq hn => ?_⟩
  ·show Zco (C.r γ') hb2 σ.H ((C.r γ').κ q) = ZaN (C.r γ') q (lkH (hb2 ++ Zcr (hb2.map (·.1)) fr fl hs) q)
   replace hq : (lkH (hb2 ++ Zcr (hb2.map (·.1)) fr fl hs) q).live = true := hq
   rw [hlow] at hq ⊢
   split at hq
   ·grind
   ·rename_i hm
    rw [if_neg hm]
    rcases (Zcp (fr := fr) (fl := fl) hs (hb2.map (·.1)) q).2 hm with ⟨e, e'⟩ | e
    ·rw [e] at hq ⊢
     have hkq := hG.k q hq
     have hok : okK C.outs q = true := by
      obtain ⟨q1, q2⟩ := q
      simp only at hkq
      simp only [okK, Yz, Yc]
      rcases hkq with rfl | ⟨rfl, h2⟩
      ·exact .inl rfl
      ·exact .inr ⟨rfl, YbG h2⟩
     obtain ⟨a1, a2⟩ := hkeep q hm hok
     rw [a1]
     have hb := hG.h q hq
     have hcells : Zan (C.r γ') (lkH hs q).cells = Zan (C.r γ) (lkH hs q).cells := by
      rcases e' with e' | e'
      ·rw [Zbm (ZlV hfl q e'), Zbm (ZlV hfl q e')]
      ·exact ZbB (r := C.r γ) e1 _ e'
     show σ.H ((C.r γ).κ q) = _
     rw [hb]
     simp only [ZaN]
     rw [hcells, show (C.r γ').γ q = γ' q from rfl, a2]
     rfl
    ·rw [e] at hq; cases hq
  ·have := hgen (1, d) rfl (by
    have := hG.g d
    rw [show ((mkS ss hs).H (1, d)).g = 0 from Zeq k4 _] at this
    rw [hC.own]; exact this)
   rw [hC.own] at this
   exact this
  ·exact hgen (0, i) (by simp only [okK, Yz, Yc]; exact .inr ⟨rfl, YbG hi⟩) (by
    have := hG.go i hi
    rw [show ((mkS ss hs).H (0, i)).g = 0 from Zeq k4 _] at this
    exact this)
  ·replace hq : (lkH (hb2 ++ Zcr (hb2.map (·.1)) fr fl hs) q).live = true := hq
   rw [hlow] at hq
   split at hq
   ·rename_i hm
    obtain ⟨b, hb⟩ := hin q hm
    exact ZcY (hput q b hb).2.2.1
   ·rename_i hm
    rcases (Zcp (fr := fr) (fl := fl) hs (hb2.map (·.1)) q).2 hm with ⟨e, e'⟩ | e
    ·rw [e] at hq; exact hG.k q hq
    ·rw [e] at hq; cases hq
  ·show Zco (C.r γ') hb2 σ.H q = C.H0 q
   rw [ZcA _ _ _ fun p hp e => ?_]
   ·exact hG.o q hq hn
   ·by_cases h1 : p.1.1 = 1
    ·obtain ⟨⟨p1, p2⟩, p3⟩ := p
     simp only at h1
     subst h1
     rw [show (C.r γ').κ (1, p2) = (C.l + 1, p2) from hC.own p2] at e
     grind
    ·exact hn (by rw [← e]; exact Zk7 hwr p hp h1)
 refine h γ' _ act' w' (hC.G γ γ' (fun i hi => e1 _ fun hm => ?_) hg) hG2 (R.weaken hR' fun j => ?_)
 ·have := Yj.1 k3 _ hm
  simp only [YQ, Ya2] at this
  rcases this with h | h
  ·cases h
  ·have : (C.fx.any (Nat.beq i)) = true := YL.2 ⟨i, hi, by simp⟩
   grind
 ·have old : ren (C.r γ') (lkS (Zdu fr ss) j) = σ.s j ∨ ren (C.r γ') (lkS (Zdu fr ss) j) = .top := by
   rcases Zjc (fr := fr) ss j with e | ⟨e, e'⟩
   ·right; rw [e]; simp [ren]
   ·left
    rw [e, hs' j]
    exact ZfX (r := C.r γ) e1 _ e'
  show ren (C.r γ') (lkS (Zoo dst x (Zdu fr ss)) j) = _ ∨ ren (C.r γ') (lkS (Zoo dst x (Zdu fr ss)) j) = .top
  cases dst with
  | none => exact old
  | some d =>
   simp only [Zoo, lkS, Zy1, upd]
   cases hj : Nat.beq d j with
   | true =>
    have := Ya hj
    grind
   | false =>
    have : j ≠ d := fun e => by rw [e] at hj; simp at hj
    grind
theorem Zsi (hC : CxOk C) {os : Nat} {fx : List Nat} (hO : C.outs = os) (hF : C.fx = fx) {c : Code} {k : Nat} {ss : List (Nat × AV)} {hs : List (Key × Blk)} (dst : Option Nat) (fo : Operand) (aZ : List Operand) (hop : Zdl c k = some (dst, fo, aZ))
  (f : FuncId) (first caps xs : List AV) (hf : ev (lkS ss) fo = .fn (.func f) first caps) (hxs : first ++ aZ.map (ev (lkS ss)) ++ caps = xs) (ks : List Key) (hb : List (Key × Blk)) (hhb : (ks.map fun k => (k, lkH hs k)) = hb)
  (x : AV) (hb2 : List (Key × Blk)) (fr fl : List Key) (hok : (Zg1 os hb2 && Zus fr hb2 && ZfT fr fx && ZgF hs && Zkm n dst && ks.all (okK os)) = true) (hwr : wrL C hb2) (hfl : flL (lkH hs) fl)
  (hcall : ∀ r : Ren, r.θ = C.θ → r.H0 = C.H0 → r.κ = C.κ → r.no = C.no → ZhL P C.l r f xs hb x hb2 fr)
  (h : LO P n C c (k + 1) (mkS (Zoo dst x (Zdu fr ss)) (hb2 ++ Zcr (hb2.map (·.1)) fr fl hs)) Q) : LO P n C c k (mkS ss hs) Q := by
 simp only [Yc] at hok
 obtain ⟨⟨⟨⟨⟨k1, k2⟩, k3⟩, k4⟩, k5⟩, k6⟩ := hok
 exact ZjG hC hO hF dst fo aZ hop f first caps xs hf hxs ks hb hhb (ι := Unit) (fun _ => True) (fun _ => x) (fun _ => hb2) fr fl (by simp only [Yc]; exact ⟨⟨⟨k3, k4⟩, k5⟩, k6⟩) (fun _ => by simp only [Yc]; exact ⟨k1, k2⟩) (fun _ => hwr) hfl
  (fun r h1 h2 h3 h4 H' a b => (hcall r h1 h2 h3 h4 H' a b).mono fun y H'' hh => ⟨(), trivial, hh⟩) fun _ _ => h
end
def kOf (l : Nat) (ks : List Key) : Key → Key
 | (0, i) => match nth ks i with | some k => k | none => (0, 0)
 | (_ + 1, d) => (l + 1, d)
def gOf (gs : List Nat) : Key → Nat
 | (0, i) => match nth gs i with | some g => g | none => 0
 | (_ + 1, _) => 0
def rOf (l : Nat) (ks : List Key) (gs : List Nat) (θ : Nat → AV) (H : Hp) : Ren := ⟨kOf l ks, gOf gs, θ, H, fun k => k ∈ ks⟩
def NmO (l : Nat) (ks : List Key) (gs : List Nat) (r : Ren) : Prop := r.κ = kOf l ks ∧ ∀ i, i < ks.length → r.γ (0, i) = gOf gs (0, i)
def ZcO (r : Ren) : Nat → List Blk → List Blk
 | _, [] => []
 | i, b :: bs => ZaN r (0, i) b :: ZcO r (i + 1) bs
def ZhR (H : Hp) : List Key → List Blk → Hp
 | k :: ks, b :: bs => ZhR (updH H k b) ks bs
 | _, _ => H
theorem Zdz {r : Ren} {k : Key} {g : Nat} {e : TypeId} {sz : Nat} {cs : List AV} (h : ZeH cs) : ZaN r k ⟨g, true, e, sz, cs⟩ = ⟨r.γ k + g, true, e, sz, cs⟩ := by
 simp only [ZaN, Zbm h]
theorem ZdX : ∀ (ks : List Key) (bs : List Blk) (H : Hp) (q : Key), q ∉ ks → ZhR H ks bs q = H q
 | [], bs, H, q, h => by cases bs <;> rfl
 | k :: ks, [], H, q, h => rfl
 | k :: ks, b :: bs, H, q, h => by
  simp only [ZhR]
  rw [ZdX ks bs _ q (fun hm => h (List.mem_cons_of_mem _ hm)), Zab _ _ (fun e => h (by rw [e]; exact Yu ..))]
theorem Zly : ∀ (ks : List Key) (bs : List Blk) (H : Hp), ks.Nodup → ∀ (j : Nat) (k : Key) (b : Blk), ks[j]? = some k → bs[j]? = some b → ZhR H ks bs k = b
 | [], bs, H, _, j, k, b, h, _ => by simp at h
 | q :: ks, [], H, _, _, _, _, _, h => by simp at h
 | q :: ks, c :: bs, H, hn, j, k, b, hk, hb => by
  simp only [ZhR]
  rw [YbA] at hn
  cases j with
  | zero =>
   simp only [YO, Ye] at hk hb
   subst hk; subst hb
   rw [ZdX ks bs _ _ hn.1, Zaa]
  | succ j =>
   simp only [YV] at hk hb
   exact Zly ks bs _ hn.2 j k b hk hb
theorem Zi3 {r : Ren} : ∀ (bs : List Blk) (i j : Nat), (ZcO r i bs)[j]? = (bs[j]?).map (ZaN r (0, i + j))
 | [], i, j => by simp [ZcO]
 | b :: bs, i, 0 => by simp [ZcO]
 | b :: bs, i, j + 1 => by
  simp only [ZcO, YV, Zi3 bs (i + 1) j, show i + 1 + j = i + (j + 1) from by omega]
theorem ZeK {P : Program} {T : Nat → Option TI} {n : Nat} {f : FuncId} {fn : Func} (rs : List ResultVar) (c : Code) {l : Nat} {xs : List AV} {H : Hp} {Post : AV → Hp → Prop} (ks : List Key) (gs : List Nat) (fx : List Nat) (θ : Nat → AV) (ys : List AV) (hs : List (Key × Blk)) (LPost : AV → List Blk → Prop)
  (hf : P.funcs[f]? = some fn) (hb : fn.body = some c) (hname : (fn.name == "runtime.NumGoroutine") = false) (hn : fn.ntmps = n) (hr : fn.results.toList = rs) (hx : xs.length ≤ n) (hT : TOk P T)
  (hks : ∀ k ∈ ks, k.1 ≤ l) (hnd : ks.Nodup) (hfx : ∀ i, i < ks.length → i ∈ fx) (hh : ∀ d, lkH hs (1, d) = ZkV) (hlv : ∀ k, (lkH hs k).live = true → k.1 = 0 ∧ k.2 < ks.length)
  (hH : ∀ i k, ks[i]? = some k → (H k).g = gOf gs (0, i) + (lkH hs (0, i)).g ∧ ((lkH hs (0, i)).live = true → H k = ZaN (rOf l ks gs θ H) (0, i) (lkH hs (0, i))))
  (hxs : Zan (rOf l ks gs θ H) ys = xs)
  (h : ∀ C, CxOk C → C.outs = ks.length → C.fx = fx → C.l = l → C.H0 = H → C.θ = θ → C.κ = kOf l ks → C.no = (fun k => k ∈ ks) → LW P n C c (mkS (Zib 0 ys) hs) (FQ T rs ks.length LPost))
  (hp : ∀ y b, LPost y b → b.length = ks.length ∧ (∀ x ∈ b, x.live = true) ∧ ∃ Y' bs', (∀ r, NmO l ks gs r → ren r y = Y') ∧ (∀ r, NmO l ks gs r → ZcO r 0 b = bs') ∧ Post Y' (ZhR H ks bs')) : Za3 P f l xs H Post := by
 let C : Base → Cx := fun B => ⟨l, B, kOf l ks, θ, H, ks.length, fun k => k ∈ ks, fx, fun γ => ∀ i ∈ fx, γ (0, i) = gOf gs (0, i)⟩
 have hkO : ∀ i, i < ks.length → ks[i]? = some (kOf l ks (0, i)) := fun i hi => by
  show _ = some (match nth ks i with | some k => k | none => (0, 0))
  rw [Za2, Yd hi]
 have hlt : ∀ (i : Nat) (k : Key), ks[i]? = some k → i < ks.length := fun i k hi => by
  grind
 have hC : ∀ B, CxOk (C B) := fun B => by
  refine ⟨fun _ => rfl, fun i hi => hks _ (Ym (hkO i hi)), fun i j hi hj e => ?_, fun k hk => ?_, fun γ γ' he hg i hi => by rw [he i hi]; exact hg i hi⟩
  ·have h1 := hkO i hi
   have h2 := hkO j hj
   rw [show kOf l ks (0, i) = kOf l ks (0, j) from e] at h1
   have h3 : ks[i]? = ks[j]? := h1.trans h2.symm
   exact (List.getElem?_inj hi hnd).1 h3
  ·obtain ⟨i, hi⟩ := Yx.1 (show k ∈ ks from hk)
   grind
 refine Zi2 rs C (γ := gOf gs) (LPost := LPost) (ys := ys) (hs := hs) hf hb hname hn hr hx hT hC (fun B => ⟨rfl, rfl, rfl, fun i _ => rfl⟩) (fun B => hxs) (fun _ => rfl) hh (fun B k hk => ?_) (fun B i hi => ?_) (fun B γ y b H' hg hy ho _ => ?_) (fun B => h _ (hC B) rfl rfl rfl rfl rfl rfl rfl)
 ·obtain ⟨h1, h2⟩ := hlv k hk
  obtain ⟨k1, k2⟩ := k
  simp only at h1 h2
  subst h1
  exact ⟨rfl, h2, (hH k2 _ (hkO k2 h2)).2 hk⟩
 ·grind
 ·obtain ⟨hbl, hbv, Y', bs', hY, hB, hp⟩ := hp y b hy
  have hnm : NmO l ks gs ((C B).r γ) := ⟨rfl, fun i hi => hg i (hfx i hi)⟩
  have e1 := hB _ hnm
  have e2 : H' = ZhR H ks bs' := by
   funext q
   by_cases hq : q ∈ ks
   ·obtain ⟨i, hi⟩ := Yx.1 hq
    have hi' := hlt i q hi
    have hb' : b[i]? = some b[i] := Yd (by omega)
    have h1 := ho.live i _ hb' (hbv _ (Ym hb'))
    have h2 : kOf l ks (0, i) = q := by
     grind
    rw [show (C B).κ (0, i) = q from h2] at h1
    rw [h1, Zly ks bs' H hnd i q (ZaN ((C B).r γ) (0, i) b[i]) hi]
    rw [← e1, Zi3, hb', Yy]
    rfl
   ·rw [ZdX ks bs' H q hq]
    exact ho.o q hq
  grind
theorem Zj2 {P : Program} {T : Nat → Option TI} {n : Nat} {f : FuncId} {fn : Func} (rs : List ResultVar) (c : Code) {l : Nat} {xs : List AV} {H : Hp} {Post : AV → Hp → Prop} (ks : List Key) (gs : List Nat) (fx : List Nat) (θ : Nat → AV) (ys : List AV) (hs : List (Key × Blk)) (Y : AV) (bs : List Blk) {Y' : AV} {bs' : List Blk}
  (hf : P.funcs[f]? = some fn) (hb : fn.body = some c) (hname : (fn.name == "runtime.NumGoroutine") = false) (hn : fn.ntmps = n) (hr : fn.results.toList = rs) (hx : xs.length ≤ n) (hT : TOk P T)
  (hks : ∀ k ∈ ks, k.1 ≤ l) (hnd : ks.Nodup) (hfx : ∀ i, i < ks.length → i ∈ fx) (hh : ∀ d, lkH hs (1, d) = ZkV) (hlv : ∀ k, (lkH hs k).live = true → k.1 = 0 ∧ k.2 < ks.length)
  (hH : ∀ i k, ks[i]? = some k → (H k).g = gOf gs (0, i) + (lkH hs (0, i)).g ∧ ((lkH hs (0, i)).live = true → H k = ZaN (rOf l ks gs θ H) (0, i) (lkH hs (0, i))))
  (hxs : Zan (rOf l ks gs θ H) ys = xs) (hbl : bs.length = ks.length) (hbv : ∀ b ∈ bs, b.live = true) (hY : ∀ r, NmO l ks gs r → ren r Y = Y') (hB : ∀ r, NmO l ks gs r → ZcO r 0 bs = bs')
  (h : ∀ C, CxOk C → C.outs = ks.length → C.fx = fx → C.l = l → C.H0 = H → C.θ = θ → C.κ = kOf l ks → C.no = (fun k => k ∈ ks) → LW P n C c (mkS (Zib 0 ys) hs) (FQ T rs ks.length (fun y b => y = Y ∧ b = bs)))
  (hp : Post Y' (ZhR H ks bs')) : Za3 P f l xs H Post := by
 exact ZeK rs c ks gs fx θ ys hs (fun y b => y = Y ∧ b = bs) hf hb hname hn hr hx hT hks hnd hfx hh hlv hH hxs h fun y b ⟨e1, e2⟩ => by subst e1; subst e2; exact ⟨hbl, hbv, Y', bs', hY, hB, hp⟩
section
variable {P : Program} {l : Nat} {r : Ren} {f : FuncId} {xs xs' : List AV} {hb hb2 : List (Key × Blk)} {x x' : AV}
theorem ZoL (h1 : Zan r xs = xs') (h2 : ren r x = x') (h : ∀ H', (∀ p ∈ hb, (H' (r.κ p.1)).g = r.γ p.1 + p.2.g ∧ (p.2.live = true → H' (r.κ p.1) = ZaN r p.1 p.2)) → (∀ k : Key, k.1 ≤ l → ¬ r.no k → H' k = r.H0 k) → Za3 P f (l + 1) xs' H' (fun y H'' => y = x' ∧ H'' = Zco r hb2 H')) :
  ZhL P l r f xs hb x hb2 [] := fun H' hb ho => by
 rw [h1]
 exact (h H' hb ho).mono fun y H'' ⟨e1, e2⟩ => ⟨r.γ, fun _ _ => rfl, by rw [e1, ← h2], e2⟩
end
theorem ZrT {r : Ren} {k : Key} {vs : List AV} (h : (Zan r vs).all (AV.low (r.κ k).1) = true) : ZxP r k vs := h
theorem ZfM {α : Type} (e : α → List D) (xs : List α) : Zdm (Zai e xs) := fun x hx => by
 obtain ⟨d, _, rfl⟩ := Yr.1 hx; rfl
def Zq6 (n : Nat) : List (Key × Blk) → Bool
 | [] => true
 | (k, _) :: r => Nat.beq k.1 0 && Nat.ble (k.2 + 1) n && Zq6 n r
theorem ZhY {n : Nat} : ∀ {hs : List (Key × Blk)}, Zq6 n hs = true → ∀ k, (lkH hs k).live = true → k.1 = 0 ∧ k.2 < n
 | [], _, k, h => by simp [lkH, ZkV] at h
 | (q, b) :: r, hi, k, h => by
  simp only [Zq6, Yc] at hi
  simp only [lkH] at h
  split at h
  ·rename_i hq
   have hq := ZaQ.1 hq
   subst hq
   exact ⟨Ya hi.1.1, Yf hi.1.2⟩
  ·exact ZhY hi.2 k h
theorem ZeW {n : Nat} : ∀ {hs : List (Key × Blk)}, Zq6 n hs = true → ∀ d, lkH hs (1, d) = ZkV
 | [], _, d => rfl
 | (q, b) :: r, hi, d => by
  simp only [Zq6, Yc] at hi
  simp only [lkH]
  split
  ·rename_i hq
   have hq := ZaQ.1 hq
   subst hq
   have := Ya hi.1.1
   grind
  ·exact ZeW hi.2 d
def HOk (H : Hp) (r : Ren) (hs : List (Key × Blk)) : Nat → List Key → Prop
 | _, [] => True
 | i, k :: ks => ((H k).g = r.γ (0, i) + (lkH hs (0, i)).g ∧ ((lkH hs (0, i)).live = true → H k = ZaN r (0, i) (lkH hs (0, i)))) ∧ HOk H r hs (i + 1) ks
theorem Zni {H : Hp} {r : Ren} {hs : List (Key × Blk)} : ∀ {ks : List Key} {i : Nat}, HOk H r hs i ks → ∀ j k, ks[j]? = some k → (H k).g = r.γ (0, i + j) + (lkH hs (0, i + j)).g ∧ ((lkH hs (0, i + j)).live = true → H k = ZaN r (0, i + j) (lkH hs (0, i + j)))
 | [], i, _, j, k, h => by simp at h
 | q :: ks, i, h, 0, k, hk => by
  simp only [YO, Ye] at hk
  subst hk
  exact h.1
 | q :: ks, i, h, j + 1, k, hk => by
  have := Zni h.2 j k (by simpa using hk)
  grind
def ZsP (l : Nat) : List Key → Prop
 | [] => True
 | k :: ks => k.1 ≤ l ∧ ZsP l ks
theorem Zf2 {l : Nat} : ∀ {ks : List Key}, ZsP l ks → ∀ k ∈ ks, k.1 ≤ l
 | q :: ks, h, k, hk => by
  rcases Yo.1 hk with rfl | hk
  ·exact h.1
  ·exact Zf2 h.2 k hk
def Zgj : Nat → List Nat
 | 0 => []
 | n + 1 => Zgj n ++ [n]
theorem Zgh : ∀ {n i : Nat}, i < n → i ∈ Zgj n
 | n + 1, i, h => by
  simp only [Zgj, YD, YG]
  rcases Yt i n with h' | h'
  ·exact .inl (Zgh h')
  grind
theorem Zip {P : Program} {T : Nat → Option TI} {n : Nat} {f : FuncId} {fn : Func} (rs : List ResultVar) (c : Code) {l : Nat} {xs : List AV} {H : Hp} {Post : AV → Hp → Prop} (ks : List Key) (gs : List Nat) (os : Nat) (θ : Nat → AV) (ys : List AV) (hs : List (Key × Blk)) (Y : AV) (bs : List Blk) {Y' : AV} {bs' : List Blk}
  (hf : P.funcs[f]? = some fn) (hb : fn.body = some c) (hname : (fn.name == "runtime.NumGoroutine") = false) (hn : fn.ntmps = n) (hr : fn.results.toList = rs) (hx : xs.length ≤ n) (hT : TOk P T) (hos : ks.length = os)
  (hks : ZsP l ks) (hnd : ks.Nodup) (hin : Zq6 os hs = true) (hH : HOk H (rOf l ks gs θ H) hs 0 ks) (hxs : Zan (rOf l ks gs θ H) ys = xs) (hbl : bs.length = os) (hbv : ∀ b ∈ bs, b.live = true) (hY : ∀ r, NmO l ks gs r → ren r Y = Y') (hB : ∀ r, NmO l ks gs r → ZcO r 0 bs = bs')
  (h : ∀ C, CxOk C → C.outs = os → C.fx = Zgj os → C.l = l → C.H0 = H → C.θ = θ → C.κ = kOf l ks → C.no = (fun k => k ∈ ks) → LW P n C c (mkS (Zib 0 ys) hs) (FQ T rs os (fun y b => y = Y ∧ b = bs)))
  (hp : Post Y' (ZhR H ks bs')) : Za3 P f l xs H Post := by
 subst hos
 exact Zj2 rs c ks gs (Zgj ks.length) θ ys hs Y bs hf hb hname hn hr hx hT (Zf2 hks) hnd (fun i hi => Zgh hi) (ZeW hin) (ZhY hin) (fun i k hk => by have := Zni hH i k hk; rw [Yy] at this; exact this) hxs hbl hbv hY hB h hp
theorem ZkK {α : Type} {e e' : α → List D} {xs : List α} {j sz : Nat} {x : α} (hx : xs[j]? = some x) (hl : ∀ x, (e x).length = sz) (he : ∀ x, e x = e' x) : Zcl (Zai e xs) (j * sz) ((e' x).map .d) := by
 have hj : j < xs.length := by
  grind
 have := Zii (z := x) hj hl he
 grind
theorem Zrh {P : Program} {l l1 : Nat} {no no1 : Key → Prop} {H H1 : Hp} {c : AV} {aZ : List AV} {y : AV} (h : Zol P l no H c aZ y) (hl : l ≤ l1) (hno : ∀ q : Key, q.1 ≤ l → ¬ no q → ¬ no1 q) (hH : ∀ q : Key, q.1 ≤ l → ¬ no q → H1 q = H q) : Zol P l1 no1 H1 c aZ y := by
 obtain ⟨f, first, caps, e, h⟩ := h
 exact ⟨f, first, caps, e, fun l' H' hl' ho => h l' H' (YR hl hl') fun k hk hn => by rw [ho k (YR hk hl) (hno k hk hn), hH k hk hn]⟩
def ZuW : Code → Operand
 | .cond o _ _ => o
 | _ => .tmp 0
def Zem (c : Code) (k : Nat) : Option Nat := match Zdl c k with | some (d, _, _) => d | none => none
def callF (c : Code) (k : Nat) : Operand := match Zdl c k with | some (_, f, _) => f | none => .tmp 0
def Zgp (c : Code) (k : Nat) : List Operand := match Zdl c k with | some (_, _, xs) => xs | none => []
theorem Zpk {P : Program} {n : Nat} {C : Cx} {Q : Exit → St → Prop} (hC : CxOk C) {os : Nat} {fx : List Nat} (hO : C.outs = os) (hF : C.fx = fx) {c : Code} {k : Nat} {ss : List (Nat × AV)} {hs : List (Key × Blk)}
  (f : FuncId) (first caps xs : List AV) (hop : Zdl c k = some (Zem c k, callF c k, Zgp c k)) (hf : ev (lkS ss) (callF c k) = .fn (.func f) first caps) (hxs : first ++ (Zgp c k).map (ev (lkS ss)) ++ caps = xs) (ks : List Key) (hb : List (Key × Blk)) (hhb : (ks.map fun k => (k, lkH hs k)) = hb)
  (x : AV) (hb2 : List (Key × Blk)) (fr fl : List Key) (hok : (Zg1 os hb2 && Zus fr hb2 && ZfT fr fx && ZgF hs && Zkm n (Zem c k) && ks.all (okK os)) = true) (hwr : wrL C hb2) (hfl : flL (lkH hs) fl)
  (hcall : ∀ r : Ren, r.θ = C.θ → r.H0 = C.H0 → r.κ = C.κ → r.no = C.no → ZhL P C.l r f xs hb x hb2 fr)
  (h : LO P n C c (k + 1) (mkS (Zoo (Zem c k) x (Zdu fr ss)) (hb2 ++ Zcr (hb2.map (·.1)) fr fl hs)) Q) : LO P n C c k (mkS ss hs) Q :=
 Zsi hC hO hF _ _ _ hop f first caps xs hf hxs ks hb hhb x hb2 fr fl hok hwr hfl hcall h
end Go.Eng
namespace Go.Eng
open Go
set_option linter.all false
end Go.Eng
namespace Go.Eng
set_option linter.all false
open Go Go.RowKit Go.Shelf
theorem Ztz {α : Type} {e : α → List D} {xs : List α} {l h : Nat} (q : SlS l h xs.length) : SlS l h (xs.map e).length := by rw [Yn]; exact q
theorem Zt8 {α : Type} {e : α → List D} {xs : List α} {sz : Nat} (he : ∀ x, (e x).length = sz) : ∀ d, d ∈ xs.map e → d.length = sz := fun d h => by
 grind
theorem Ztb {α : Type} {e : α → List D} {xs : List α} {sz l h : Nat} (he : ∀ x, (e x).length = sz) : SlD (xs.map e) sz l h (((xs.drop l).take (h - l)).map e) :=
 ⟨Zt8 he, by rw [← List.map_drop, ← List.map_take]⟩
theorem Zm1 {i : Int} {len sz : Nat} (h0 : 0 ≤ i) (h : i < len) : Zuq i len 0 sz (i.toNat * sz) := ⟨h0, h, by simp⟩
theorem Zpu {α : Type} {e : α → List D} {xs : List α} {j sz fo : Nat} {z y : α} {vs : List D} (hj : j < xs.length) (hl : ∀ x, (e x).length = sz) (hf : fo + vs.length ≤ sz) (he : e y = (e (xs.getD j z)).take fo ++ vs ++ (e (xs.getD j z)).drop (fo + vs.length)) :
  StS (Zai e xs) (j * sz + fo) (vs.map .d) (Zai e (xs.set j y)) := by
 have h2 : (j + 1) * sz ≤ xs.length * sz := YM _ hj
 rw [YE, YaT] at h2
 refine ⟨by rw [Yn, ZbH hl]; omega, ?_⟩
 have hx : xs.getD j z = xs[j] := by rw [Yw, Yd hj]; rfl
 rw [hx] at he
 have hs : Zai e xs = Zai e (xs.take j) ++ ((e xs[j]).map .d ++ Zai e (xs.drop (j + 1))) := by
  conv => lhs; rw [← YbF j xs, Y6 hj, Zer, Zbp]
 have ha : (Zai e (xs.take j)).length = j * sz := by rw [ZbH hl, YX, YaC (by omega)]
 have hb : ((e xs[j]).map AV.d).length = sz := by rw [Yn, hl]
 rw [hs, List.take_append, Yab (by omega : (Zai e (xs.take j)).length ≤ j * sz + fo), ha, show j * sz + fo - j * sz = fo from by omega, List.take_append_of_le_length (by omega),
  List.drop_append, YbC (by rw [ha]; omega), ha, Yak, show j * sz + fo + (vs.map AV.d).length - j * sz = fo + vs.length from by rw [Yn]; omega, List.drop_append_of_le_length (by omega),
  YaV, if_pos hj, Zer, Zbp, he]
 simp only [YaM, List.map_take, List.map_drop, YS]
end Go.Eng
namespace Go.Eng
set_option linter.all false
theorem ZgK {α : Type} {l : List α} {p : α → Bool} : ((match l.findIdx? p with | some k => (k : Int) | none => -1) ≥ 0) ↔ l.any p = true := by
 rw [YL]
 cases h : l.findIdx? p with
 | none =>
  rw [Yah] at h
  constructor
  ·intro e; exact absurd e (by decide)
  ·rintro ⟨x, hx, hp⟩; rw [h x hx] at hp; cases hp
 | some k =>
  obtain ⟨h1, h2, _⟩ := YU.1 h
  exact ⟨fun _ => ⟨l[k], Yay h1, h2⟩, fun _ => Int.natCast_nonneg k⟩
theorem Zo9 {α : Type} {e e' : α → List D} {xs : List α} {j sz : Nat} {y : α} (hj : j < xs.length) (hl : ∀ x, (e x).length = sz) (he : ∀ x, e x = e' x) : StS (Zai e xs) (j * sz) ((e' y).map .d) (Zai e (xs.set j y)) := by
 rw [← he]; exact Ztf hj hl
theorem ZhG {α : Type} {sz : Nat} {e e' : α → List D} {y : α} (C : List AV) (hl : ∀ x, (e x).length = sz) (he : ∀ x, e x = e' x) : Zh9 sz C (.d (.list [e' y])) 1 (Zai e [y]) := by
 rw [Zp8, he]; exact Zp1 C (by rw [← he]; exact hl y)
theorem ZrQ {α : Type} {e : α → List D} {xs : List α} {n m off sz : Nat} (hn : n = m) (h : off ≤ xs.length) (hl : ∀ x, (e x).length = sz) : n = m ∧ off * sz ≤ (Zai e xs).length ∧ (Zai e xs).drop (off * sz) = Zai e (xs.drop off) :=
 ⟨hn, by rw [ZbH hl]; exact YM _ h, ZdD hl xs off⟩
end Go.Eng
namespace Go.Eng
set_option linter.all false
open Go Go.RowKit
section
variable {P : Program} {T : Nat → Option TI} {n : Nat} {C : Cx} {τ : St} {Q : Exit → St → Prop}
theorem Zrs (hC : CxOk C) {os : Nat} {fx : List Nat} (hO : C.outs = os) (hF : C.fx = fx) {c : Code} (a : AT) (lf : Lf) (q : Ren → (St → Prop) → Prop)
  (hq : ∀ r Φ, ZcN r os a τ (fun τ _ => Zfy fx lf τ Φ) = q r Φ) (h : ∀ r, r.θ = C.θ → r.H0 = C.H0 → r.κ = C.κ → r.no = C.no → q r (fun τ' => LW P n C c τ' Q)) : LW P n C c τ Q := by
 subst hO
 subst hF
 intro γ σ hg hG
 have h1 := h (C.r γ) rfl rfl rfl rfl
 rw [← hq] at h1
 obtain ⟨τ₁, a₁, σ₁, h2, hG1, hw1⟩ := Zaq (n := n) hC a h1 hG
 obtain ⟨γ', τ₄, σ₄, j0, j1, j2, j3⟩ := Zbu (n := n) hC h2 hg hG1
 exact AWp.weak (j1 γ' σ₄ j0 j2) (hw1.trans j3)
end
end Go.Eng
