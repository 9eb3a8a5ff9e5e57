import Derived.Test.YthhipejbnbochaaCz10
import Derived.Shelf.Spec.SlicesGrow
import Derived.Test.YthhipejbnbochaaCz00
namespace Go.Eng
set_option linter.all false
open Go Go.RowKit
def cAt : List Nat → Code → Code
 | [], c => c
 | 0 :: p, .seq a _ => cAt p a
 | _ :: p, .seq _ b => cAt p b
 | 0 :: p, .cond _ a _ => cAt p a
 | _ :: p, .cond _ _ b => cAt p b
 | _ :: p, .block _ c => cAt p c
 | _ :: p, .loop c => cAt p c
 | _ :: p, .scope c => cAt p c
 | _, c => c
def Zaq (f : Func) : Code := f.body.getD .skip
def Zag {α : Type} (e : α → List D) (xs : List α) : List AV := ((xs.map e).flatten).map .d
theorem Zah {α : Type} (e : α → List D) (xs : List α) : ZdU (Zag e xs) := fun x hx => by
 obtain ⟨d, _, rfl⟩ := YB.1 hx; rfl
theorem ZbB {α : Type} {e : α → List D} {sz : Nat} (he : ∀ x, (e x).length = sz) (xs : List α) : (Zag e xs).length = xs.length * sz := by
 unfold Zag
 induction xs with
 | nil => simp
 | cons x xs ih => simp only [Yq, YN, Yak, Yr, he, Yaa, YC] at ih ⊢; omega
theorem Zie {α : Type} (e : α → List D) (xs ys : List α) : Zag e (xs ++ ys) = Zag e xs ++ Zag e ys := by simp [Zag]
section
variable {P : Program} {n : Nat} {C : Cx} {τ : St} {Q : Exit → St → Prop}
theorem Zkj {c : Code} (id : Nat) (x : Code) (hc : c = .block id x) (h : LW P n C x τ (fun e τ' => match e with | .exit i => (match Nat.beq i id with | true => Q .normal τ' | false => Q (.exit i) τ') | e => Q e τ')) : LW P n C c τ Q := hc ▸ ZlB (h.mono fun e τ' hq => by
 cases e with
 | exit i =>
  simp only at hq ⊢
  split at hq
  ·rename_i he; rw [if_pos (Ya he)]; exact hq
  ·rename_i he; rw [if_neg (by rintro rfl; simp at he)]; exact hq
 | _ => exact hq)
end
theorem ZeA {P : Program} {T : Nat → Option TI} {n : Nat} {f : FuncId} {fn : Func} (rs : List ResultVar) (c : Code) {l : Nat} {xs : List AV} {H : Hp} {Post : AV → Hp → Prop} (θ : Nat → AV) (ys : List AV)
  (hf : P.funcs[f]? = some fn) (hb : fn.body = some c) (hname : (fn.name == "runtime.NumGoroutine") = false) (hn : fn.ntmps = n) (hr : fn.results.toList = rs) (hx : xs.length ≤ n) (hT : TOk P T)
  (hxs : Zaf ⟨fun k => (l + 1, k.2), fun _ => 0, θ, H, fun _ => False⟩ ys = xs) (h : ∀ B : Base, LW P n (cxP l θ H B) c (mkS (Zg5 0 ys) []) (FQ T rs 0 (fun y _ => Post y H))) : ZaK P f l xs H Post :=
 ZhU rs (cxP l θ H) (γ := fun _ => 0) (LPost := fun y _ => Post y H) hf hb hname hn hr hx hT (fun B => Zej l B θ H) (fun B => ⟨rfl, rfl, rfl, trivial⟩) (fun B => hxs) (fun _ => rfl) (fun _ => rfl) (fun B k hk => by simp [lkH, Zjt] at hk) (fun B i hi => absurd hi (Yah _))
  (fun B γ y bs H' _ hp ho hy => by rw [hy rfl, ZmC ho]; exact hp) h
theorem ZpO {α : Type} (e : α → List D) (xs : List α) : EqI ((xs.map e).length : Nat) xs.length := by simp [EqI]
theorem ZkD {α : Type} {e e' : α → List D} {xs : List α} {i : Nat} {x : α} (hx : xs[i]? = some x) (he : ∀ x, e x = e' x) : ZpV (xs.map e) (i : Nat) (e' x) := ⟨by omega, by simp [hx, he]⟩
theorem Zn3 {α : Type} {e e' : α → List D} {xs : List α} {i : Nat} {z : α} (hi : i < xs.length) (he : ∀ x, e x = e' x) : ZpV (xs.map e) (i : Nat) (e' (xs.getD i z)) := by
 refine ZkD ?_ he
 grind
theorem ZmP {a r : Int} (h : a = r) (h1 : -9223372036854775808 ≤ r) (h2 : r < 9223372036854775808) : Zbu .i64 a r := by
 subst h; exact IntWalk.i64_in _ ⟨h1, by omega⟩
theorem Zug {i len sz : Nat} (h : i < len) : Zp0 (i : Nat) len 0 sz (i * sz) := ⟨by omega, by omega, by simp⟩
theorem ZlK {sz : Nat} {e : List D} (C : List AV) (he : e.length = sz) : ZiE sz C (.d (.list [e])) 1 (e.map .d) := by
 refine ⟨Yj.2 fun x hx => ?_, fun q hq => ?_, rfl, by simp⟩
 ·obtain ⟨d, _, rfl⟩ := YB.1 hx; rfl
 grind
theorem ZkX {α : Type} {sz : Nat} {e : α → List D} (C : List AV) (xs : List α) (he : ∀ x, (e x).length = sz) : ZiE sz C (.d (.list (xs.map e))) xs.length (Zag e xs) := by
 refine ⟨Yj.2 fun x hx => ?_, fun q hq => ?_, by simp, rfl⟩
 ·obtain ⟨d, _, rfl⟩ := YB.1 hx; rfl
 grind
theorem ZlW {α : Type} {sz : Nat} {e : α → List D} (k : Key) (g : Nat) (xs : List α) (he : ∀ x, (e x).length = sz) : ZiE sz (Zag e xs) (.ref k g 0 xs.length) xs.length (Zag e xs) := by
 refine ⟨Yj.2 fun x hx => ?_, rfl, by rw [ZbB he]; simp, by rw [Y8, Yas, ← ZbB he xs, YaK]⟩
 obtain ⟨d, _, rfl⟩ := YB.1 hx; rfl
theorem Zmv {α : Type} {sz byt : Nat} {e : α → List D} (xs ys : List α) {n' : Nat} (he : ∀ x, (e x).length = sz) (hn : xs.length + ys.length = n') (hb : n' * byt ≤ 140737488355328) :
  Zsr (Zag e xs) 0 xs.length ys.length sz byt (Zag e ys) (Zag e (xs ++ ys)) n' :=
 ⟨by rw [ZbB he, Yz], by rw [Y8, Yas, Zie], hn, hb⟩
theorem Zl9 {α : Type} (e : α → List D) (x : α) : Zag e [x] = (e x).map .d := by simp [Zag]
theorem Zkp {α : Type} {sz : Nat} {e : α → List D} (xs : List α) (hz : sz ≠ 0) (he : ∀ x, (e x).length = sz) : FzR (Zag e xs) 0 xs.length sz (xs.map e) :=
 ⟨by simp, hz, fun q hq => by obtain ⟨x, _, rfl⟩ := YB.1 hq; exact he x, by rw [ZbB he]; simp, by rw [Y8, Yas, ← ZbB he xs, YaK]; rfl⟩
theorem ZlE {α : Type} {e e' : α → List D} {xs : List α} {i : Int} {z : α} (h0 : 0 ≤ i) (hi : i < xs.length) (he : ∀ x, e x = e' x) : ZpV (xs.map e) i (e' (xs.getD i.toNat z)) := by
 have h := Zn3 (e := e) (e' := e') (xs := xs) (i := i.toNat) (z := z) (by omega) he
 grind
theorem Zgm {α : Type} {sz byt c : Nat} {e : α → List D} {news : List AV} (xs ys : List α) (he : ∀ x, (e x).length = sz) (hc : ys.length = c) (hn : news = Zag e ys) (hb : (xs.length + ys.length) * byt ≤ 140737488355328) :
  Zsr (Zag e xs) 0 xs.length c sz byt news (Zag e (xs ++ ys)) (xs ++ ys).length := by
 subst hc; subst hn
 exact Zmv xs ys he (by rw [Yr]) (by rw [Yr]; exact hb)
section
variable {P : Program} {l : Nat} {r : Ren} {f : FuncId} {xs xs' : List AV} {hb : List (Key × Blk)} {x x' : AV}
def Zll (P : Program) (l : Nat) (no : Key → Prop) (H : Hp) (c : AV) (aZ : List AV) (y : AV) : Prop :=
 ∃ f first caps, c = .fn (.func f) first caps ∧ ∀ l' H', l ≤ l' → (∀ k : Key, k.1 ≤ l → ¬ no k → H' k = H k) → ZaK P f l' (first ++ aZ ++ caps) H' (fun y' H'' => y' = y ∧ H'' = H')
theorem ZlR {i : Nat} {c : AV} (hθ : r.θ i = c) (h : Zll P l r.no r.H0 c xs' x') (h1 : Zaf r xs = xs') (h2 : ren r x = x') : Zk4 P l r i xs hb x := by
 obtain ⟨f, first, caps, rfl, h⟩ := h
 exact ⟨f, first, caps, hθ, fun H' _ ho => by rw [h1, h2]; exact h (l + 1) H' (Nat.le_succ l) ho⟩
end
section
variable {P : Program} {T : Nat → Option TI} {n : Nat} {C : Cx} {τ : St} {Q : Exit → St → Prop}
theorem ZpE (hC : CxOk C) (hT : TOk P T) (hm : P.follows .mixedOrders = true) {os : Nat} {fx : List Nat} (hO : C.outs = os) (hF : C.fx = fx) {c : Code} (a : AT) (lf lx : Lf) (rs : List ResultVar) {Post : AV → List Blk → Prop} (q : Ren → (Exit → St → Prop) → (AV → List Blk → Prop) → Prop)
  (hq : ∀ r Q Post, ZbW P T C.l n os r c a τ (KB T rs os fx r Post lf lx Q) = q r Q Post) (hQ : ∀ τ, FQ T rs os Post .ret τ → Q .ret τ) (h : ∀ r, r.θ = C.θ → r.H0 = C.H0 → r.κ = C.κ → r.no = C.no → q r Q Post) : LW P n C c τ Q :=
 Zsq hC hT hm a lf lx (by rw [hO]; exact hQ) (fun γ => by rw [hO, hF, hq]; exact h _ rfl rfl rfl rfl)
theorem ZoG (hC : CxOk C) (hT : TOk P T) (hm : P.follows .mixedOrders = true) {os : Nat} (hO : C.outs = os) {c : Code} (a : AT) (rs : List ResultVar) {Post : AV → List Blk → Prop} (q : Ren → (AV → List Blk → Prop) → Prop)
  (hq : ∀ r Post, ZbW P T C.l n os r c a τ (KF T rs os Post) = q r Post) (h : ∀ r, r.θ = C.θ → r.H0 = C.H0 → r.κ = C.κ → r.no = C.no → q r Post) : LW P n C c τ (FQ T rs os Post) := by
 subst hO
 exact Zte hC hT hm a (fun γ => by rw [hq]; exact h _ rfl rfl rfl rfl)
mutual
theorem ZlF {H : Hp} : ∀ (x : AV) {a : AT} {K K' : AV → AT → Prop}, (∀ y a, K y a → K' y a) → frz H x a K → frz H x a K'
 | .d x, a, K, K', hk, h => hk _ _ h
 | .e0, a, K, K', hk, h => hk _ _ h
 | .agg xs, a, K, K', hk, h => Zgz xs (fun ys a h => hk _ _ h) h
 | .ref k g off m, a, K, K', hk, h => by
  unfold frz at h ⊢
  grind
 | .top, a, K, K', hk, h => by simp only [frz] at h
 | .p _, a, K, K', hk, h => by simp only [frz] at h
 | .ptr _ _ _, a, K, K', hk, h => by simp only [frz] at h
 | .mp k g, a, K, K', hk, h => by
  unfold frz at h ⊢
  grind
 | .iptr _ _, a, K, K', hk, h => by simp only [frz] at h
 | .fn _ _ _, a, K, K', hk, h => by simp only [frz] at h
 | .tup _, a, K, K', hk, h => by simp only [frz] at h
theorem Zgz {H : Hp} : ∀ (xs : List AV) {a : AT} {K K' : List AV → AT → Prop}, (∀ y a, K y a → K' y a) → Znc H xs a K → Znc H xs a K'
 | [], a, K, K', hk, h => hk _ _ h
 | x :: xs, a, K, K', hk, h => by
  simp only [Znc] at h ⊢
  exact ZlF x (fun y a h => Zgz xs (fun ys a h => hk _ _ h) h) h
end
end
end Go.Eng
namespace Go.Eng
set_option linter.all false
open Go Go.RowKit
theorem Zbe {α : Type} (e : α → List D) (x : α) (xs : List α) : Zag e (x :: xs) = (e x).map .d ++ Zag e xs := by simp [Zag]
theorem ZcW {α : Type} {e : α → List D} {sz : Nat} (hl : ∀ x, (e x).length = sz) : ∀ (xs : List α) (j : Nat), (Zag e xs).drop (j * sz) = Zag e (xs.drop j)
 | [], j => by simp [Zag]
 | x :: xs, 0 => by simp
 | x :: xs, j + 1 => by
  have h1 : ((e x).map AV.d).length = sz := by rw [Yq, hl]
  rw [Zbe, YC, YaV, Ya7, ← List.drop_drop, List.drop_left' h1, ZcW hl xs j]
  rfl
theorem Zgr {α : Type} {e : α → List D} {sz : Nat} (hl : ∀ x, (e x).length = sz) : ∀ (xs : List α) (j : Nat), (Zag e xs).take (j * sz) = Zag e (xs.take j)
 | [], j => by simp [Zag]
 | x :: xs, 0 => by simp [Zag]
 | x :: xs, j + 1 => by
  have h1 : ((e x).map AV.d).length = sz := by rw [Yq, hl]
  rw [Zbe, List.take_succ_cons, Zbe, YC, YaV, Ya7, List.take_append, h1, Nat.add_sub_cancel_left, Zgr hl xs j, YaF (by omega)]
theorem Zon {α : Type} {xs : List α} {j : Nat} {z : α} (hj : j < xs.length) : xs.drop j = xs.getD j z :: xs.drop (j + 1) := by
 rw [Y4 hj, YO, Yc hj]; rfl
theorem Zg3 {α : Type} {e e' : α → List D} {xs : List α} {j sz : Nat} {z : α} (hj : j < xs.length) (hl : ∀ x, (e x).length = sz) (he : ∀ x, e x = e' x) : ZbD (Zag e xs) (j * sz) ((e' (xs.getD j z)).map .d) := by
 unfold ZbD
 rw [ZcW hl, Zon (z := z) hj, Zbe, he, List.take_left]
theorem ZnY {α : Type} {e : α → List D} {xs : List α} {j sz : Nat} {y : α} (hj : j < xs.length) (hl : ∀ x, (e x).length = sz) : StS (Zag e xs) (j * sz) ((e y).map .d) (Zag e (xs.set j y)) := by
 have h1 : ((e y).map AV.d).length = sz := by rw [Yq, hl]
 have h2 : (j + 1) * sz ≤ xs.length * sz := YM _ hj
 rw [YC, YaV] at h2
 refine ⟨by rw [h1, ZbB hl]; omega, ?_⟩
 rw [h1, Zgr hl, show j * sz + sz = (j + 1) * sz from by rw [YC, YaV], ZcW hl, List.set_eq_take_append_cons_drop, if_pos hj, Zie, Zbe, Y2]
def ZbR (r : Ren) : List (Key × Blk) → Hp → Hp
 | [], H => H
 | (k, b) :: rest, H => ZbR r rest (updH H (r.κ k) (Zaz r k b))
def Zgi (P : Program) (l : Nat) (r : Ren) (f : FuncId) (xs : List AV) (hb : List (Key × Blk)) (x : AV) (hb2 : List (Key × Blk)) (fr : List Key) : Prop :=
 ∀ H', (∀ p ∈ hb, (H' (r.κ p.1)).g = r.γ p.1 + p.2.g ∧ (p.2.live = true → H' (r.κ p.1) = Zaz r p.1 p.2)) → (∀ k : Key, k.1 ≤ l → ¬ r.no k → H' k = r.H0 k) →
  ZaK P f (l + 1) (Zaf r xs) H' (fun y H'' => ∃ γ' : Key → Nat, (∀ k, k ∉ fr → γ' k = r.γ k) ∧ y = ren ⟨r.κ, γ', r.θ, r.H0, r.no⟩ x ∧ H'' = ZbR ⟨r.κ, γ', r.θ, r.H0, r.no⟩ hb2 H')
mutual
def Zcz (fr : List Key) : AV → Bool
 | .ref k _ _ _ => fr.any (ZcD k)
 | .ptr k _ _ => fr.any (ZcD k)
 | .mp k _ => fr.any (ZcD k)
 | .fn _ xs ys => Zb0 fr xs || Zb0 fr ys
 | .agg xs => Zb0 fr xs
 | .tup xs => Zb0 fr xs
 | .top => false
 | .d _ => false
 | .e0 => false
 | .p _ => false
 | .iptr _ _ => false
def Zb0 (fr : List Key) : List AV → Bool
 | [] => false
 | x :: xs => Zcz fr x || Zb0 fr xs
end
def ZcG (fr : List Key) : List (Nat × AV) → List (Nat × AV)
 | [] => []
 | (j, x) :: r => (j, match Zcz fr x with | true => .top | false => x) :: ZcG fr r
def ZbK (ks fr fl : List Key) : List (Key × Blk) → List (Key × Blk)
 | [] => []
 | (k, b) :: r => match ks.any (ZcD k), fl.any (ZcD k) || !Zb0 fr b.cells with
  | false, true => (k, b) :: ZbK ks fr fl r
  | _, _ => ZbK (k :: ks) fr fl r
def Zlm : Option Nat → AV → List (Nat × AV) → List (Nat × AV)
 | some d, x, r => (d, x) :: r
 | none, _, r => r
def okK (os : Nat) (k : Key) : Bool := Nat.beq k.1 1 || (Nat.beq k.1 0 && Nat.ble (k.2 + 1) os)
def Zf6 (os : Nat) : List (Key × Blk) → Bool
 | [] => true
 | (k, b) :: r => okK os k && b.live && !(r.any fun p => ZcD k p.1) && Zf6 os r
mutual
theorem ZeM {r : Ren} {γ' : Key → Nat} {fr : List Key} (hγ : ∀ k, k ∉ fr → γ' k = r.γ k) : ∀ (x : AV), Zcz fr x = false → ren ⟨r.κ, γ', r.θ, r.H0, r.no⟩ x = ren r x
 | .ref k g off n, h => by simp only [Zcz] at h; simp only [ren]; rw [hγ k (Zfb h)]
 | .ptr k g off, h => by simp only [Zcz] at h; simp only [ren]; rw [hγ k (Zfb h)]
 | .mp k g, h => by simp only [Zcz] at h; simp only [ren]; rw [hγ k (Zfb h)]
 | .fn f xs ys, h => by
  simp only [Zcz, Bool.or_eq_false_iff] at h
  have e1 := Za8 hγ xs h.1
  have e2 := Za8 hγ ys h.2
  cases f <;> simp only [ren, e1, e2]
 | .agg xs, h => by simp only [Zcz] at h; simp only [ren, Za8 hγ xs h]
 | .tup xs, h => by simp only [Zcz] at h; simp only [ren, Za8 hγ xs h]
 | .top, _ => by simp [ren]
 | .d _, _ => by simp [ren]
 | .e0, _ => by simp [ren]
 | .p _, _ => by simp [ren]
 | .iptr _ _, _ => by simp [ren]
theorem Za8 {r : Ren} {γ' : Key → Nat} {fr : List Key} (hγ : ∀ k, k ∉ fr → γ' k = r.γ k) : ∀ (xs : List AV), Zb0 fr xs = false → Zaf ⟨r.κ, γ', r.θ, r.H0, r.no⟩ xs = Zaf r xs
 | [], _ => by simp [Zaf]
 | x :: xs, h => by
  simp only [Zb0, Bool.or_eq_false_iff] at h
  simp only [Zaf, ZeM hγ x h.1, Za8 hγ xs h.2]
theorem Zfb {k : Key} {fr : List Key} (h : fr.any (ZcD k) = false) : k ∉ fr := fun hm => by
 have : fr.any (ZcD k) = true := YK.2 ⟨k, hm, ZaC.2 rfl⟩
 grind
end
def Zbt : Code → Array Oper
 | .region _ ops _ => ops
 | _ => #[]
def ZsH : Code → Bool
 | .region _ _ false => true
 | _ => false
def Zgy {α : Type} : Nat → List α → List α
 | 0, l => l
 | _ + 1, [] => []
 | n + 1, _ :: l => Zgy n l
def Zi8 {α : Type} : Nat → List α → List α
 | 0, _ => []
 | _ + 1, [] => []
 | n + 1, x :: l => x :: Zi8 n l
theorem Zfm {α : Type} : ∀ (n : Nat) (l : List α), Zgy n l = l.drop n
 | 0, l => rfl
 | n + 1, [] => rfl
 | n + 1, x :: l => Zfm n l
theorem ZhQ {α : Type} : ∀ (n : Nat) (l : List α), Zi8 n l = l.take n
 | 0, l => rfl
 | n + 1, [] => rfl
 | n + 1, x :: l => by rw [Zi8, ZhQ n l]; rfl
def LO (P : Program) (n : Nat) (C : Cx) (c : Code) (k : Nat) (τ : St) (Q : Exit → St → Prop) : Prop :=
 ∀ γ σ act w, C.G γ → RG (C.r γ) C.l C.outs [] τ σ → R C.l n C.B σ act w → wpList P (Zbt c) (fun e a' w' => ∃ σ', Is n C (Q e) σ' ∧ R C.l n C.B σ' a' w') ((Zbt c).toList.drop k) act w
def Zcx (c : Code) (k : Nat) : Option (Option Nat × Operand × List Operand) :=
 match nth (Zbt c).toList k with
 | some o => (match o.guard, o.op with
  | none, .call cl => (match cl.callee with | .value f => some (o.dst, f, cl.args.toList) | _ => none)
  | _, _ => none)
 | none => none
def wrL (C : Cx) : List (Key × Blk) → Prop
 | [] => True
 | (k, _) :: r => match Nat.beq k.1 1 with | true => wrL C r | false => C.no (C.κ k) ∧ wrL C r
def flL (H : Hp) : List Key → Prop
 | [] => True
 | k :: r => ZdU (H k).cells ∧ flL H r
def ZpZ (fr : List Key) (hb2 : List (Key × Blk)) : Bool := fr.all fun k => hb2.any fun p => ZcD k p.1
def ZeK (fr : List Key) (fx : List Nat) : Bool := fr.all fun k => !(Nat.beq k.1 0 && fx.any (Nat.beq k.2))
def Zfa : List (Key × Blk) → Bool
 | [] => true
 | (_, b) :: r => Nat.beq b.g 0 && Zfa r
def Zve : Option Nat → (Nat → AV) → AV → Nat → AV
 | some d, s, v => upd s d v
 | none, s, _ => s
def Zi9 (n : Nat) : Option Nat → Bool
 | some d => Nat.ble (d + 1) n
 | none => true
section
variable {P : Program} {T : Nat → Option TI} {n : Nat} {C : Cx} {τ : St} {Q : Exit → St → Prop}
theorem ZiH {c : Code} (hc : ZsH c = true) (h : LO P n C c 0 τ Q) : LW P n C c τ Q := by
 cases c with
 | region id ops dr =>
  cases dr with
  | true => cases hc
  | false =>
   obtain ⟨opl, rfl⟩ : ∃ l : List Oper, ops = l.toArray := ⟨ops.toList, by simp⟩
   intro γ σ hg hG act w hR
   have := h γ σ act w hg hG hR
   simp only [Zbt, Yas] at this
   exact wp_region_lit this
 | _ => cases hc
theorem Zqu (hC : CxOk C) (hT : TOk P T) {os : Nat} {fx : List Nat} (hO : C.outs = os) (hF : C.fx = fx) {c : Code} {k : Nat} (m : Nat) (a : AT) (lf : Lf) (q : Ren → (St → Prop) → Prop)
  (hq : ∀ r Φ, Zcb r os a τ (fun τ a => ZgO P T C.l n r ((Zbt c).toList.map (·.dst)) (Zi8 m (Zgy k (Zbt c).toList)) [] a (fun τ' env a' => Zcb r os a' (ZiJ env τ') (fun τ _ => Zeo fx lf τ Φ)) τ) = q r Φ)
  (h : ∀ r, r.θ = C.θ → r.H0 = C.H0 → r.κ = C.κ → r.no = C.no → q r (fun τ' => LO P n C c (k + m) τ' Q)) : LO P n C c k τ Q := by
 subst hO
 subst hF
 intro γ σ act w hg hG hR
 have h1 := h (C.r γ) rfl rfl rfl rfl
 rw [← hq] at h1
 obtain ⟨τ₁, a₁, σ₁, h2, hG1, hw1⟩ := Zai (n := n) hC a h1 hG
 have e : (Zbt c).toList.drop k = Zi8 m (Zgy k (Zbt c).toList) ++ (Zbt c).toList.drop (k + m) := by
  rw [ZhQ, Zfm, ← List.drop_drop, List.take_append_drop]
 rw [e]
 refine ZbO (hC.ren γ) hT (B := C.B) _ (fun τ' env' a' σ' act' w' k1 k2 k3 => ?_) _ [] a₁ τ₁ σ₁ act w h2 hG1 (hw1 _ _ hR)
 obtain ⟨σ₂, g1, g2⟩ := Zcs (n := n) k2
 obtain ⟨τ₃, a₃, σ₃, f1, f2, f3⟩ := Zai (n := n) hC a' k1 g1
 obtain ⟨γ', τ₄, σ₄, j0, j1, j2, j3⟩ := Za1 (n := n) hC f1 hg f2
 exact j1 γ' σ₄ act' w' j0 j2 (j3 _ _ (f3 _ _ (g2 _ _ k3)))
theorem Zrh (hC : CxOk C) (hT : TOk P T) {os : Nat} {fx : List Nat} (hO : C.outs = os) (hF : C.fx = fx) {c : Code} {k : Nat} (a : AT) (lf : Lf) (q : Ren → (Exit → St → Prop) → Prop)
  (hq : ∀ r Φ, Zcb r os a τ (fun τ a => ZgO P T C.l n r ((Zbt c).toList.map (·.dst)) (Zgy k (Zbt c).toList) [] a (fun τ' env a' => Zcb r os a' (ZiJ env τ') (fun τ _ => Zeo fx lf τ (Φ .normal))) τ) = q r Φ)
  (h : ∀ r, r.θ = C.θ → r.H0 = C.H0 → r.κ = C.κ → r.no = C.no → q r Q) : LO P n C c k τ Q := by
 subst hO
 subst hF
 intro γ σ act w hg hG hR
 have h1 := h (C.r γ) rfl rfl rfl rfl
 rw [← hq] at h1
 obtain ⟨τ₁, a₁, σ₁, h2, hG1, hw1⟩ := Zai (n := n) hC a h1 hG
 have e : (Zbt c).toList.drop k = Zgy k (Zbt c).toList ++ [] := by rw [Zfm, YaR]
 rw [e]
 refine ZbO (hC.ren γ) hT (B := C.B) _ (fun τ' env' a' σ' act' w' k1 k2 k3 => ?_) _ [] a₁ τ₁ σ₁ act w h2 hG1 (hw1 _ _ hR)
 obtain ⟨σ₂, g1, g2⟩ := Zcs (n := n) k2
 obtain ⟨τ₃, a₃, σ₃, f1, f2, f3⟩ := Zai (n := n) hC a' k1 g1
 obtain ⟨γ', τ₄, σ₄, j0, j1, j2, j3⟩ := Za1 (n := n) hC f1 hg f2
 unfold wpList
 exact ⟨σ₄, ⟨γ', τ₄, σ₄, j0, j1, j2, Wk.refl _⟩, j3 _ _ (f3 _ _ (g2 _ _ k3))⟩
theorem Zdz : ∀ {hs : List (Key × Blk)}, Zfa hs = true → ∀ k, (lkH hs k).g = 0
 | [], _, k => rfl
 | (k', b) :: r, h, k => by
  simp only [Zfa, Yb] at h
  simp only [lkH]
  split
  ·exact Ya h.1
  ·exact Zdz h.2 k
theorem ZhE {k : Key} {ks : List Key} : ks.any (ZcD k) = true ↔ k ∈ ks := by
 rw [YK]
 exact ⟨fun ⟨q, h1, h2⟩ => by rw [ZaC.1 h2]; exact h1, fun h => ⟨k, h, ZaC.2 rfl⟩⟩
theorem Zpw (a b : List (Key × Blk)) (k : Key) : lkH (a ++ b) k = if k ∈ a.map (·.1) then lkH a k else lkH b k := by
 induction a with
 | nil => simp
 | cons p a ih =>
  obtain ⟨q, b'⟩ := p
  simp only [YaH, lkH, YN, Ys]
  cases hq : ZcD q k with
  | true => rw [if_pos (.inl (ZaC.1 hq).symm)]
  | false =>
   have : k ≠ q := fun e => by rw [ZaC.2 e.symm] at hq; cases hq
   grind
theorem ZbL {fr fl : List Key} : ∀ (hs : List (Key × Blk)) (ks : List Key) (k : Key), (k ∈ ks → lkH (ZbK ks fr fl hs) k = Zjt) ∧ (k ∉ ks → (lkH (ZbK ks fr fl hs) k = lkH hs k ∧ (k ∈ fl ∨ Zb0 fr (lkH hs k).cells = false)) ∨ lkH (ZbK ks fr fl hs) k = Zjt)
 | [], ks, k => ⟨fun _ => rfl, fun _ => .inr rfl⟩
 | (q, b) :: r, ks, k => by
  simp only [ZbK]
  split
  ·rename_i h1 h2
   have hqk : q ∉ ks := fun hm => by rw [ZhE.2 hm] at h1; cases h1
   simp only [lkH]
   cases hq : ZcD q k with
   | true =>
    have hq := ZaC.1 hq
    subst hq
    refine ⟨fun h => absurd h hqk, fun _ => .inl ⟨rfl, ?_⟩⟩
    simp only [YF, YR] at h2
    rcases h2 with h2 | h2
    ·exact .inl (ZhE.1 h2)
    grind
   | false => exact ZbL r ks k
  ·obtain ⟨h1, h2⟩ := ZbL (fr := fr) (fl := fl) r (q :: ks) k
   refine ⟨fun h => h1 (Yp _ h), fun h => ?_⟩
   by_cases hq : k = q
   ·grind
   ·rcases h2 (fun hm => (Ys.1 hm).elim hq h) with ⟨e1, e2⟩ | e
    ·have : ZcD q k = false := by
      cases hb : ZcD q k with
      | true => exact absurd (ZaC.1 hb).symm hq
      | false => rfl
     simp only [lkH, this]
     grind
    grind
theorem ZbX {r : Ren} : ∀ (hb2 : List (Key × Blk)) (H : Hp) (q : Key), (∀ p ∈ hb2, r.κ p.1 ≠ q) → ZbR r hb2 H q = H q
 | [], H, q, h => rfl
 | (k, b) :: rest, H, q, h => by
  simp only [ZbR]
  rw [ZbX rest _ q (fun p hp => h p (Yp _ hp)), Zab _ _ (fun e => h (k, b) (Yv ..) e.symm)]
theorem ZhN {r : Ren} {os : Nat} (hinj : ∀ q k : Key, okK os q = true → okK os k = true → q ≠ k → r.κ q ≠ r.κ k) : ∀ (hb2 : List (Key × Blk)) (H : Hp), Zf6 os hb2 = true → ∀ k b, (k, b) ∈ hb2 → ZbR r hb2 H (r.κ k) = Zaz r k b ∧ lkH hb2 k = b ∧ okK os k = true ∧ b.live = true
 | [], H, _, k, b, hm => by cases hm
 | (q, c) :: rest, H, hok, k, b, hm => by
  simp only [Zf6, Yb, YR] at hok
  obtain ⟨⟨⟨h1, h2⟩, h3⟩, h4⟩ := hok
  have hno : ∀ p ∈ rest, p.1 ≠ q := fun p hp e => by
   have : (rest.any fun p => ZcD q p.1) = true := YK.2 ⟨p, hp, ZaC.2 e.symm⟩
   rw [this] at h3; cases h3
  have hoks : ∀ (l : List (Key × Blk)), Zf6 os l = true → ∀ p ∈ l, okK os p.1 = true := by
   intro l
   induction l with
   | nil => intro _ p hp; cases hp
   | cons p l ih =>
    obtain ⟨p1, p2⟩ := p
    intro hl p hp
    simp only [Zf6, Yb] at hl
    rcases Ys.1 hp with rfl | hp
    ·exact hl.1.1.1
    ·exact ih hl.2 p hp
  simp only [ZbR]
  rcases Ys.1 hm with e | hm
  ·cases e
   refine ⟨?_, by simp only [lkH, ZaC.2 rfl], h1, h2⟩
   rw [ZbX rest _ _ (fun p hp => hinj _ _ (hoks rest h4 p hp) h1 (hno p hp)), Zaa]
  ·obtain ⟨g1, g2, g3, g4⟩ := ZhN hinj rest (updH H (r.κ q) (Zaz r q c)) h4 k b hm
   refine ⟨g1, ?_, g3, g4⟩
   have : ZcD q k = false := by
    cases hb : ZcD q k with
    | true => exact absurd (ZaC.1 hb).symm (hno _ hm)
    | false => rfl
   simp only [lkH, this]
   exact g2
theorem ZkV : ∀ {hb2 : List (Key × Blk)}, wrL C hb2 → ∀ p ∈ hb2, p.1.1 ≠ 1 → C.no (C.κ p.1)
 | (k, b) :: r, h, p, hp, hne => by
  simp only [wrL] at h
  split at h
  ·rename_i hk
   rcases Ys.1 hp with rfl | hp
   ·exact absurd (Ya hk) hne
   ·exact ZkV h p hp hne
  ·rcases Ys.1 hp with rfl | hp
   ·exact h.1
   ·exact ZkV h.2 p hp hne
theorem ZjQ {H : Hp} : ∀ {ks : List Key}, flL H ks → ∀ k ∈ ks, ZdU (H k).cells
 | q :: r, h, k, hk => by
  rcases Ys.1 hk with rfl | hk
  ·exact h.1
  ·exact ZjQ h.2 k hk
theorem Zce {os : Nat} {k : Key} (h : okK os k = true) : k.1 = 1 ∨ (k.1 = 0 ∧ k.2 < os) := by
 simp only [okK, YF, Yb] at h
 rcases h with h | ⟨h1, h2⟩
 ·exact .inl (Ya h)
 ·exact .inr ⟨Ya h1, Ye h2⟩
theorem Zh2 {fr : List Key} : ∀ (ss : List (Nat × AV)) (j : Nat), lkS (ZcG fr ss) j = .top ∨ (lkS (ZcG fr ss) j = lkS ss j ∧ Zcz fr (lkS ss j) = false)
 | [], j => .inl rfl
 | (i, x) :: r, j => by
  simp only [ZcG, lkS]
  split
  ·grind
  ·exact Zh2 r j
theorem Zh1 (hC : CxOk C) {os : Nat} {fx : List Nat} (hO : C.outs = os) (hF : C.fx = fx) {c : Code} {k : Nat} {ss : List (Nat × AV)} {hs : List (Key × Blk)} (dst : Option Nat) (fo : Operand) (aZ : List Operand) (hop : Zcx c k = some (dst, fo, aZ))
  (f : FuncId) (first caps xs : List AV) (hf : ev (lkS ss) fo = .fn (.func f) first caps) (hxs : first ++ aZ.map (ev (lkS ss)) ++ caps = xs) (ks : List Key) (hb : List (Key × Blk)) (hhb : (ks.map fun k => (k, lkH hs k)) = hb)
  {ι : Type} (I : ι → Prop) (xF : ι → AV) (hbF : ι → List (Key × Blk)) (fr fl : List Key) (hok0 : (ZeK fr fx && Zfa hs && Zi9 n dst && ks.all (okK os)) = true) (hok : ∀ i, (Zf6 os (hbF i) && ZpZ fr (hbF i)) = true) (hwr : ∀ i, wrL C (hbF i)) (hfl : flL (lkH hs) fl)
  (hcall : ∀ r : Ren, r.θ = C.θ → r.H0 = C.H0 → r.κ = C.κ → r.no = C.no → ∀ H', (∀ p ∈ hb, (H' (r.κ p.1)).g = r.γ p.1 + p.2.g ∧ (p.2.live = true → H' (r.κ p.1) = Zaz r p.1 p.2)) → (∀ k : Key, k.1 ≤ C.l → ¬ r.no k → H' k = r.H0 k) →
   ZaK P f (C.l + 1) (Zaf r xs) H' (fun y H'' => ∃ i, I i ∧ ∃ γ' : Key → Nat, (∀ k, k ∉ fr → γ' k = r.γ k) ∧ y = ren ⟨r.κ, γ', r.θ, r.H0, r.no⟩ (xF i) ∧ H'' = ZbR ⟨r.κ, γ', r.θ, r.H0, r.no⟩ (hbF i) H'))
  (h : ∀ i, I i → LO P n C c (k + 1) (mkS (Zlm dst (xF i) (ZcG fr ss)) (hbF i ++ ZbK ((hbF i).map (·.1)) fr fl hs)) Q) : LO P n C c k (mkS ss hs) Q := by
 subst hO
 subst hF
 simp only [Yb] at hok0
 obtain ⟨⟨⟨k3, k4⟩, k5⟩, k6⟩ := hok0
 intro γ σ act w hg hG hR
 have hr := hC.ren γ
 have hs' : ∀ j, σ.s j = ren (C.r γ) (lkS ss j) := fun j => (hG.s j).1 Zae
 have heval : ∀ y : Operand, ev σ.s y = ren (C.r γ) (ev (lkS ss) y) := fun y => Zeb (c := []) hG Zae (by cases y <;> rfl)
 unfold Zcx at hop
 split at hop
 case h_2 => cases hop
 rename_i o ho
 split at hop
 case h_2 => cases hop
 rename_i cl hgd hopc
 split at hop
 case h_2 => cases hop
 rename_i fo' hcal
 simp only [Yd, Y9] at hop
 obtain ⟨hd, rfl, rfl⟩ := hop
 rw [ZaQ] at ho
 have hlt : k < (Zbt c).toList.length := by
  grind
 have hrest : (Zbt c).toList.drop k = o :: (Zbt c).toList.drop (k + 1) := by
  rw [Y4 hlt]
  grind
 rw [hrest]
 have hinj : ∀ q k : Key, okK C.outs q = true → okK C.outs k = true → q ≠ k → (C.r γ).κ q ≠ (C.r γ).κ k := fun q k h1 h2 h3 => hr.ne (Zce h1) (Zce h2) h3
 have hA := hcall (C.r γ) rfl rfl rfl rfl σ.H (fun p hp => by
  rw [← hhb] at hp
  obtain ⟨q, hq, rfl⟩ := YB.1 hp
  have hq' := Zce (Yj.1 k6 q hq)
  refine ⟨?_, fun hl => hG.h q hl⟩
  obtain ⟨q1, q2⟩ := q
  simp only at hq'
  rcases hq' with rfl | ⟨rfl, h2⟩
  ·have := hG.g q2
   rw [← hr.own] at this
   exact this
  ·exact hG.go q2 h2) hG.o
 have hargs : Zaf (C.r γ) xs = Zaf (C.r γ) first ++ cl.args.toList.map (ev σ.s) ++ Zaf (C.r γ) caps := by
  rw [← hxs, Zbc, Zbc]
  congr 2
  rw [Zbj, Yar]
  exact YW fun y _ => (heval y).symm
 have hfe : ev σ.s fo' = .fn (.func f) (Zaf (C.r γ) first) (Zaf (C.r γ) caps) := by rw [heval, hf]; simp [ren]
 have hrop : rOp P C.l n o (fun σ' => ∃ i, I i ∧ ∃ γ' : Key → Nat, (∀ q, q ∉ fr → γ' q = γ q) ∧ σ' = ⟨Zve dst σ.s (ren (C.r γ') (xF i)), ZbR (C.r γ') (hbF i) σ.H⟩) σ := by
  unfold rOp
  rw [hopc]
  simp only [hcal, hfe]
  rw [hargs] at hA
  refine hA.mono fun y H'' ⟨i, hi, γ', e1, e2, e3⟩ => ?_
  unfold Zqh Zen
  rw [hd]
  cases dst with
  | none => exact ⟨i, hi, γ', e1, by rw [e3]; rfl⟩
  | some d => exact ⟨Ye k5, i, hi, γ', e1, by rw [e2, e3]; rfl⟩
 refine ZbZ (by simp [Region.wanted, hgd]) (ZbN hrop) hR fun σ' act' w' hK hR' => ?_
 obtain ⟨i, hi, γ', e1, rfl⟩ := hK
 have h := h i hi
 have hwr := hwr i
 have hok := hok i
 generalize hbF i = hb2 at h hwr hok hR'
 generalize xF i = x at h hR'
 simp only [Yb] at hok
 obtain ⟨k1, k2⟩ := hok
 have hsub : ∀ q, q ∈ fr → ∃ b, (q, b) ∈ hb2 := fun q hq => by
  obtain ⟨p, hp, hk⟩ := YK.1 (Yj.1 k2 q hq)
  rw [ZaC.1 hk]; exact ⟨p.2, hp⟩
 let τ2 : St := mkS (Zlm dst x (ZcG fr ss)) (hb2 ++ ZbK (hb2.map (·.1)) fr fl hs)
 have hlow : ∀ q, lkH (hb2 ++ ZbK (hb2.map (·.1)) fr fl hs) q = if q ∈ hb2.map (·.1) then lkH hb2 q else lkH (ZbK (hb2.map (·.1)) fr fl hs) q := fun q => Zpw _ _ _
 have hin : ∀ q, q ∈ hb2.map (·.1) → ∃ b, (q, b) ∈ hb2 := fun q hq => by obtain ⟨p, hp, rfl⟩ := YB.1 hq; exact ⟨p.2, hp⟩
 have hput : ∀ q b, (q, b) ∈ hb2 → ZbR (C.r γ') hb2 σ.H ((C.r γ').κ q) = Zaz (C.r γ') q b ∧ lkH hb2 q = b ∧ okK C.outs q = true ∧ b.live = true := ZhN (r := C.r γ') hinj hb2 σ.H k1
 have hkeep : ∀ q, q ∉ hb2.map (·.1) → okK C.outs q = true → ZbR (C.r γ') hb2 σ.H ((C.r γ').κ q) = σ.H ((C.r γ').κ q) ∧ γ' q = γ q := fun q hq hkq => by
  refine ⟨ZbX _ _ _ fun p hp => hinj _ _ (hput p.1 p.2 hp).2.2.1 hkq fun e => hq (YB.2 ⟨p, hp, e⟩), e1 q fun hf => ?_⟩
  grind
 have hgen : ∀ q, okK C.outs q = true → (σ.H (C.κ q)).g = γ q → (ZbR (C.r γ') hb2 σ.H (C.κ q)).g = γ' q + (lkH (hb2 ++ ZbK (hb2.map (·.1)) fr fl hs) q).g := fun q hkq hq0 => by
  rw [hlow]
  split
  ·rename_i hm
   obtain ⟨b, hb⟩ := hin q hm
   obtain ⟨a1, a2, _⟩ := hput q b hb
   rw [show C.κ q = (C.r γ').κ q from rfl, a1, a2]
   rfl
  ·rename_i hm
   obtain ⟨a1, a2⟩ := hkeep q hm hkq
   rw [show C.κ q = (C.r γ').κ q from rfl, a1, a2]
   have : (lkH (ZbK (hb2.map (·.1)) fr fl hs) q).g = 0 := by
    rcases (ZbL (fr := fr) (fl := fl) hs (hb2.map (·.1)) q).2 hm with ⟨e, _⟩ | e
    ·rw [e]; exact Zdz k4 q
    ·rw [e]; rfl
   rw [this]
   exact hq0
 have hG2 : RG (C.r γ') C.l C.outs [] τ2 ⟨fun j => ren (C.r γ') (τ2.s j), ZbR (C.r γ') hb2 σ.H⟩ := by
  refine ⟨fun j => ⟨fun _ => rfl, fun hn => absurd Zae hn⟩, fun q hq => ?_, fun d => ?_, fun i hi => ?_, fun q hq => ?_, fun q hq hn => ?_⟩
  ·show ZbR (C.r γ') hb2 σ.H ((C.r γ').κ q) = Zaz (C.r γ') q (lkH (hb2 ++ ZbK (hb2.map (·.1)) fr fl hs) q)
   replace hq : (lkH (hb2 ++ ZbK (hb2.map (·.1)) fr fl hs) q).live = true := hq
   rw [hlow] at hq ⊢
   split at hq
   ·grind
   ·rename_i hm
    rw [if_neg hm]
    rcases (ZbL (fr := fr) (fl := fl) hs (hb2.map (·.1)) q).2 hm with ⟨e, e'⟩ | e
    ·rw [e] at hq ⊢
     have hkq := hG.k q hq
     have hok : okK C.outs q = true := by
      obtain ⟨q1, q2⟩ := q
      simp only at hkq
      simp only [okK, YF, Yb]
      rcases hkq with rfl | ⟨rfl, h2⟩
      ·exact .inl rfl
      ·exact .inr ⟨rfl, Ybh h2⟩
     obtain ⟨a1, a2⟩ := hkeep q hm hok
     rw [a1]
     have hb := hG.h q hq
     have hcells : Zaf (C.r γ') (lkH hs q).cells = Zaf (C.r γ) (lkH hs q).cells := by
      rcases e' with e' | e'
      ·rw [ZaV (ZjQ hfl q e'), ZaV (ZjQ hfl q e')]
      ·exact Za8 (r := C.r γ) e1 _ e'
     show σ.H ((C.r γ).κ q) = _
     rw [hb]
     simp only [Zaz]
     rw [hcells, show (C.r γ').γ q = γ' q from rfl, a2]
     rfl
    ·rw [e] at hq; cases hq
  ·have := hgen (1, d) rfl (by
    have := hG.g d
    rw [show ((mkS ss hs).H (1, d)).g = 0 from Zdz k4 _] at this
    rw [hC.own]; exact this)
   rw [hC.own] at this
   exact this
  ·exact hgen (0, i) (by simp only [okK, YF, Yb]; exact .inr ⟨rfl, Ybh hi⟩) (by
    have := hG.go i hi
    rw [show ((mkS ss hs).H (0, i)).g = 0 from Zdz k4 _] at this
    exact this)
  ·replace hq : (lkH (hb2 ++ ZbK (hb2.map (·.1)) fr fl hs) q).live = true := hq
   rw [hlow] at hq
   split at hq
   ·rename_i hm
    obtain ⟨b, hb⟩ := hin q hm
    exact Zce (hput q b hb).2.2.1
   ·rename_i hm
    rcases (ZbL (fr := fr) (fl := fl) hs (hb2.map (·.1)) q).2 hm with ⟨e, e'⟩ | e
    ·rw [e] at hq; exact hG.k q hq
    ·rw [e] at hq; cases hq
  ·show ZbR (C.r γ') hb2 σ.H q = C.H0 q
   rw [ZbX _ _ _ fun p hp e => ?_]
   ·exact hG.o q hq hn
   ·by_cases h1 : p.1.1 = 1
    ·obtain ⟨⟨p1, p2⟩, p3⟩ := p
     simp only at h1
     subst h1
     rw [show (C.r γ').κ (1, p2) = (C.l + 1, p2) from hC.own p2] at e
     grind
    ·exact hn (by rw [← e]; exact ZkV hwr p hp h1)
 refine h γ' _ act' w' (hC.G γ γ' (fun i hi => e1 _ fun hm => ?_) hg) hG2 (R.weaken hR' fun j => ?_)
 ·have := Yj.1 k3 _ hm
  simp only [YR, Ybi] at this
  rcases this with h | h
  ·cases h
  ·have : (C.fx.any (Nat.beq i)) = true := YK.2 ⟨i, hi, by simp⟩
   grind
 ·have old : ren (C.r γ') (lkS (ZcG fr ss) j) = σ.s j ∨ ren (C.r γ') (lkS (ZcG fr ss) j) = .top := by
   rcases Zh2 (fr := fr) ss j with e | ⟨e, e'⟩
   ·right; rw [e]; simp [ren]
   ·left
    rw [e, hs' j]
    exact ZeM (r := C.r γ) e1 _ e'
  show ren (C.r γ') (lkS (Zlm dst x (ZcG fr ss)) j) = _ ∨ ren (C.r γ') (lkS (Zlm dst x (ZcG fr ss)) j) = .top
  cases dst with
  | none => exact old
  | some d =>
   simp only [Zlm, lkS, Zve, upd]
   cases hj : Nat.beq d j with
   | true =>
    have := Ya hj
    grind
   | false =>
    have : j ≠ d := fun e => by rw [e] at hj; simp at hj
    grind
theorem ZoV (hC : CxOk C) {os : Nat} {fx : List Nat} (hO : C.outs = os) (hF : C.fx = fx) {c : Code} {k : Nat} {ss : List (Nat × AV)} {hs : List (Key × Blk)} (dst : Option Nat) (fo : Operand) (aZ : List Operand) (hop : Zcx c k = some (dst, fo, aZ))
  (f : FuncId) (first caps xs : List AV) (hf : ev (lkS ss) fo = .fn (.func f) first caps) (hxs : first ++ aZ.map (ev (lkS ss)) ++ caps = xs) (ks : List Key) (hb : List (Key × Blk)) (hhb : (ks.map fun k => (k, lkH hs k)) = hb)
  (x : AV) (hb2 : List (Key × Blk)) (fr fl : List Key) (hok : (Zf6 os hb2 && ZpZ fr hb2 && ZeK fr fx && Zfa hs && Zi9 n dst && ks.all (okK os)) = true) (hwr : wrL C hb2) (hfl : flL (lkH hs) fl)
  (hcall : ∀ r : Ren, r.θ = C.θ → r.H0 = C.H0 → r.κ = C.κ → r.no = C.no → Zgi P C.l r f xs hb x hb2 fr)
  (h : LO P n C c (k + 1) (mkS (Zlm dst x (ZcG fr ss)) (hb2 ++ ZbK (hb2.map (·.1)) fr fl hs)) Q) : LO P n C c k (mkS ss hs) Q := by
 simp only [Yb] at hok
 obtain ⟨⟨⟨⟨⟨k1, k2⟩, k3⟩, k4⟩, k5⟩, k6⟩ := hok
 exact Zh1 hC hO hF dst fo aZ hop f first caps xs hf hxs ks hb hhb (ι := Unit) (fun _ => True) (fun _ => x) (fun _ => hb2) fr fl (by simp only [Yb]; exact ⟨⟨⟨k3, k4⟩, k5⟩, k6⟩) (fun _ => by simp only [Yb]; exact ⟨k1, k2⟩) (fun _ => hwr) hfl
  (fun r h1 h2 h3 h4 H' a b => (hcall r h1 h2 h3 h4 H' a b).mono fun y H'' hh => ⟨(), trivial, hh⟩) fun _ _ => h
end
def kOf (l : Nat) (ks : List Key) : Key → Key
 | (0, i) => match nth ks i with | some k => k | none => (0, 0)
 | (_ + 1, d) => (l + 1, d)
def gOf (gs : List Nat) : Key → Nat
 | (0, i) => match nth gs i with | some g => g | none => 0
 | (_ + 1, _) => 0
def rOf (l : Nat) (ks : List Key) (gs : List Nat) (θ : Nat → AV) (H : Hp) : Ren := ⟨kOf l ks, gOf gs, θ, H, fun k => k ∈ ks⟩
def NmO (l : Nat) (ks : List Key) (gs : List Nat) (r : Ren) : Prop := r.κ = kOf l ks ∧ ∀ i, i < ks.length → r.γ (0, i) = gOf gs (0, i)
def Zb5 (r : Ren) : Nat → List Blk → List Blk
 | _, [] => []
 | i, b :: bs => Zaz r (0, i) b :: Zb5 r (i + 1) bs
def ZgL (H : Hp) : List Key → List Blk → Hp
 | k :: ks, b :: bs => ZgL (updH H k b) ks bs
 | _, _ => H
theorem ZcM {r : Ren} {k : Key} {g : Nat} {e : TypeId} {sz : Nat} {cs : List AV} (h : ZdU cs) : Zaz r k ⟨g, true, e, sz, cs⟩ = ⟨r.γ k + g, true, e, sz, cs⟩ := by
 simp only [Zaz, ZaV h]
theorem Zc3 : ∀ (ks : List Key) (bs : List Blk) (H : Hp) (q : Key), q ∉ ks → ZgL H ks bs q = H q
 | [], bs, H, q, h => by cases bs <;> rfl
 | k :: ks, [], H, q, h => rfl
 | k :: ks, b :: bs, H, q, h => by
  simp only [ZgL]
  rw [Zc3 ks bs _ q (fun hm => h (Yp _ hm)), Zab _ _ (fun e => h (by rw [e]; exact Yv ..))]
theorem ZjE : ∀ (ks : List Key) (bs : List Blk) (H : Hp), ks.Nodup → ∀ (j : Nat) (k : Key) (b : Blk), ks[j]? = some k → bs[j]? = some b → ZgL H ks bs k = b
 | [], bs, H, _, j, k, b, h, _ => by simp at h
 | q :: ks, [], H, _, _, _, _, _, h => by simp at h
 | q :: ks, c :: bs, H, hn, j, k, b, hk, hb => by
  simp only [ZgL]
  rw [Ybd] at hn
  cases j with
  | zero =>
   simp only [YI, Yd] at hk hb
   subst hk; subst hb
   rw [Zc3 ks bs _ _ hn.1, Zaa]
  | succ j =>
   simp only [YY] at hk hb
   exact ZjE ks bs _ hn.2 j k b hk hb
theorem ZhX {r : Ren} : ∀ (bs : List Blk) (i j : Nat), (Zb5 r i bs)[j]? = (bs[j]?).map (Zaz r (0, i + j))
 | [], i, j => by simp [Zb5]
 | b :: bs, i, 0 => by simp [Zb5]
 | b :: bs, i, j + 1 => by
  simp only [Zb5, YY, ZhX bs (i + 1) j, show i + 1 + j = i + (j + 1) from by omega]
theorem Zed {P : Program} {T : Nat → Option TI} {n : Nat} {f : FuncId} {fn : Func} (rs : List ResultVar) (c : Code) {l : Nat} {xs : List AV} {H : Hp} {Post : AV → Hp → Prop} (ks : List Key) (gs : List Nat) (fx : List Nat) (θ : Nat → AV) (ys : List AV) (hs : List (Key × Blk)) (LPost : AV → List Blk → Prop)
  (hf : P.funcs[f]? = some fn) (hb : fn.body = some c) (hname : (fn.name == "runtime.NumGoroutine") = false) (hn : fn.ntmps = n) (hr : fn.results.toList = rs) (hx : xs.length ≤ n) (hT : TOk P T)
  (hks : ∀ k ∈ ks, k.1 ≤ l) (hnd : ks.Nodup) (hfx : ∀ i, i < ks.length → i ∈ fx) (hh : ∀ d, lkH hs (1, d) = Zjt) (hlv : ∀ k, (lkH hs k).live = true → k.1 = 0 ∧ k.2 < ks.length)
  (hH : ∀ i k, ks[i]? = some k → (H k).g = gOf gs (0, i) + (lkH hs (0, i)).g ∧ ((lkH hs (0, i)).live = true → H k = Zaz (rOf l ks gs θ H) (0, i) (lkH hs (0, i))))
  (hxs : Zaf (rOf l ks gs θ H) ys = xs)
  (h : ∀ C, CxOk C → C.outs = ks.length → C.fx = fx → C.l = l → C.H0 = H → C.θ = θ → C.κ = kOf l ks → C.no = (fun k => k ∈ ks) → LW P n C c (mkS (Zg5 0 ys) hs) (FQ T rs ks.length LPost))
  (hp : ∀ y b, LPost y b → b.length = ks.length ∧ (∀ x ∈ b, x.live = true) ∧ ∃ Y' bs', (∀ r, NmO l ks gs r → ren r y = Y') ∧ (∀ r, NmO l ks gs r → Zb5 r 0 b = bs') ∧ Post Y' (ZgL H ks bs')) : ZaK P f l xs H Post := by
 let C : Base → Cx := fun B => ⟨l, B, kOf l ks, θ, H, ks.length, fun k => k ∈ ks, fx, fun γ => ∀ i ∈ fx, γ (0, i) = gOf gs (0, i)⟩
 have hkO : ∀ i, i < ks.length → ks[i]? = some (kOf l ks (0, i)) := fun i hi => by
  show _ = some (match nth ks i with | some k => k | none => (0, 0))
  rw [ZaQ, Yc hi]
 have hlt : ∀ (i : Nat) (k : Key), ks[i]? = some k → i < ks.length := fun i k hi => by
  grind
 have hC : ∀ B, CxOk (C B) := fun B => by
  refine ⟨fun _ => rfl, fun i hi => hks _ (Yu (hkO i hi)), fun i j hi hj e => ?_, fun k hk => ?_, fun γ γ' he hg i hi => by rw [he i hi]; exact hg i hi⟩
  ·have h1 := hkO i hi
   have h2 := hkO j hj
   rw [show kOf l ks (0, i) = kOf l ks (0, j) from e] at h1
   have h3 : ks[i]? = ks[j]? := h1.trans h2.symm
   exact (List.getElem?_inj hi hnd).1 h3
  ·obtain ⟨i, hi⟩ := YJ.1 (show k ∈ ks from hk)
   grind
 refine ZhU rs C (γ := gOf gs) (LPost := LPost) (ys := ys) (hs := hs) hf hb hname hn hr hx hT hC (fun B => ⟨rfl, rfl, rfl, fun i _ => rfl⟩) (fun B => hxs) (fun _ => rfl) hh (fun B k hk => ?_) (fun B i hi => ?_) (fun B γ y b H' hg hy ho _ => ?_) (fun B => h _ (hC B) rfl rfl rfl rfl rfl rfl rfl)
 ·obtain ⟨h1, h2⟩ := hlv k hk
  obtain ⟨k1, k2⟩ := k
  simp only at h1 h2
  subst h1
  exact ⟨rfl, h2, (hH k2 _ (hkO k2 h2)).2 hk⟩
 ·grind
 ·obtain ⟨hbl, hbv, Y', bs', hY, hB, hp⟩ := hp y b hy
  have hnm : NmO l ks gs ((C B).r γ) := ⟨rfl, fun i hi => hg i (hfx i hi)⟩
  have e1 := hB _ hnm
  have e2 : H' = ZgL H ks bs' := by
   funext q
   by_cases hq : q ∈ ks
   ·obtain ⟨i, hi⟩ := YJ.1 hq
    have hi' := hlt i q hi
    have hb' : b[i]? = some b[i] := Yc (by omega)
    have h1 := ho.live i _ hb' (hbv _ (Yu hb'))
    have h2 : kOf l ks (0, i) = q := by
     grind
    rw [show (C B).κ (0, i) = q from h2] at h1
    rw [h1, ZjE ks bs' H hnd i q (Zaz ((C B).r γ) (0, i) b[i]) hi]
    rw [← e1, ZhX, hb', Yz]
    rfl
   ·rw [Zc3 ks bs' H q hq]
    exact ho.o q hq
  grind
theorem ZiY {P : Program} {T : Nat → Option TI} {n : Nat} {f : FuncId} {fn : Func} (rs : List ResultVar) (c : Code) {l : Nat} {xs : List AV} {H : Hp} {Post : AV → Hp → Prop} (ks : List Key) (gs : List Nat) (fx : List Nat) (θ : Nat → AV) (ys : List AV) (hs : List (Key × Blk)) (Y : AV) (bs : List Blk) {Y' : AV} {bs' : List Blk}
  (hf : P.funcs[f]? = some fn) (hb : fn.body = some c) (hname : (fn.name == "runtime.NumGoroutine") = false) (hn : fn.ntmps = n) (hr : fn.results.toList = rs) (hx : xs.length ≤ n) (hT : TOk P T)
  (hks : ∀ k ∈ ks, k.1 ≤ l) (hnd : ks.Nodup) (hfx : ∀ i, i < ks.length → i ∈ fx) (hh : ∀ d, lkH hs (1, d) = Zjt) (hlv : ∀ k, (lkH hs k).live = true → k.1 = 0 ∧ k.2 < ks.length)
  (hH : ∀ i k, ks[i]? = some k → (H k).g = gOf gs (0, i) + (lkH hs (0, i)).g ∧ ((lkH hs (0, i)).live = true → H k = Zaz (rOf l ks gs θ H) (0, i) (lkH hs (0, i))))
  (hxs : Zaf (rOf l ks gs θ H) ys = xs) (hbl : bs.length = ks.length) (hbv : ∀ b ∈ bs, b.live = true) (hY : ∀ r, NmO l ks gs r → ren r Y = Y') (hB : ∀ r, NmO l ks gs r → Zb5 r 0 bs = bs')
  (h : ∀ C, CxOk C → C.outs = ks.length → C.fx = fx → C.l = l → C.H0 = H → C.θ = θ → C.κ = kOf l ks → C.no = (fun k => k ∈ ks) → LW P n C c (mkS (Zg5 0 ys) hs) (FQ T rs ks.length (fun y b => y = Y ∧ b = bs)))
  (hp : Post Y' (ZgL H ks bs')) : ZaK P f l xs H Post := by
 exact Zed rs c ks gs fx θ ys hs (fun y b => y = Y ∧ b = bs) hf hb hname hn hr hx hT hks hnd hfx hh hlv hH hxs h fun y b ⟨e1, e2⟩ => by subst e1; subst e2; exact ⟨hbl, hbv, Y', bs', hY, hB, hp⟩
section
variable {P : Program} {l : Nat} {r : Ren} {f : FuncId} {xs xs' : List AV} {hb hb2 : List (Key × Blk)} {x x' : AV}
theorem Zmj (h1 : Zaf r xs = xs') (h2 : ren r x = x') (h : ∀ H', (∀ p ∈ hb, (H' (r.κ p.1)).g = r.γ p.1 + p.2.g ∧ (p.2.live = true → H' (r.κ p.1) = Zaz r p.1 p.2)) → (∀ k : Key, k.1 ≤ l → ¬ r.no k → H' k = r.H0 k) → ZaK P f (l + 1) xs' H' (fun y H'' => y = x' ∧ H'' = ZbR r hb2 H')) :
  Zgi P l r f xs hb x hb2 [] := fun H' hb ho => by
 rw [h1]
 exact (h H' hb ho).mono fun y H'' ⟨e1, e2⟩ => ⟨r.γ, fun _ _ => rfl, by rw [e1, ← h2], e2⟩
end
theorem Zn0 {r : Ren} {k : Key} {vs : List AV} (h : (Zaf r vs).all (AV.low (r.κ k).1) = true) : Zto r k vs := h
theorem ZiW {α : Type} (e : α → List D) (xs : List α) : Zex (Zag e xs) := fun x hx => by
 obtain ⟨d, _, rfl⟩ := YB.1 hx; rfl
def Zm3 (n : Nat) : List (Key × Blk) → Bool
 | [] => true
 | (k, _) :: r => Nat.beq k.1 0 && Nat.ble (k.2 + 1) n && Zm3 n r
theorem ZgZ {n : Nat} : ∀ {hs : List (Key × Blk)}, Zm3 n hs = true → ∀ k, (lkH hs k).live = true → k.1 = 0 ∧ k.2 < n
 | [], _, k, h => by simp [lkH, Zjt] at h
 | (q, b) :: r, hi, k, h => by
  simp only [Zm3, Yb] at hi
  simp only [lkH] at h
  split at h
  ·rename_i hq
   have hq := ZaC.1 hq
   subst hq
   exact ⟨Ya hi.1.1, Ye hi.1.2⟩
  ·exact ZgZ hi.2 k h
theorem Zei {n : Nat} : ∀ {hs : List (Key × Blk)}, Zm3 n hs = true → ∀ d, lkH hs (1, d) = Zjt
 | [], _, d => rfl
 | (q, b) :: r, hi, d => by
  simp only [Zm3, Yb] at hi
  simp only [lkH]
  split
  ·rename_i hq
   have hq := ZaC.1 hq
   subst hq
   have := Ya hi.1.1
   grind
  ·exact Zei hi.2 d
def HOk (H : Hp) (r : Ren) (hs : List (Key × Blk)) : Nat → List Key → Prop
 | _, [] => True
 | i, k :: ks => ((H k).g = r.γ (0, i) + (lkH hs (0, i)).g ∧ ((lkH hs (0, i)).live = true → H k = Zaz r (0, i) (lkH hs (0, i)))) ∧ HOk H r hs (i + 1) ks
theorem ZkT {H : Hp} {r : Ren} {hs : List (Key × Blk)} : ∀ {ks : List Key} {i : Nat}, HOk H r hs i ks → ∀ j k, ks[j]? = some k → (H k).g = r.γ (0, i + j) + (lkH hs (0, i + j)).g ∧ ((lkH hs (0, i + j)).live = true → H k = Zaz r (0, i + j) (lkH hs (0, i + j)))
 | [], i, _, j, k, h => by simp at h
 | q :: ks, i, h, 0, k, hk => by
  simp only [YI, Yd] at hk
  subst hk
  exact h.1
 | q :: ks, i, h, j + 1, k, hk => by
  have := ZkT h.2 j k (by simpa using hk)
  grind
def ZoY (l : Nat) : List Key → Prop
 | [] => True
 | k :: ks => k.1 ≤ l ∧ ZoY l ks
theorem Ze8 {l : Nat} : ∀ {ks : List Key}, ZoY l ks → ∀ k ∈ ks, k.1 ≤ l
 | q :: ks, h, k, hk => by
  rcases Ys.1 hk with rfl | hk
  ·exact h.1
  ·exact Ze8 h.2 k hk
def Zfu : Nat → List Nat
 | 0 => []
 | n + 1 => Zfu n ++ [n]
theorem Zfh : ∀ {n i : Nat}, i < n → i ∈ Zfu n
 | n + 1, i, h => by
  simp only [Zfu, Yai, YX]
  rcases Yo i n with h' | h'
  ·exact .inl (Zfh h')
  grind
theorem Zhf {P : Program} {T : Nat → Option TI} {n : Nat} {f : FuncId} {fn : Func} (rs : List ResultVar) (c : Code) {l : Nat} {xs : List AV} {H : Hp} {Post : AV → Hp → Prop} (ks : List Key) (gs : List Nat) (os : Nat) (θ : Nat → AV) (ys : List AV) (hs : List (Key × Blk)) (Y : AV) (bs : List Blk) {Y' : AV} {bs' : List Blk}
  (hf : P.funcs[f]? = some fn) (hb : fn.body = some c) (hname : (fn.name == "runtime.NumGoroutine") = false) (hn : fn.ntmps = n) (hr : fn.results.toList = rs) (hx : xs.length ≤ n) (hT : TOk P T) (hos : ks.length = os)
  (hks : ZoY l ks) (hnd : ks.Nodup) (hin : Zm3 os hs = true) (hH : HOk H (rOf l ks gs θ H) hs 0 ks) (hxs : Zaf (rOf l ks gs θ H) ys = xs) (hbl : bs.length = os) (hbv : ∀ b ∈ bs, b.live = true) (hY : ∀ r, NmO l ks gs r → ren r Y = Y') (hB : ∀ r, NmO l ks gs r → Zb5 r 0 bs = bs')
  (h : ∀ C, CxOk C → C.outs = os → C.fx = Zfu os → C.l = l → C.H0 = H → C.θ = θ → C.κ = kOf l ks → C.no = (fun k => k ∈ ks) → LW P n C c (mkS (Zg5 0 ys) hs) (FQ T rs os (fun y b => y = Y ∧ b = bs)))
  (hp : Post Y' (ZgL H ks bs')) : ZaK P f l xs H Post := by
 subst hos
 exact ZiY rs c ks gs (Zfu ks.length) θ ys hs Y bs hf hb hname hn hr hx hT (Ze8 hks) hnd (fun i hi => Zfh hi) (Zei hin) (ZgZ hin) (fun i k hk => by have := ZkT hH i k hk; rw [Yz] at this; exact this) hxs hbl hbv hY hB h hp
theorem ZiQ {α : Type} {e e' : α → List D} {xs : List α} {j sz : Nat} {x : α} (hx : xs[j]? = some x) (hl : ∀ x, (e x).length = sz) (he : ∀ x, e x = e' x) : ZbD (Zag e xs) (j * sz) ((e' x).map .d) := by
 have hj : j < xs.length := by
  grind
 have := Zg3 (z := x) hj hl he
 grind
theorem ZoR {P : Program} {l l1 : Nat} {no no1 : Key → Prop} {H H1 : Hp} {c : AV} {aZ : List AV} {y : AV} (h : Zll P l no H c aZ y) (hl : l ≤ l1) (hno : ∀ q : Key, q.1 ≤ l → ¬ no q → ¬ no1 q) (hH : ∀ q : Key, q.1 ≤ l → ¬ no q → H1 q = H q) : Zll P l1 no1 H1 c aZ y := by
 obtain ⟨f, first, caps, e, h⟩ := h
 exact ⟨f, first, caps, e, fun l' H' hl' ho => h l' H' (Yac hl hl') fun k hk hn => by rw [ho k (Yac hk hl) (hno k hk hn), hH k hk hn]⟩
def Zq6 : Code → Operand
 | .cond o _ _ => o
 | _ => .tmp 0
def Zdq (c : Code) (k : Nat) : Option Nat := match Zcx c k with | some (d, _, _) => d | none => none
def callF (c : Code) (k : Nat) : Operand := match Zcx c k with | some (_, f, _) => f | none => .tmp 0
def Zfv (c : Code) (k : Nat) : List Operand := match Zcx c k with | some (_, _, xs) => xs | none => []
theorem Zly {P : Program} {n : Nat} {C : Cx} {Q : Exit → St → Prop} (hC : CxOk C) {os : Nat} {fx : List Nat} (hO : C.outs = os) (hF : C.fx = fx) {c : Code} {k : Nat} {ss : List (Nat × AV)} {hs : List (Key × Blk)}
  (f : FuncId) (first caps xs : List AV) (hop : Zcx c k = some (Zdq c k, callF c k, Zfv c k)) (hf : ev (lkS ss) (callF c k) = .fn (.func f) first caps) (hxs : first ++ (Zfv c k).map (ev (lkS ss)) ++ caps = xs) (ks : List Key) (hb : List (Key × Blk)) (hhb : (ks.map fun k => (k, lkH hs k)) = hb)
  (x : AV) (hb2 : List (Key × Blk)) (fr fl : List Key) (hok : (Zf6 os hb2 && ZpZ fr hb2 && ZeK fr fx && Zfa hs && Zi9 n (Zdq c k) && ks.all (okK os)) = true) (hwr : wrL C hb2) (hfl : flL (lkH hs) fl)
  (hcall : ∀ r : Ren, r.θ = C.θ → r.H0 = C.H0 → r.κ = C.κ → r.no = C.no → Zgi P C.l r f xs hb x hb2 fr)
  (h : LO P n C c (k + 1) (mkS (Zlm (Zdq c k) x (ZcG fr ss)) (hb2 ++ ZbK (hb2.map (·.1)) fr fl hs)) Q) : LO P n C c k (mkS ss hs) Q :=
 ZoV hC hO hF _ _ _ hop f first caps xs hf hxs ks hb hhb x hb2 fr fl hok hwr hfl hcall h
end Go.Eng
namespace Go.Eng
open Go
set_option linter.all false
end Go.Eng
namespace Go.Eng
set_option linter.all false
open Go Go.RowKit Go.Shelf
theorem Zli {i : Int} {len sz : Nat} (h0 : 0 ≤ i) (h : i < len) : Zp0 i len 0 sz (i.toNat * sz) := ⟨h0, h, by simp⟩
end Go.Eng
namespace Go.Eng
set_option linter.all false
theorem Zfx {α : Type} {l : List α} {p : α → Bool} : ((match l.findIdx? p with | some k => (k : Int) | none => -1) ≥ 0) ↔ l.any p = true := by
 rw [YK]
 cases h : l.findIdx? p with
 | none =>
  rw [List.findIdx?_eq_none_iff] at h
  constructor
  ·intro e; exact absurd e (by decide)
  ·rintro ⟨x, hx, hp⟩; rw [h x hx] at hp; cases hp
 | some k =>
  obtain ⟨h1, h2, _⟩ := YaG.1 h
  exact ⟨fun _ => ⟨l[k], List.getElem_mem h1, h2⟩, fun _ => Int.natCast_nonneg k⟩
theorem Zlp {α : Type} {e e' : α → List D} {xs : List α} {j sz : Nat} {y : α} (hj : j < xs.length) (hl : ∀ x, (e x).length = sz) (he : ∀ x, e x = e' x) : StS (Zag e xs) (j * sz) ((e' y).map .d) (Zag e (xs.set j y)) := by
 rw [← he]; exact ZnY hj hl
theorem Zf0 {α : Type} {sz : Nat} {e e' : α → List D} {y : α} (C : List AV) (hl : ∀ x, (e x).length = sz) (he : ∀ x, e x = e' x) : ZiE sz C (.d (.list [e' y])) 1 (Zag e [y]) := by
 rw [Zl9, he]; exact ZlK C (by rw [← he]; exact hl y)
theorem Zom {α : Type} {e : α → List D} {xs : List α} {n m off sz : Nat} (hn : n = m) (h : off ≤ xs.length) (hl : ∀ x, (e x).length = sz) : n = m ∧ off * sz ≤ (Zag e xs).length ∧ (Zag e xs).drop (off * sz) = Zag e (xs.drop off) :=
 ⟨hn, by rw [ZbB hl]; exact YM _ h, ZcW hl xs off⟩
end Go.Eng
namespace Go.Eng
set_option linter.all false
open Go Go.RowKit
section
variable {P : Program} {T : Nat → Option TI} {n : Nat} {C : Cx} {τ : St} {Q : Exit → St → Prop}
theorem Zo3 (hC : CxOk C) {os : Nat} {fx : List Nat} (hO : C.outs = os) (hF : C.fx = fx) {c : Code} (a : AT) (lf : Lf) (q : Ren → (St → Prop) → Prop)
  (hq : ∀ r Φ, Zcb r os a τ (fun τ _ => Zeo fx lf τ Φ) = q r Φ) (h : ∀ r, r.θ = C.θ → r.H0 = C.H0 → r.κ = C.κ → r.no = C.no → q r (fun τ' => LW P n C c τ' Q)) : LW P n C c τ Q := by
 subst hO
 subst hF
 intro γ σ hg hG
 have h1 := h (C.r γ) rfl rfl rfl rfl
 rw [← hq] at h1
 obtain ⟨τ₁, a₁, σ₁, h2, hG1, hw1⟩ := Zai (n := n) hC a h1 hG
 obtain ⟨γ', τ₄, σ₄, j0, j1, j2, j3⟩ := Za1 (n := n) hC h2 hg hG1
 exact AWp.weak (j1 γ' σ₄ j0 j2) (hw1.trans j3)
end
end Go.Eng
