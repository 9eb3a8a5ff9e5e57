import Derived.Test.YthhipejbnbochaaCv10
import Derived.Shelf.Spec.SlicesGrow
import Derived.Test.YthhipejbnbochaaCv00
namespace Go.Eng
set_option linter.all false
open Go Go.RowKit
def cAt : List Nat → Code → Code
 | [], c => c
 | 0 :: p, .seq a _ => cAt p a
 | _ :: p, .seq _ b => cAt p b
 | 0 :: p, .cond _ a _ => cAt p a
 | _ :: p, .cond _ _ b => cAt p b
 | _ :: p, .block _ c => cAt p c
 | _ :: p, .loop c => cAt p c
 | _ :: p, .scope c => cAt p c
 | _, c => c
def Zal (f : Func) : Code := f.body.getD .skip
def Zah {α : Type} (e : α → List D) (xs : List α) : List AV := ((xs.map e).flatten).map .d
theorem Zag {α : Type} (e : α → List D) (xs : List α) : Zep (Zah e xs) := fun x hx => by
 obtain ⟨d, _, rfl⟩ := Yq.1 hx; rfl
theorem Zb3 {α : Type} {e : α → List D} {sz : Nat} (he : ∀ x, (e x).length = sz) (xs : List α) : (Zah e xs).length = xs.length * sz := by
 unfold Zah
 induction xs with
 | nil => simp
 | cons x xs ih => simp only [Yj, YQ, Yat, List.length_append, he, Yac, YB] at ih ⊢; omega
theorem Zi8 {α : Type} (e : α → List D) (xs ys : List α) : Zah e (xs ++ ys) = Zah e xs ++ Zah e ys := by simp [Zah]
section
variable {P : Program} {n : Nat} {C : Cx} {τ : St} {Q : Exit → St → Prop}
theorem ZmT {c : Code} (id : Nat) (x : Code) (hc : c = .block id x) (h : LW P n C x τ (fun e τ' => match e with | .exit i => (match Nat.beq i id with | true => Q .normal τ' | false => Q (.exit i) τ') | e => Q e τ')) : LW P n C c τ Q := hc ▸ Zpt (h.mono fun e τ' hq => by
 cases e with
 | exit i =>
  simp only at hq ⊢
  split at hq
  ·rename_i he; rw [if_pos (Ya he)]; exact hq
  ·rename_i he; rw [if_neg (by rintro rfl; simp at he)]; exact hq
 | _ => exact hq)
end
theorem ZfH {P : Program} {T : Nat → Option TI} {n : Nat} {f : FuncId} {fn : Func} (rs : List ResultVar) (c : Code) {l : Nat} {xs : List AV} {H : Hp} {Post : AV → Hp → Prop} (θ : Nat → AV) (ys : List AV)
  (hf : P.funcs[f]? = some fn) (hb : fn.body = some c) (hname : (fn.name == "runtime.NumGoroutine") = false) (hn : fn.ntmps = n) (hr : fn.results.toList = rs) (hx : xs.length ≤ n) (hT : TOk P T)
  (hxs : Zaj ⟨fun k => (l + 1, k.2), fun _ => 0, θ, H, fun _ => False⟩ ys = xs) (h : ∀ B : Base, LW P n (cxP l θ H B) c (mkS (ZhU 0 ys) []) (FQ T rs 0 (fun y _ => Post y H))) : ZaP P f l xs H Post :=
 Zid rs (cxP l θ H) (γ := fun _ => 0) (LPost := fun y _ => Post y H) hf hb hname hn hr hx hT (fun B => Ze2 l B θ H) (fun B => ⟨rfl, rfl, rfl, trivial⟩) (fun B => hxs) (fun _ => rfl) (fun _ => rfl) (fun B k hk => by simp [lkH, ZkF] at hk) (fun B i hi => absurd hi (Yar _))
  (fun B γ y bs H' _ hp ho hy => by rw [hy rfl, Zoq ho]; exact hp) h
theorem ZsT {α : Type} (e : α → List D) (xs : List α) : EqI ((xs.map e).length : Nat) xs.length := by simp [EqI]
theorem Zlv {α : Type} {e e' : α → List D} {xs : List α} {i : Nat} {x : α} (hx : xs[i]? = some x) (he : ∀ x, e x = e' x) : Zqx (xs.map e) (i : Nat) (e' x) := ⟨by omega, by simp [hx, he]⟩
theorem ZsY {α : Type} {e e' : α → List D} {xs : List α} {i : Nat} {z : α} (hi : i < xs.length) (he : ∀ x, e x = e' x) : Zqx (xs.map e) (i : Nat) (e' (xs.getD i z)) := by
 refine Zlv ?_ he
 grind
theorem ZpC {a r : Int} (h : a = r) (h1 : -9223372036854775808 ≤ r) (h2 : r < 9223372036854775808) : ZbX .i64 a r := by
 subst h; exact IntWalk.i64_in _ ⟨h1, by omega⟩
theorem ZxA {i len sz : Nat} (h : i < len) : ZtF (i : Nat) len 0 sz (i * sz) := ⟨by omega, by omega, by simp⟩
theorem ZnP {sz : Nat} {e : List D} (C : List AV) (he : e.length = sz) : Zjb sz C (.d (.list [e])) 1 (e.map .d) := by
 refine ⟨Yk.2 fun x hx => ?_, fun q hq => ?_, rfl, by simp⟩
 ·obtain ⟨d, _, rfl⟩ := Yq.1 hx; rfl
 grind
theorem Zgr {α : Type} {sz : Nat} {e : α → List D} (C : List AV) (xs : List α) (he : ∀ x, (e x).length = sz) : Zjb sz C (.d (.list (xs.map e))) xs.length (Zah e xs) := by
 refine ⟨Yk.2 fun x hx => ?_, fun q hq => ?_, by simp, rfl⟩
 ·obtain ⟨d, _, rfl⟩ := Yq.1 hx; rfl
 grind
theorem ZnW {α : Type} {sz : Nat} {e : α → List D} (k : Key) (g : Nat) (xs : List α) (he : ∀ x, (e x).length = sz) : Zjb sz (Zah e xs) (.ref k g 0 xs.length) xs.length (Zah e xs) := by
 refine ⟨Yk.2 fun x hx => ?_, rfl, by rw [Zb3 he]; simp, by rw [Yae, YaB, ← Zb3 he xs, YaV]⟩
 obtain ⟨d, _, rfl⟩ := Yq.1 hx; rfl
theorem Zpl {α : Type} {sz byt : Nat} {e : α → List D} (xs ys : List α) {n' : Nat} (he : ∀ x, (e x).length = sz) (hn : xs.length + ys.length = n') (hb : n' * byt ≤ 140737488355328) :
  Ztv (Zah e xs) 0 xs.length ys.length sz byt (Zah e ys) (Zah e (xs ++ ys)) n' :=
 ⟨by rw [Zb3 he, Yy], by rw [Yae, YaB, Zi8], hn, hb⟩
theorem ZoG {α : Type} (e : α → List D) (x : α) : Zah e [x] = (e x).map .d := by simp [Zah]
theorem Zlq {α : Type} {sz : Nat} {e : α → List D} (xs : List α) (hz : sz ≠ 0) (he : ∀ x, (e x).length = sz) : FzR (Zah e xs) 0 xs.length sz (xs.map e) :=
 ⟨by simp, hz, fun q hq => by obtain ⟨x, _, rfl⟩ := Yq.1 hq; exact he x, by rw [Zb3 he]; simp, by rw [Yae, YaB, ← Zb3 he xs, YaV]; rfl⟩
theorem Zol {α : Type} {e e' : α → List D} {xs : List α} {i : Int} {z : α} (h0 : 0 ≤ i) (hi : i < xs.length) (he : ∀ x, e x = e' x) : Zqx (xs.map e) i (e' (xs.getD i.toNat z)) := by
 have h := ZsY (e := e) (e' := e') (xs := xs) (i := i.toNat) (z := z) (by omega) he
 grind
theorem ZeO {α : Type} {sz byt c : Nat} {e : α → List D} {news : List AV} (xs ys : List α) (he : ∀ x, (e x).length = sz) (hc : ys.length = c) (hn : news = Zah e ys) (hb : (xs.length + ys.length) * byt ≤ 140737488355328) :
  Ztv (Zah e xs) 0 xs.length c sz byt news (Zah e (xs ++ ys)) (xs ++ ys).length := by
 subst hc; subst hn
 exact Zpl xs ys he (by rw [List.length_append]) (by rw [List.length_append]; exact hb)
section
variable {P : Program} {l : Nat} {r : Ren} {f : FuncId} {xs xs' : List AV} {hb : List (Key × Blk)} {x x' : AV}
def ZnB (P : Program) (l : Nat) (no : Key → Prop) (H : Hp) (c : AV) (aZ : List AV) (y : AV) : Prop :=
 ∃ f first caps, c = .fn (.func f) first caps ∧ ∀ l' H', l ≤ l' → (∀ k : Key, k.1 ≤ l → ¬ no k → H' k = H k) → ZaP P f l' (first ++ aZ ++ caps) H' (fun y' H'' => y' = y ∧ H'' = H')
theorem ZnM {i : Nat} {c : AV} (hθ : r.θ i = c) (h : ZnB P l r.no r.H0 c xs' x') (h1 : Zaj r xs = xs') (h2 : ren r x = x') : Zlj P l r i xs hb x := by
 obtain ⟨f, first, caps, rfl, h⟩ := h
 exact ⟨f, first, caps, hθ, fun H' _ ho => by rw [h1, h2]; exact h (l + 1) H' (Nat.le_succ l) ho⟩
end
section
variable {P : Program} {T : Nat → Option TI} {n : Nat} {C : Cx} {τ : St} {Q : Exit → St → Prop}
theorem Zrv (hC : CxOk C) (hT : TOk P T) (hm : P.follows .mixedOrders = true) {os : Nat} {fx : List Nat} (hO : C.outs = os) (hF : C.fx = fx) {c : Code} (a : AT) (lf lx : Lf) (rs : List ResultVar) {Post : AV → List Blk → Prop} (q : Ren → (Exit → St → Prop) → (AV → List Blk → Prop) → Prop)
  (hq : ∀ r Q Post, Zcx P T C.l n os r c a τ (KB T rs os fx r Post lf lx Q) = q r Q Post) (hQ : ∀ τ, FQ T rs os Post .ret τ → Q .ret τ) (h : ∀ r, r.θ = C.θ → r.H0 = C.H0 → r.κ = C.κ → r.no = C.no → q r Q Post) : LW P n C c τ Q :=
 Zur hC hT hm a lf lx (by rw [hO]; exact hQ) (fun γ => by rw [hO, hF, hq]; exact h _ rfl rfl rfl rfl)
theorem Zq0 (hC : CxOk C) (hT : TOk P T) (hm : P.follows .mixedOrders = true) {os : Nat} (hO : C.outs = os) {c : Code} (a : AT) (rs : List ResultVar) {Post : AV → List Blk → Prop} (q : Ren → (AV → List Blk → Prop) → Prop)
  (hq : ∀ r Post, Zcx P T C.l n os r c a τ (KF T rs os Post) = q r Post) (h : ∀ r, r.θ = C.θ → r.H0 = C.H0 → r.κ = C.κ → r.no = C.no → q r Post) : LW P n C c τ (FQ T rs os Post) := by
 subst hO
 exact Zwo hC hT hm a (fun γ => by rw [hq]; exact h _ rfl rfl rfl rfl)
mutual
theorem Zn0 {H : Hp} : ∀ (x : AV) {a : AT} {K K' : AV → AT → Prop}, (∀ y a, K y a → K' y a) → frz H x a K → frz H x a K'
 | .d x, a, K, K', hk, h => hk _ _ h
 | .e0, a, K, K', hk, h => hk _ _ h
 | .agg xs, a, K, K', hk, h => Zg0 xs (fun ys a h => hk _ _ h) h
 | .ref k g off m, a, K, K', hk, h => by
  unfold frz at h ⊢
  grind
 | .top, a, K, K', hk, h => by simp only [frz] at h
 | .p _, a, K, K', hk, h => by simp only [frz] at h
 | .ptr _ _ _, a, K, K', hk, h => by simp only [frz] at h
 | .mp k g, a, K, K', hk, h => by
  unfold frz at h ⊢
  grind
 | .iptr _ _, a, K, K', hk, h => by simp only [frz] at h
 | .fn _ _ _, a, K, K', hk, h => by simp only [frz] at h
 | .tup _, a, K, K', hk, h => by simp only [frz] at h
theorem Zg0 {H : Hp} : ∀ (xs : List AV) {a : AT} {K K' : List AV → AT → Prop}, (∀ y a, K y a → K' y a) → ZpQ H xs a K → ZpQ H xs a K'
 | [], a, K, K', hk, h => hk _ _ h
 | x :: xs, a, K, K', hk, h => by
  simp only [ZpQ] at h ⊢
  exact Zn0 x (fun y a h => Zg0 xs (fun ys a h => hk _ _ h) h) h
end
end
end Go.Eng
namespace Go.Eng
set_option linter.all false
open Go Go.RowKit
theorem ZbG {α : Type} (e : α → List D) (x : α) (xs : List α) : Zah e (x :: xs) = (e x).map .d ++ Zah e xs := by simp [Zah]
theorem Zdy {α : Type} {e : α → List D} {sz : Nat} (hl : ∀ x, (e x).length = sz) : ∀ (xs : List α) (j : Nat), (Zah e xs).drop (j * sz) = Zah e (xs.drop j)
 | [], j => by simp [Zah]
 | x :: xs, 0 => by simp
 | x :: xs, j + 1 => by
  have h1 : ((e x).map AV.d).length = sz := by rw [Yj, hl]
  rw [ZbG, YB, Yba, Ybn, ← List.drop_drop, List.drop_left' h1, Zdy hl xs j]
  rfl
theorem ZgD {α : Type} {e : α → List D} {sz : Nat} (hl : ∀ x, (e x).length = sz) : ∀ (xs : List α) (j : Nat), (Zah e xs).take (j * sz) = Zah e (xs.take j)
 | [], j => by simp [Zah]
 | x :: xs, 0 => by simp [Zah]
 | x :: xs, j + 1 => by
  have h1 : ((e x).map AV.d).length = sz := by rw [Yj, hl]
  rw [ZbG, List.take_succ_cons, ZbG, YB, Yba, Ybn, List.take_append, h1, Nat.add_sub_cancel_left, ZgD hl xs j, Yaa (by omega)]
theorem Zrl {α : Type} {xs : List α} {j : Nat} {z : α} (hj : j < xs.length) : xs.drop j = xs.getD j z :: xs.drop (j + 1) := by
 rw [Y0 hj, YO, Yb hj]; rfl
theorem ZhK {α : Type} {e e' : α → List D} {xs : List α} {j sz : Nat} {z : α} (hj : j < xs.length) (hl : ∀ x, (e x).length = sz) (he : ∀ x, e x = e' x) : Zcc (Zah e xs) (j * sz) ((e' (xs.getD j z)).map .d) := by
 unfold Zcc
 rw [Zdy hl, Zrl (z := z) hj, ZbG, he, List.take_left]
theorem ZsU {α : Type} {e : α → List D} {xs : List α} {j sz : Nat} {y : α} (hj : j < xs.length) (hl : ∀ x, (e x).length = sz) : StS (Zah e xs) (j * sz) ((e y).map .d) (Zah e (xs.set j y)) := by
 have h1 : ((e y).map AV.d).length = sz := by rw [Yj, hl]
 have h2 : (j + 1) * sz ≤ xs.length * sz := YN _ hj
 rw [YB, Yba] at h2
 refine ⟨by rw [h1, Zb3 hl]; omega, ?_⟩
 rw [h1, ZgD hl, show j * sz + sz = (j + 1) * sz from by rw [YB, Yba], Zdy hl, List.set_eq_take_append_cons_drop, if_pos hj, Zi8, ZbG, YY]
def Zcs (r : Ren) : List (Key × Blk) → Hp → Hp
 | [], H => H
 | (k, b) :: rest, H => Zcs r rest (updH H (r.κ k) (ZaD r k b))
def ZgG (P : Program) (l : Nat) (r : Ren) (f : FuncId) (xs : List AV) (hb : List (Key × Blk)) (x : AV) (hb2 : List (Key × Blk)) (fr : List Key) : Prop :=
 ∀ H', (∀ p ∈ hb, (H' (r.κ p.1)).g = r.γ p.1 + p.2.g ∧ (p.2.live = true → H' (r.κ p.1) = ZaD r p.1 p.2)) → (∀ k : Key, k.1 ≤ l → ¬ r.no k → H' k = r.H0 k) →
  ZaP P f (l + 1) (Zaj r xs) H' (fun y H'' => ∃ γ' : Key → Nat, (∀ k, k ∉ fr → γ' k = r.γ k) ∧ y = ren ⟨r.κ, γ', r.θ, r.H0, r.no⟩ x ∧ H'' = Zcs ⟨r.κ, γ', r.θ, r.H0, r.no⟩ hb2 H')
mutual
def Zdc (fr : List Key) : AV → Bool
 | .ref k _ _ _ => fr.any (Zdl k)
 | .ptr k _ _ => fr.any (Zdl k)
 | .mp k _ => fr.any (Zdl k)
 | .fn _ xs ys => Zcw fr xs || Zcw fr ys
 | .agg xs => Zcw fr xs
 | .tup xs => Zcw fr xs
 | .top => false
 | .d _ => false
 | .e0 => false
 | .p _ => false
 | .iptr _ _ => false
def Zcw (fr : List Key) : List AV → Bool
 | [] => false
 | x :: xs => Zdc fr x || Zcw fr xs
end
def Zdv (fr : List Key) : List (Nat × AV) → List (Nat × AV)
 | [] => []
 | (j, x) :: r => (j, match Zdc fr x with | true => .top | false => x) :: Zdv fr r
def Zcj (ks fr fl : List Key) : List (Key × Blk) → List (Key × Blk)
 | [] => []
 | (k, b) :: r => match ks.any (Zdl k), fl.any (Zdl k) || !Zcw fr b.cells with
  | false, true => (k, b) :: Zcj ks fr fl r
  | _, _ => Zcj (k :: ks) fr fl r
def ZnA : Option Nat → AV → List (Nat × AV) → List (Nat × AV)
 | some d, x, r => (d, x) :: r
 | none, _, r => r
def okK (os : Nat) (k : Key) : Bool := Nat.beq k.1 1 || (Nat.beq k.1 0 && Nat.ble (k.2 + 1) os)
def ZgV (os : Nat) : List (Key × Blk) → Bool
 | [] => true
 | (k, b) :: r => okK os k && b.live && !(r.any fun p => Zdl k p.1) && ZgV os r
mutual
theorem Zfo {r : Ren} {γ' : Key → Nat} {fr : List Key} (hγ : ∀ k, k ∉ fr → γ' k = r.γ k) : ∀ (x : AV), Zdc fr x = false → ren ⟨r.κ, γ', r.θ, r.H0, r.no⟩ x = ren r x
 | .ref k g off n, h => by simp only [Zdc] at h; simp only [ren]; rw [hγ k (ZfN h)]
 | .ptr k g off, h => by simp only [Zdc] at h; simp only [ren]; rw [hγ k (ZfN h)]
 | .mp k g, h => by simp only [Zdc] at h; simp only [ren]; rw [hγ k (ZfN h)]
 | .fn f xs ys, h => by
  simp only [Zdc, Ya4] at h
  have e1 := Zbv hγ xs h.1
  have e2 := Zbv hγ ys h.2
  cases f <;> simp only [ren, e1, e2]
 | .agg xs, h => by simp only [Zdc] at h; simp only [ren, Zbv hγ xs h]
 | .tup xs, h => by simp only [Zdc] at h; simp only [ren, Zbv hγ xs h]
 | .top, _ => by simp [ren]
 | .d _, _ => by simp [ren]
 | .e0, _ => by simp [ren]
 | .p _, _ => by simp [ren]
 | .iptr _ _, _ => by simp [ren]
theorem Zbv {r : Ren} {γ' : Key → Nat} {fr : List Key} (hγ : ∀ k, k ∉ fr → γ' k = r.γ k) : ∀ (xs : List AV), Zcw fr xs = false → Zaj ⟨r.κ, γ', r.θ, r.H0, r.no⟩ xs = Zaj r xs
 | [], _ => by simp [Zaj]
 | x :: xs, h => by
  simp only [Zcw, Ya4] at h
  simp only [Zaj, Zfo hγ x h.1, Zbv hγ xs h.2]
theorem ZfN {k : Key} {fr : List Key} (h : fr.any (Zdl k) = false) : k ∉ fr := fun hm => by
 have : fr.any (Zdl k) = true := YK.2 ⟨k, hm, ZaJ.2 rfl⟩
 grind
end
def ZbZ : Code → Array Oper
 | .region _ ops _ => ops
 | _ => #[]
def ZtY : Code → Bool
 | .region _ _ false => true
 | _ => false
def ZgC {α : Type} : Nat → List α → List α
 | 0, l => l
 | _ + 1, [] => []
 | n + 1, _ :: l => ZgC n l
def Zkt {α : Type} : Nat → List α → List α
 | 0, _ => []
 | _ + 1, [] => []
 | n + 1, x :: l => x :: Zkt n l
theorem ZfV {α : Type} : ∀ (n : Nat) (l : List α), ZgC n l = l.drop n
 | 0, l => rfl
 | n + 1, [] => rfl
 | n + 1, x :: l => ZfV n l
theorem Zjh {α : Type} : ∀ (n : Nat) (l : List α), Zkt n l = l.take n
 | 0, l => rfl
 | n + 1, [] => rfl
 | n + 1, x :: l => by rw [Zkt, Zjh n l]; rfl
def LO (P : Program) (n : Nat) (C : Cx) (c : Code) (k : Nat) (τ : St) (Q : Exit → St → Prop) : Prop :=
 ∀ γ σ act w, C.G γ → RG (C.r γ) C.l C.outs [] τ σ → R C.l n C.B σ act w → wpList P (ZbZ c) (fun e a' w' => ∃ σ', Is n C (Q e) σ' ∧ R C.l n C.B σ' a' w') ((ZbZ c).toList.drop k) act w
def Zdj (c : Code) (k : Nat) : Option (Option Nat × Operand × List Operand) :=
 match nth (ZbZ c).toList k with
 | some o => (match o.guard, o.op with
  | none, .call cl => (match cl.callee with | .value f => some (o.dst, f, cl.args.toList) | _ => none)
  | _, _ => none)
 | none => none
def wrL (C : Cx) : List (Key × Blk) → Prop
 | [] => True
 | (k, _) :: r => match Nat.beq k.1 1 with | true => wrL C r | false => C.no (C.κ k) ∧ wrL C r
def flL (H : Hp) : List Key → Prop
 | [] => True
 | k :: r => Zep (H k).cells ∧ flL H r
def Ztx (fr : List Key) (hb2 : List (Key × Blk)) : Bool := fr.all fun k => hb2.any fun p => Zdl k p.1
def ZfA (fr : List Key) (fx : List Nat) : Bool := fr.all fun k => !(Nat.beq k.1 0 && fx.any (Nat.beq k.2))
def Zgl : List (Key × Blk) → Bool
 | [] => true
 | (_, b) :: r => Nat.beq b.g 0 && Zgl r
def Zys : Option Nat → (Nat → AV) → AV → Nat → AV
 | some d, s, v => upd s d v
 | none, s, _ => s
def Zkm (n : Nat) : Option Nat → Bool
 | some d => Nat.ble (d + 1) n
 | none => true
section
variable {P : Program} {T : Nat → Option TI} {n : Nat} {C : Cx} {τ : St} {Q : Exit → St → Prop}
theorem Zki {c : Code} (hc : ZtY c = true) (h : LO P n C c 0 τ Q) : LW P n C c τ Q := by
 cases c with
 | region id ops dr =>
  cases dr with
  | true => cases hc
  | false =>
   obtain ⟨opl, rfl⟩ : ∃ l : List Oper, ops = l.toArray := ⟨ops.toList, by simp⟩
   intro γ σ hg hG act w hR
   have := h γ σ act w hg hG hR
   simp only [ZbZ, YaB] at this
   exact wp_region_lit this
 | _ => cases hc
theorem ZwL (hC : CxOk C) (hT : TOk P T) {os : Nat} {fx : List Nat} (hO : C.outs = os) (hF : C.fx = fx) {c : Code} {k : Nat} (m : Nat) (a : AT) (lf : Lf) (q : Ren → (St → Prop) → Prop)
  (hq : ∀ r Φ, ZcO r os a τ (fun τ a => Zhs P T C.l n r ((ZbZ c).toList.map (·.dst)) (Zkt m (ZgC k (ZbZ c).toList)) [] a (fun τ' env a' => ZcO r os a' (Zkv env τ') (fun τ _ => Zff fx lf τ Φ)) τ) = q r Φ)
  (h : ∀ r, r.θ = C.θ → r.H0 = C.H0 → r.κ = C.κ → r.no = C.no → q r (fun τ' => LO P n C c (k + m) τ' Q)) : LO P n C c k τ Q := by
 subst hO
 subst hF
 intro γ σ act w hg hG hR
 have h1 := h (C.r γ) rfl rfl rfl rfl
 rw [← hq] at h1
 obtain ⟨τ₁, a₁, σ₁, h2, hG1, hw1⟩ := Zak (n := n) hC a h1 hG
 have e : (ZbZ c).toList.drop k = Zkt m (ZgC k (ZbZ c).toList) ++ (ZbZ c).toList.drop (k + m) := by
  rw [Zjh, ZfV, ← List.drop_drop, List.take_append_drop]
 rw [e]
 refine Zcp (hC.ren γ) hT (B := C.B) _ (fun τ' env' a' σ' act' w' k1 k2 k3 => ?_) _ [] a₁ τ₁ σ₁ act w h2 hG1 (hw1 _ _ hR)
 obtain ⟨σ₂, g1, g2⟩ := Zc8 (n := n) k2
 obtain ⟨τ₃, a₃, σ₃, f1, f2, f3⟩ := Zak (n := n) hC a' k1 g1
 obtain ⟨γ', τ₄, σ₄, j0, j1, j2, j3⟩ := Zbl (n := n) hC f1 hg f2
 exact j1 γ' σ₄ act' w' j0 j2 (j3 _ _ (f3 _ _ (g2 _ _ k3)))
theorem Zu9 (hC : CxOk C) (hT : TOk P T) {os : Nat} {fx : List Nat} (hO : C.outs = os) (hF : C.fx = fx) {c : Code} {k : Nat} (a : AT) (lf : Lf) (q : Ren → (Exit → St → Prop) → Prop)
  (hq : ∀ r Φ, ZcO r os a τ (fun τ a => Zhs P T C.l n r ((ZbZ c).toList.map (·.dst)) (ZgC k (ZbZ c).toList) [] a (fun τ' env a' => ZcO r os a' (Zkv env τ') (fun τ _ => Zff fx lf τ (Φ .normal))) τ) = q r Φ)
  (h : ∀ r, r.θ = C.θ → r.H0 = C.H0 → r.κ = C.κ → r.no = C.no → q r Q) : LO P n C c k τ Q := by
 subst hO
 subst hF
 intro γ σ act w hg hG hR
 have h1 := h (C.r γ) rfl rfl rfl rfl
 rw [← hq] at h1
 obtain ⟨τ₁, a₁, σ₁, h2, hG1, hw1⟩ := Zak (n := n) hC a h1 hG
 have e : (ZbZ c).toList.drop k = ZgC k (ZbZ c).toList ++ [] := by rw [ZfV, Ya3]
 rw [e]
 refine Zcp (hC.ren γ) hT (B := C.B) _ (fun τ' env' a' σ' act' w' k1 k2 k3 => ?_) _ [] a₁ τ₁ σ₁ act w h2 hG1 (hw1 _ _ hR)
 obtain ⟨σ₂, g1, g2⟩ := Zc8 (n := n) k2
 obtain ⟨τ₃, a₃, σ₃, f1, f2, f3⟩ := Zak (n := n) hC a' k1 g1
 obtain ⟨γ', τ₄, σ₄, j0, j1, j2, j3⟩ := Zbl (n := n) hC f1 hg f2
 unfold wpList
 exact ⟨σ₄, ⟨γ', τ₄, σ₄, j0, j1, j2, Wk.refl _⟩, j3 _ _ (f3 _ _ (g2 _ _ k3))⟩
theorem Zej : ∀ {hs : List (Key × Blk)}, Zgl hs = true → ∀ k, (lkH hs k).g = 0
 | [], _, k => rfl
 | (k', b) :: r, h, k => by
  simp only [Zgl, Yc] at h
  simp only [lkH]
  split
  ·exact Ya h.1
  ·exact Zej h.2 k
theorem ZiE {k : Key} {ks : List Key} : ks.any (Zdl k) = true ↔ k ∈ ks := by
 rw [YK]
 exact ⟨fun ⟨q, h1, h2⟩ => by rw [ZaJ.1 h2]; exact h1, fun h => ⟨k, h, ZaJ.2 rfl⟩⟩
theorem Zso (a b : List (Key × Blk)) (k : Key) : lkH (a ++ b) k = if k ∈ a.map (·.1) then lkH a k else lkH b k := by
 induction a with
 | nil => simp
 | cons p a ih =>
  obtain ⟨q, b'⟩ := p
  simp only [YaS, lkH, YQ, Yn]
  cases hq : Zdl q k with
  | true => rw [if_pos (.inl (ZaJ.1 hq).symm)]
  | false =>
   have : k ≠ q := fun e => by rw [ZaJ.2 e.symm] at hq; cases hq
   grind
theorem Zcn {fr fl : List Key} : ∀ (hs : List (Key × Blk)) (ks : List Key) (k : Key), (k ∈ ks → lkH (Zcj ks fr fl hs) k = ZkF) ∧ (k ∉ ks → (lkH (Zcj ks fr fl hs) k = lkH hs k ∧ (k ∈ fl ∨ Zcw fr (lkH hs k).cells = false)) ∨ lkH (Zcj ks fr fl hs) k = ZkF)
 | [], ks, k => ⟨fun _ => rfl, fun _ => .inr rfl⟩
 | (q, b) :: r, ks, k => by
  simp only [Zcj]
  split
  ·rename_i h1 h2
   have hqk : q ∉ ks := fun hm => by rw [ZiE.2 hm] at h1; cases h1
   simp only [lkH]
   cases hq : Zdl q k with
   | true =>
    have hq := ZaJ.1 hq
    subst hq
    refine ⟨fun h => absurd h hqk, fun _ => .inl ⟨rfl, ?_⟩⟩
    simp only [YD, YX] at h2
    rcases h2 with h2 | h2
    ·exact .inl (ZiE.1 h2)
    grind
   | false => exact Zcn r ks k
  ·obtain ⟨h1, h2⟩ := Zcn (fr := fr) (fl := fl) r (q :: ks) k
   refine ⟨fun h => h1 (List.mem_cons_of_mem _ h), fun h => ?_⟩
   by_cases hq : k = q
   ·grind
   ·rcases h2 (fun hm => (Yn.1 hm).elim hq h) with ⟨e1, e2⟩ | e
    ·have : Zdl q k = false := by
      cases hb : Zdl q k with
      | true => exact absurd (ZaJ.1 hb).symm hq
      | false => rfl
     simp only [lkH, this]
     grind
    grind
theorem Zcv {r : Ren} : ∀ (hb2 : List (Key × Blk)) (H : Hp) (q : Key), (∀ p ∈ hb2, r.κ p.1 ≠ q) → Zcs r hb2 H q = H q
 | [], H, q, h => rfl
 | (k, b) :: rest, H, q, h => by
  simp only [Zcs]
  rw [Zcv rest _ q (fun p hp => h p (List.mem_cons_of_mem _ hp)), Zab _ _ (fun e => h (k, b) (Ys ..) e.symm)]
theorem Zi9 {r : Ren} {os : Nat} (hinj : ∀ q k : Key, okK os q = true → okK os k = true → q ≠ k → r.κ q ≠ r.κ k) : ∀ (hb2 : List (Key × Blk)) (H : Hp), ZgV os hb2 = true → ∀ k b, (k, b) ∈ hb2 → Zcs r hb2 H (r.κ k) = ZaD r k b ∧ lkH hb2 k = b ∧ okK os k = true ∧ b.live = true
 | [], H, _, k, b, hm => by cases hm
 | (q, c) :: rest, H, hok, k, b, hm => by
  simp only [ZgV, Yc, YX] at hok
  obtain ⟨⟨⟨h1, h2⟩, h3⟩, h4⟩ := hok
  have hno : ∀ p ∈ rest, p.1 ≠ q := fun p hp e => by
   have : (rest.any fun p => Zdl q p.1) = true := YK.2 ⟨p, hp, ZaJ.2 e.symm⟩
   rw [this] at h3; cases h3
  have hoks : ∀ (l : List (Key × Blk)), ZgV os l = true → ∀ p ∈ l, okK os p.1 = true := by
   intro l
   induction l with
   | nil => intro _ p hp; cases hp
   | cons p l ih =>
    obtain ⟨p1, p2⟩ := p
    intro hl p hp
    simp only [ZgV, Yc] at hl
    rcases Yn.1 hp with rfl | hp
    ·exact hl.1.1.1
    ·exact ih hl.2 p hp
  simp only [Zcs]
  rcases Yn.1 hm with e | hm
  ·cases e
   refine ⟨?_, by simp only [lkH, ZaJ.2 rfl], h1, h2⟩
   rw [Zcv rest _ _ (fun p hp => hinj _ _ (hoks rest h4 p hp) h1 (hno p hp)), Zaa]
  ·obtain ⟨g1, g2, g3, g4⟩ := Zi9 hinj rest (updH H (r.κ q) (ZaD r q c)) h4 k b hm
   refine ⟨g1, ?_, g3, g4⟩
   have : Zdl q k = false := by
    cases hb : Zdl q k with
    | true => exact absurd (ZaJ.1 hb).symm (hno _ hm)
    | false => rfl
   simp only [lkH, this]
   exact g2
theorem ZlW : ∀ {hb2 : List (Key × Blk)}, wrL C hb2 → ∀ p ∈ hb2, p.1.1 ≠ 1 → C.no (C.κ p.1)
 | (k, b) :: r, h, p, hp, hne => by
  simp only [wrL] at h
  split at h
  ·rename_i hk
   rcases Yn.1 hp with rfl | hp
   ·exact absurd (Ya hk) hne
   ·exact ZlW h p hp hne
  ·rcases Yn.1 hp with rfl | hp
   ·exact h.1
   ·exact ZlW h.2 p hp hne
theorem Zlx {H : Hp} : ∀ {ks : List Key}, flL H ks → ∀ k ∈ ks, Zep (H k).cells
 | q :: r, h, k, hk => by
  rcases Yn.1 hk with rfl | hk
  ·exact h.1
  ·exact Zlx h.2 k hk
theorem ZcW {os : Nat} {k : Key} (h : okK os k = true) : k.1 = 1 ∨ (k.1 = 0 ∧ k.2 < os) := by
 simp only [okK, YD, Yc] at h
 rcases h with h | ⟨h1, h2⟩
 ·exact .inl (Ya h)
 ·exact .inr ⟨Ya h1, Yf h2⟩
theorem Zjo {fr : List Key} : ∀ (ss : List (Nat × AV)) (j : Nat), lkS (Zdv fr ss) j = .top ∨ (lkS (Zdv fr ss) j = lkS ss j ∧ Zdc fr (lkS ss j) = false)
 | [], j => .inl rfl
 | (i, x) :: r, j => by
  simp only [Zdv, lkS]
  split
  ·grind
  ·exact Zjo r j
theorem Zjd (hC : CxOk C) {os : Nat} {fx : List Nat} (hO : C.outs = os) (hF : C.fx = fx) {c : Code} {k : Nat} {ss : List (Nat × AV)} {hs : List (Key × Blk)} (dst : Option Nat) (fo : Operand) (aZ : List Operand) (hop : Zdj c k = some (dst, fo, aZ))
  (f : FuncId) (first caps xs : List AV) (hf : ev (lkS ss) fo = .fn (.func f) first caps) (hxs : first ++ aZ.map (ev (lkS ss)) ++ caps = xs) (ks : List Key) (hb : List (Key × Blk)) (hhb : (ks.map fun k => (k, lkH hs k)) = hb)
  {ι : Type} (I : ι → Prop) (xF : ι → AV) (hbF : ι → List (Key × Blk)) (fr fl : List Key) (hok0 : (ZfA fr fx && Zgl hs && Zkm n dst && ks.all (okK os)) = true) (hok : ∀ i, (ZgV os (hbF i) && Ztx fr (hbF i)) = true) (hwr : ∀ i, wrL C (hbF i)) (hfl : flL (lkH hs) fl)
  (hcall : ∀ r : Ren, r.θ = C.θ → r.H0 = C.H0 → r.κ = C.κ → r.no = C.no → ∀ H', (∀ p ∈ hb, (H' (r.κ p.1)).g = r.γ p.1 + p.2.g ∧ (p.2.live = true → H' (r.κ p.1) = ZaD r p.1 p.2)) → (∀ k : Key, k.1 ≤ C.l → ¬ r.no k → H' k = r.H0 k) →
   ZaP P f (C.l + 1) (Zaj r xs) H' (fun y H'' => ∃ i, I i ∧ ∃ γ' : Key → Nat, (∀ k, k ∉ fr → γ' k = r.γ k) ∧ y = ren ⟨r.κ, γ', r.θ, r.H0, r.no⟩ (xF i) ∧ H'' = Zcs ⟨r.κ, γ', r.θ, r.H0, r.no⟩ (hbF i) H'))
  (h : ∀ i, I i → LO P n C c (k + 1) (mkS (ZnA dst (xF i) (Zdv fr ss)) (hbF i ++ Zcj ((hbF i).map (·.1)) fr fl hs)) Q) : LO P n C c k (mkS ss hs) Q := by
 subst hO
 subst hF
 simp only [Yc] at hok0
 obtain ⟨⟨⟨k3, k4⟩, k5⟩, k6⟩ := hok0
 intro γ σ act w hg hG hR
 have hr := hC.ren γ
 have hs' : ∀ j, σ.s j = ren (C.r γ) (lkS ss j) := fun j => (hG.s j).1 Zaf
 have heval : ∀ y : Operand, ev σ.s y = ren (C.r γ) (ev (lkS ss) y) := fun y => ZeW (c := []) hG Zaf (by cases y <;> rfl)
 unfold Zdj at hop
 split at hop
 case h_2 => cases hop
 rename_i o ho
 split at hop
 case h_2 => cases hop
 rename_i cl hgd hopc
 split at hop
 case h_2 => cases hop
 rename_i fo' hcal
 simp only [Ye, Yag] at hop
 obtain ⟨hd, rfl, rfl⟩ := hop
 rw [ZaW] at ho
 have hlt : k < (ZbZ c).toList.length := by
  grind
 have hrest : (ZbZ c).toList.drop k = o :: (ZbZ c).toList.drop (k + 1) := by
  rw [Y0 hlt]
  grind
 rw [hrest]
 have hinj : ∀ q k : Key, okK C.outs q = true → okK C.outs k = true → q ≠ k → (C.r γ).κ q ≠ (C.r γ).κ k := fun q k h1 h2 h3 => hr.ne (ZcW h1) (ZcW h2) h3
 have hA := hcall (C.r γ) rfl rfl rfl rfl σ.H (fun p hp => by
  rw [← hhb] at hp
  obtain ⟨q, hq, rfl⟩ := Yq.1 hp
  have hq' := ZcW (Yk.1 k6 q hq)
  refine ⟨?_, fun hl => hG.h q hl⟩
  obtain ⟨q1, q2⟩ := q
  simp only at hq'
  rcases hq' with rfl | ⟨rfl, h2⟩
  ·have := hG.g q2
   rw [← hr.own] at this
   exact this
  ·exact hG.go q2 h2) hG.o
 have hargs : Zaj (C.r γ) xs = Zaj (C.r γ) first ++ cl.args.toList.map (ev σ.s) ++ Zaj (C.r γ) caps := by
  rw [← hxs, Zbz, Zbz]
  congr 2
  rw [ZbJ, Yax]
  exact Y4 fun y _ => (heval y).symm
 have hfe : ev σ.s fo' = .fn (.func f) (Zaj (C.r γ) first) (Zaj (C.r γ) caps) := by rw [heval, hf]; simp [ren]
 have hrop : rOp P C.l n o (fun σ' => ∃ i, I i ∧ ∃ γ' : Key → Nat, (∀ q, q ∉ fr → γ' q = γ q) ∧ σ' = ⟨Zys dst σ.s (ren (C.r γ') (xF i)), Zcs (C.r γ') (hbF i) σ.H⟩) σ := by
  unfold rOp
  rw [hopc]
  simp only [hcal, hfe]
  rw [hargs] at hA
  refine hA.mono fun y H'' ⟨i, hi, γ', e1, e2, e3⟩ => ?_
  unfold Zv6 Ze8
  rw [hd]
  cases dst with
  | none => exact ⟨i, hi, γ', e1, by rw [e3]; rfl⟩
  | some d => exact ⟨Yf k5, i, hi, γ', e1, by rw [e2, e3]; rfl⟩
 refine ZcB (by simp [Region.wanted, hgd]) (Zck hrop) hR fun σ' act' w' hK hR' => ?_
 obtain ⟨i, hi, γ', e1, rfl⟩ := hK
 have h := h i hi
 have hwr := hwr i
 have hok := hok i
 generalize hbF i = hb2 at h hwr hok hR'
 generalize xF i = x at h hR'
 simp only [Yc] at hok
 obtain ⟨k1, k2⟩ := hok
 have hsub : ∀ q, q ∈ fr → ∃ b, (q, b) ∈ hb2 := fun q hq => by
  obtain ⟨p, hp, hk⟩ := YK.1 (Yk.1 k2 q hq)
  rw [ZaJ.1 hk]; exact ⟨p.2, hp⟩
 let τ2 : St := mkS (ZnA dst x (Zdv fr ss)) (hb2 ++ Zcj (hb2.map (·.1)) fr fl hs)
 have hlow : ∀ q, lkH (hb2 ++ Zcj (hb2.map (·.1)) fr fl hs) q = if q ∈ hb2.map (·.1) then lkH hb2 q else lkH (Zcj (hb2.map (·.1)) fr fl hs) q := fun q => Zso _ _ _
 have hin : ∀ q, q ∈ hb2.map (·.1) → ∃ b, (q, b) ∈ hb2 := fun q hq => by obtain ⟨p, hp, rfl⟩ := Yq.1 hq; exact ⟨p.2, hp⟩
 have hput : ∀ q b, (q, b) ∈ hb2 → Zcs (C.r γ') hb2 σ.H ((C.r γ').κ q) = ZaD (C.r γ') q b ∧ lkH hb2 q = b ∧ okK C.outs q = true ∧ b.live = true := Zi9 (r := C.r γ') hinj hb2 σ.H k1
 have hkeep : ∀ q, q ∉ hb2.map (·.1) → okK C.outs q = true → Zcs (C.r γ') hb2 σ.H ((C.r γ').κ q) = σ.H ((C.r γ').κ q) ∧ γ' q = γ q := fun q hq hkq => by
  refine ⟨Zcv _ _ _ fun p hp => hinj _ _ (hput p.1 p.2 hp).2.2.1 hkq fun e => hq (Yq.2 ⟨p, hp, e⟩), e1 q fun hf => ?_⟩
  grind
 have hgen : ∀ q, okK C.outs q = true → (σ.H (C.κ q)).g = γ q → (Zcs (C.r γ') hb2 σ.H (C.κ q)).g = γ' q + (lkH (hb2 ++ Zcj (hb2.map (·.1)) fr fl hs) q).g := fun q hkq hq0 => by
  rw [hlow]
  split
  ·rename_i hm
   obtain ⟨b, hb⟩ := hin q hm
   obtain ⟨a1, a2, _⟩ := hput q b hb
   rw [show C.κ q = (C.r γ').κ q from rfl, a1, a2]
   rfl
  ·rename_i hm
   obtain ⟨a1, a2⟩ := hkeep q hm hkq
   rw [show C.κ q = (C.r γ').κ q from rfl, a1, a2]
   have : (lkH (Zcj (hb2.map (·.1)) fr fl hs) q).g = 0 := by
    rcases (Zcn (fr := fr) (fl := fl) hs (hb2.map (·.1)) q).2 hm with ⟨e, _⟩ | e
    ·rw [e]; exact Zej k4 q
    ·rw [e]; rfl
   rw [this]
   exact hq0
 have hG2 : RG (C.r γ') C.l C.outs [] τ2 ⟨fun j => ren (C.r γ') (τ2.s j), Zcs (C.r γ') hb2 σ.H⟩ := by
  refine ⟨fun j => ⟨fun _ => rfl, fun hn => absurd Zaf hn⟩, fun q hq => ?_, fun d => ?_, fun i hi => ?_, fun q hq => ?_, fun q hq hn => ?_⟩
  ·show Zcs (C.r γ') hb2 σ.H ((C.r γ').κ q) = ZaD (C.r γ') q (lkH (hb2 ++ Zcj (hb2.map (·.1)) fr fl hs) q)
   replace hq : (lkH (hb2 ++ Zcj (hb2.map (·.1)) fr fl hs) q).live = true := hq
   rw [hlow] at hq ⊢
   split at hq
   ·grind
   ·rename_i hm
    rw [if_neg hm]
    rcases (Zcn (fr := fr) (fl := fl) hs (hb2.map (·.1)) q).2 hm with ⟨e, e'⟩ | e
    ·rw [e] at hq ⊢
     have hkq := hG.k q hq
     have hok : okK C.outs q = true := by
      obtain ⟨q1, q2⟩ := q
      simp only at hkq
      simp only [okK, YD, Yc]
      rcases hkq with rfl | ⟨rfl, h2⟩
      ·exact .inl rfl
      ·exact .inr ⟨rfl, Yby h2⟩
     obtain ⟨a1, a2⟩ := hkeep q hm hok
     rw [a1]
     have hb := hG.h q hq
     have hcells : Zaj (C.r γ') (lkH hs q).cells = Zaj (C.r γ) (lkH hs q).cells := by
      rcases e' with e' | e'
      ·rw [Zbb (Zlx hfl q e'), Zbb (Zlx hfl q e')]
      ·exact Zbv (r := C.r γ) e1 _ e'
     show σ.H ((C.r γ).κ q) = _
     rw [hb]
     simp only [ZaD]
     rw [hcells, show (C.r γ').γ q = γ' q from rfl, a2]
     rfl
    ·rw [e] at hq; cases hq
  ·have := hgen (1, d) rfl (by
    have := hG.g d
    rw [show ((mkS ss hs).H (1, d)).g = 0 from Zej k4 _] at this
    rw [hC.own]; exact this)
   rw [hC.own] at this
   exact this
  ·exact hgen (0, i) (by simp only [okK, YD, Yc]; exact .inr ⟨rfl, Yby hi⟩) (by
    have := hG.go i hi
    rw [show ((mkS ss hs).H (0, i)).g = 0 from Zej k4 _] at this
    exact this)
  ·replace hq : (lkH (hb2 ++ Zcj (hb2.map (·.1)) fr fl hs) q).live = true := hq
   rw [hlow] at hq
   split at hq
   ·rename_i hm
    obtain ⟨b, hb⟩ := hin q hm
    exact ZcW (hput q b hb).2.2.1
   ·rename_i hm
    rcases (Zcn (fr := fr) (fl := fl) hs (hb2.map (·.1)) q).2 hm with ⟨e, e'⟩ | e
    ·rw [e] at hq; exact hG.k q hq
    ·rw [e] at hq; cases hq
  ·show Zcs (C.r γ') hb2 σ.H q = C.H0 q
   rw [Zcv _ _ _ fun p hp e => ?_]
   ·exact hG.o q hq hn
   ·by_cases h1 : p.1.1 = 1
    ·obtain ⟨⟨p1, p2⟩, p3⟩ := p
     simp only at h1
     subst h1
     rw [show (C.r γ').κ (1, p2) = (C.l + 1, p2) from hC.own p2] at e
     grind
    ·exact hn (by rw [← e]; exact ZlW hwr p hp h1)
 refine h γ' _ act' w' (hC.G γ γ' (fun i hi => e1 _ fun hm => ?_) hg) hG2 (R.weaken hR' fun j => ?_)
 ·have := Yk.1 k3 _ hm
  simp only [YX, YaX] at this
  rcases this with h | h
  ·cases h
  ·have : (C.fx.any (Nat.beq i)) = true := YK.2 ⟨i, hi, by simp⟩
   grind
 ·have old : ren (C.r γ') (lkS (Zdv fr ss) j) = σ.s j ∨ ren (C.r γ') (lkS (Zdv fr ss) j) = .top := by
   rcases Zjo (fr := fr) ss j with e | ⟨e, e'⟩
   ·right; rw [e]; simp [ren]
   ·left
    rw [e, hs' j]
    exact Zfo (r := C.r γ) e1 _ e'
  show ren (C.r γ') (lkS (ZnA dst x (Zdv fr ss)) j) = _ ∨ ren (C.r γ') (lkS (ZnA dst x (Zdv fr ss)) j) = .top
  cases dst with
  | none => exact old
  | some d =>
   simp only [ZnA, lkS, Zys, upd]
   cases hj : Nat.beq d j with
   | true =>
    have := Ya hj
    grind
   | false =>
    have : j ≠ d := fun e => by rw [e] at hj; simp at hj
    grind
theorem ZrZ (hC : CxOk C) {os : Nat} {fx : List Nat} (hO : C.outs = os) (hF : C.fx = fx) {c : Code} {k : Nat} {ss : List (Nat × AV)} {hs : List (Key × Blk)} (dst : Option Nat) (fo : Operand) (aZ : List Operand) (hop : Zdj c k = some (dst, fo, aZ))
  (f : FuncId) (first caps xs : List AV) (hf : ev (lkS ss) fo = .fn (.func f) first caps) (hxs : first ++ aZ.map (ev (lkS ss)) ++ caps = xs) (ks : List Key) (hb : List (Key × Blk)) (hhb : (ks.map fun k => (k, lkH hs k)) = hb)
  (x : AV) (hb2 : List (Key × Blk)) (fr fl : List Key) (hok : (ZgV os hb2 && Ztx fr hb2 && ZfA fr fx && Zgl hs && Zkm n dst && ks.all (okK os)) = true) (hwr : wrL C hb2) (hfl : flL (lkH hs) fl)
  (hcall : ∀ r : Ren, r.θ = C.θ → r.H0 = C.H0 → r.κ = C.κ → r.no = C.no → ZgG P C.l r f xs hb x hb2 fr)
  (h : LO P n C c (k + 1) (mkS (ZnA dst x (Zdv fr ss)) (hb2 ++ Zcj (hb2.map (·.1)) fr fl hs)) Q) : LO P n C c k (mkS ss hs) Q := by
 simp only [Yc] at hok
 obtain ⟨⟨⟨⟨⟨k1, k2⟩, k3⟩, k4⟩, k5⟩, k6⟩ := hok
 exact Zjd hC hO hF dst fo aZ hop f first caps xs hf hxs ks hb hhb (ι := Unit) (fun _ => True) (fun _ => x) (fun _ => hb2) fr fl (by simp only [Yc]; exact ⟨⟨⟨k3, k4⟩, k5⟩, k6⟩) (fun _ => by simp only [Yc]; exact ⟨k1, k2⟩) (fun _ => hwr) hfl
  (fun r h1 h2 h3 h4 H' a b => (hcall r h1 h2 h3 h4 H' a b).mono fun y H'' hh => ⟨(), trivial, hh⟩) fun _ _ => h
end
def kOf (l : Nat) (ks : List Key) : Key → Key
 | (0, i) => match nth ks i with | some k => k | none => (0, 0)
 | (_ + 1, d) => (l + 1, d)
def gOf (gs : List Nat) : Key → Nat
 | (0, i) => match nth gs i with | some g => g | none => 0
 | (_ + 1, _) => 0
def rOf (l : Nat) (ks : List Key) (gs : List Nat) (θ : Nat → AV) (H : Hp) : Ren := ⟨kOf l ks, gOf gs, θ, H, fun k => k ∈ ks⟩
def NmO (l : Nat) (ks : List Key) (gs : List Nat) (r : Ren) : Prop := r.κ = kOf l ks ∧ ∀ i, i < ks.length → r.γ (0, i) = gOf gs (0, i)
def ZcH (r : Ren) : Nat → List Blk → List Blk
 | _, [] => []
 | i, b :: bs => ZaD r (0, i) b :: ZcH r (i + 1) bs
def Zhn (H : Hp) : List Key → List Blk → Hp
 | k :: ks, b :: bs => Zhn (updH H k b) ks bs
 | _, _ => H
theorem Zcl {r : Ren} {k : Key} {g : Nat} {e : TypeId} {sz : Nat} {cs : List AV} (h : Zep cs) : ZaD r k ⟨g, true, e, sz, cs⟩ = ⟨r.γ k + g, true, e, sz, cs⟩ := by
 simp only [ZaD, Zbb h]
theorem ZdW : ∀ (ks : List Key) (bs : List Blk) (H : Hp) (q : Key), q ∉ ks → Zhn H ks bs q = H q
 | [], bs, H, q, h => by cases bs <;> rfl
 | k :: ks, [], H, q, h => rfl
 | k :: ks, b :: bs, H, q, h => by
  simp only [Zhn]
  rw [ZdW ks bs _ q (fun hm => h (List.mem_cons_of_mem _ hm)), Zab _ _ (fun e => h (by rw [e]; exact Ys ..))]
theorem Zl2 : ∀ (ks : List Key) (bs : List Blk) (H : Hp), ks.Nodup → ∀ (j : Nat) (k : Key) (b : Blk), ks[j]? = some k → bs[j]? = some b → Zhn H ks bs k = b
 | [], bs, H, _, j, k, b, h, _ => by simp at h
 | q :: ks, [], H, _, _, _, _, _, h => by simp at h
 | q :: ks, c :: bs, H, hn, j, k, b, hk, hb => by
  simp only [Zhn]
  rw [Ya5] at hn
  cases j with
  | zero =>
   simp only [YI, Ye] at hk hb
   subst hk; subst hb
   rw [ZdW ks bs _ _ hn.1, Zaa]
  | succ j =>
   simp only [Y6] at hk hb
   exact Zl2 ks bs _ hn.2 j k b hk hb
theorem Zil {r : Ren} : ∀ (bs : List Blk) (i j : Nat), (ZcH r i bs)[j]? = (bs[j]?).map (ZaD r (0, i + j))
 | [], i, j => by simp [ZcH]
 | b :: bs, i, 0 => by simp [ZcH]
 | b :: bs, i, j + 1 => by
  simp only [ZcH, Y6, Zil bs (i + 1) j, show i + 1 + j = i + (j + 1) from by omega]
theorem Ze1 {P : Program} {T : Nat → Option TI} {n : Nat} {f : FuncId} {fn : Func} (rs : List ResultVar) (c : Code) {l : Nat} {xs : List AV} {H : Hp} {Post : AV → Hp → Prop} (ks : List Key) (gs : List Nat) (fx : List Nat) (θ : Nat → AV) (ys : List AV) (hs : List (Key × Blk)) (LPost : AV → List Blk → Prop)
  (hf : P.funcs[f]? = some fn) (hb : fn.body = some c) (hname : (fn.name == "runtime.NumGoroutine") = false) (hn : fn.ntmps = n) (hr : fn.results.toList = rs) (hx : xs.length ≤ n) (hT : TOk P T)
  (hks : ∀ k ∈ ks, k.1 ≤ l) (hnd : ks.Nodup) (hfx : ∀ i, i < ks.length → i ∈ fx) (hh : ∀ d, lkH hs (1, d) = ZkF) (hlv : ∀ k, (lkH hs k).live = true → k.1 = 0 ∧ k.2 < ks.length)
  (hH : ∀ i k, ks[i]? = some k → (H k).g = gOf gs (0, i) + (lkH hs (0, i)).g ∧ ((lkH hs (0, i)).live = true → H k = ZaD (rOf l ks gs θ H) (0, i) (lkH hs (0, i))))
  (hxs : Zaj (rOf l ks gs θ H) ys = xs)
  (h : ∀ C, CxOk C → C.outs = ks.length → C.fx = fx → C.l = l → C.H0 = H → C.θ = θ → C.κ = kOf l ks → C.no = (fun k => k ∈ ks) → LW P n C c (mkS (ZhU 0 ys) hs) (FQ T rs ks.length LPost))
  (hp : ∀ y b, LPost y b → b.length = ks.length ∧ (∀ x ∈ b, x.live = true) ∧ ∃ Y' bs', (∀ r, NmO l ks gs r → ren r y = Y') ∧ (∀ r, NmO l ks gs r → ZcH r 0 b = bs') ∧ Post Y' (Zhn H ks bs')) : ZaP P f l xs H Post := by
 let C : Base → Cx := fun B => ⟨l, B, kOf l ks, θ, H, ks.length, fun k => k ∈ ks, fx, fun γ => ∀ i ∈ fx, γ (0, i) = gOf gs (0, i)⟩
 have hkO : ∀ i, i < ks.length → ks[i]? = some (kOf l ks (0, i)) := fun i hi => by
  show _ = some (match nth ks i with | some k => k | none => (0, 0))
  rw [ZaW, Yb hi]
 have hlt : ∀ (i : Nat) (k : Key), ks[i]? = some k → i < ks.length := fun i k hi => by
  grind
 have hC : ∀ B, CxOk (C B) := fun B => by
  refine ⟨fun _ => rfl, fun i hi => hks _ (Yu (hkO i hi)), fun i j hi hj e => ?_, fun k hk => ?_, fun γ γ' he hg i hi => by rw [he i hi]; exact hg i hi⟩
  ·have h1 := hkO i hi
   have h2 := hkO j hj
   rw [show kOf l ks (0, i) = kOf l ks (0, j) from e] at h1
   have h3 : ks[i]? = ks[j]? := h1.trans h2.symm
   exact (List.getElem?_inj hi hnd).1 h3
  ·obtain ⟨i, hi⟩ := YJ.1 (show k ∈ ks from hk)
   grind
 refine Zid rs C (γ := gOf gs) (LPost := LPost) (ys := ys) (hs := hs) hf hb hname hn hr hx hT hC (fun B => ⟨rfl, rfl, rfl, fun i _ => rfl⟩) (fun B => hxs) (fun _ => rfl) hh (fun B k hk => ?_) (fun B i hi => ?_) (fun B γ y b H' hg hy ho _ => ?_) (fun B => h _ (hC B) rfl rfl rfl rfl rfl rfl rfl)
 ·obtain ⟨h1, h2⟩ := hlv k hk
  obtain ⟨k1, k2⟩ := k
  simp only at h1 h2
  subst h1
  exact ⟨rfl, h2, (hH k2 _ (hkO k2 h2)).2 hk⟩
 ·grind
 ·obtain ⟨hbl, hbv, Y', bs', hY, hB, hp⟩ := hp y b hy
  have hnm : NmO l ks gs ((C B).r γ) := ⟨rfl, fun i hi => hg i (hfx i hi)⟩
  have e1 := hB _ hnm
  have e2 : H' = Zhn H ks bs' := by
   funext q
   by_cases hq : q ∈ ks
   ·obtain ⟨i, hi⟩ := YJ.1 hq
    have hi' := hlt i q hi
    have hb' : b[i]? = some b[i] := Yb (by omega)
    have h1 := ho.live i _ hb' (hbv _ (Yu hb'))
    have h2 : kOf l ks (0, i) = q := by
     grind
    rw [show (C B).κ (0, i) = q from h2] at h1
    rw [h1, Zl2 ks bs' H hnd i q (ZaD ((C B).r γ) (0, i) b[i]) hi]
    rw [← e1, Zil, hb', Yy]
    rfl
   ·rw [ZdW ks bs' H q hq]
    exact ho.o q hq
  grind
theorem ZjH {P : Program} {T : Nat → Option TI} {n : Nat} {f : FuncId} {fn : Func} (rs : List ResultVar) (c : Code) {l : Nat} {xs : List AV} {H : Hp} {Post : AV → Hp → Prop} (ks : List Key) (gs : List Nat) (fx : List Nat) (θ : Nat → AV) (ys : List AV) (hs : List (Key × Blk)) (Y : AV) (bs : List Blk) {Y' : AV} {bs' : List Blk}
  (hf : P.funcs[f]? = some fn) (hb : fn.body = some c) (hname : (fn.name == "runtime.NumGoroutine") = false) (hn : fn.ntmps = n) (hr : fn.results.toList = rs) (hx : xs.length ≤ n) (hT : TOk P T)
  (hks : ∀ k ∈ ks, k.1 ≤ l) (hnd : ks.Nodup) (hfx : ∀ i, i < ks.length → i ∈ fx) (hh : ∀ d, lkH hs (1, d) = ZkF) (hlv : ∀ k, (lkH hs k).live = true → k.1 = 0 ∧ k.2 < ks.length)
  (hH : ∀ i k, ks[i]? = some k → (H k).g = gOf gs (0, i) + (lkH hs (0, i)).g ∧ ((lkH hs (0, i)).live = true → H k = ZaD (rOf l ks gs θ H) (0, i) (lkH hs (0, i))))
  (hxs : Zaj (rOf l ks gs θ H) ys = xs) (hbl : bs.length = ks.length) (hbv : ∀ b ∈ bs, b.live = true) (hY : ∀ r, NmO l ks gs r → ren r Y = Y') (hB : ∀ r, NmO l ks gs r → ZcH r 0 bs = bs')
  (h : ∀ C, CxOk C → C.outs = ks.length → C.fx = fx → C.l = l → C.H0 = H → C.θ = θ → C.κ = kOf l ks → C.no = (fun k => k ∈ ks) → LW P n C c (mkS (ZhU 0 ys) hs) (FQ T rs ks.length (fun y b => y = Y ∧ b = bs)))
  (hp : Post Y' (Zhn H ks bs')) : ZaP P f l xs H Post := by
 exact Ze1 rs c ks gs fx θ ys hs (fun y b => y = Y ∧ b = bs) hf hb hname hn hr hx hT hks hnd hfx hh hlv hH hxs h fun y b ⟨e1, e2⟩ => by subst e1; subst e2; exact ⟨hbl, hbv, Y', bs', hY, hB, hp⟩
section
variable {P : Program} {l : Nat} {r : Ren} {f : FuncId} {xs xs' : List AV} {hb hb2 : List (Key × Blk)} {x x' : AV}
theorem Zou (h1 : Zaj r xs = xs') (h2 : ren r x = x') (h : ∀ H', (∀ p ∈ hb, (H' (r.κ p.1)).g = r.γ p.1 + p.2.g ∧ (p.2.live = true → H' (r.κ p.1) = ZaD r p.1 p.2)) → (∀ k : Key, k.1 ≤ l → ¬ r.no k → H' k = r.H0 k) → ZaP P f (l + 1) xs' H' (fun y H'' => y = x' ∧ H'' = Zcs r hb2 H')) :
  ZgG P l r f xs hb x hb2 [] := fun H' hb ho => by
 rw [h1]
 exact (h H' hb ho).mono fun y H'' ⟨e1, e2⟩ => ⟨r.γ, fun _ _ => rfl, by rw [e1, ← h2], e2⟩
end
theorem Zsd {r : Ren} {k : Key} {vs : List AV} (h : (Zaj r vs).all (AV.low (r.κ k).1) = true) : Zw0 r k vs := h
theorem Zj5 {α : Type} (e : α → List D) (xs : List α) : Zfu (Zah e xs) := fun x hx => by
 obtain ⟨d, _, rfl⟩ := Yq.1 hx; rfl
def Zp9 (n : Nat) : List (Key × Blk) → Bool
 | [] => true
 | (k, _) :: r => Nat.beq k.1 0 && Nat.ble (k.2 + 1) n && Zp9 n r
theorem ZhD {n : Nat} : ∀ {hs : List (Key × Blk)}, Zp9 n hs = true → ∀ k, (lkH hs k).live = true → k.1 = 0 ∧ k.2 < n
 | [], _, k, h => by simp [lkH, ZkF] at h
 | (q, b) :: r, hi, k, h => by
  simp only [Zp9, Yc] at hi
  simp only [lkH] at h
  split at h
  ·rename_i hq
   have hq := ZaJ.1 hq
   subst hq
   exact ⟨Ya hi.1.1, Yf hi.1.2⟩
  ·exact ZhD hi.2 k h
theorem Zeq {n : Nat} : ∀ {hs : List (Key × Blk)}, Zp9 n hs = true → ∀ d, lkH hs (1, d) = ZkF
 | [], _, d => rfl
 | (q, b) :: r, hi, d => by
  simp only [Zp9, Yc] at hi
  simp only [lkH]
  split
  ·rename_i hq
   have hq := ZaJ.1 hq
   subst hq
   have := Ya hi.1.1
   grind
  ·exact Zeq hi.2 d
def HOk (H : Hp) (r : Ren) (hs : List (Key × Blk)) : Nat → List Key → Prop
 | _, [] => True
 | i, k :: ks => ((H k).g = r.γ (0, i) + (lkH hs (0, i)).g ∧ ((lkH hs (0, i)).live = true → H k = ZaD r (0, i) (lkH hs (0, i)))) ∧ HOk H r hs (i + 1) ks
theorem Znj {H : Hp} {r : Ren} {hs : List (Key × Blk)} : ∀ {ks : List Key} {i : Nat}, HOk H r hs i ks → ∀ j k, ks[j]? = some k → (H k).g = r.γ (0, i + j) + (lkH hs (0, i + j)).g ∧ ((lkH hs (0, i + j)).live = true → H k = ZaD r (0, i + j) (lkH hs (0, i + j)))
 | [], i, _, j, k, h => by simp at h
 | q :: ks, i, h, 0, k, hk => by
  simp only [YI, Ye] at hk
  subst hk
  exact h.1
 | q :: ks, i, h, j + 1, k, hk => by
  have := Znj h.2 j k (by simpa using hk)
  grind
def Zqu (l : Nat) : List Key → Prop
 | [] => True
 | k :: ks => k.1 ≤ l ∧ Zqu l ks
theorem Zgf {l : Nat} : ∀ {ks : List Key}, Zqu l ks → ∀ k ∈ ks, k.1 ≤ l
 | q :: ks, h, k, hk => by
  rcases Yn.1 hk with rfl | hk
  ·exact h.1
  ·exact Zgf h.2 k hk
def Zfz : Nat → List Nat
 | 0 => []
 | n + 1 => Zfz n ++ [n]
theorem Zge : ∀ {n i : Nat}, i < n → i ∈ Zfz n
 | n + 1, i, h => by
  simp only [Zfz, YM, YF]
  rcases Yr i n with h' | h'
  ·exact .inl (Zge h')
  grind
theorem ZhL {P : Program} {T : Nat → Option TI} {n : Nat} {f : FuncId} {fn : Func} (rs : List ResultVar) (c : Code) {l : Nat} {xs : List AV} {H : Hp} {Post : AV → Hp → Prop} (ks : List Key) (gs : List Nat) (os : Nat) (θ : Nat → AV) (ys : List AV) (hs : List (Key × Blk)) (Y : AV) (bs : List Blk) {Y' : AV} {bs' : List Blk}
  (hf : P.funcs[f]? = some fn) (hb : fn.body = some c) (hname : (fn.name == "runtime.NumGoroutine") = false) (hn : fn.ntmps = n) (hr : fn.results.toList = rs) (hx : xs.length ≤ n) (hT : TOk P T) (hos : ks.length = os)
  (hks : Zqu l ks) (hnd : ks.Nodup) (hin : Zp9 os hs = true) (hH : HOk H (rOf l ks gs θ H) hs 0 ks) (hxs : Zaj (rOf l ks gs θ H) ys = xs) (hbl : bs.length = os) (hbv : ∀ b ∈ bs, b.live = true) (hY : ∀ r, NmO l ks gs r → ren r Y = Y') (hB : ∀ r, NmO l ks gs r → ZcH r 0 bs = bs')
  (h : ∀ C, CxOk C → C.outs = os → C.fx = Zfz os → C.l = l → C.H0 = H → C.θ = θ → C.κ = kOf l ks → C.no = (fun k => k ∈ ks) → LW P n C c (mkS (ZhU 0 ys) hs) (FQ T rs os (fun y b => y = Y ∧ b = bs)))
  (hp : Post Y' (Zhn H ks bs')) : ZaP P f l xs H Post := by
 subst hos
 exact ZjH rs c ks gs (Zfz ks.length) θ ys hs Y bs hf hb hname hn hr hx hT (Zgf hks) hnd (fun i hi => Zge hi) (Zeq hin) (ZhD hin) (fun i k hk => by have := Znj hH i k hk; rw [Yy] at this; exact this) hxs hbl hbv hY hB h hp
theorem Zkb {α : Type} {e e' : α → List D} {xs : List α} {j sz : Nat} {x : α} (hx : xs[j]? = some x) (hl : ∀ x, (e x).length = sz) (he : ∀ x, e x = e' x) : Zcc (Zah e xs) (j * sz) ((e' x).map .d) := by
 have hj : j < xs.length := by
  grind
 have := ZhK (z := x) hj hl he
 grind
theorem Zti {P : Program} {l l1 : Nat} {no no1 : Key → Prop} {H H1 : Hp} {c : AV} {aZ : List AV} {y : AV} (h : ZnB P l no H c aZ y) (hl : l ≤ l1) (hno : ∀ q : Key, q.1 ≤ l → ¬ no q → ¬ no1 q) (hH : ∀ q : Key, q.1 ≤ l → ¬ no q → H1 q = H q) : ZnB P l1 no1 H1 c aZ y := by
 obtain ⟨f, first, caps, e, h⟩ := h
 exact ⟨f, first, caps, e, fun l' H' hl' ho => h l' H' (YU hl hl') fun k hk hn => by rw [ho k (YU hk hl) (hno k hk hn), hH k hk hn]⟩
def Zv1 : Code → Operand
 | .cond o _ _ => o
 | _ => .tmp 0
def Zea (c : Code) (k : Nat) : Option Nat := match Zdj c k with | some (d, _, _) => d | none => none
def callF (c : Code) (k : Nat) : Operand := match Zdj c k with | some (_, f, _) => f | none => .tmp 0
def Zf5 (c : Code) (k : Nat) : List Operand := match Zdj c k with | some (_, _, xs) => xs | none => []
theorem ZoX {P : Program} {n : Nat} {C : Cx} {Q : Exit → St → Prop} (hC : CxOk C) {os : Nat} {fx : List Nat} (hO : C.outs = os) (hF : C.fx = fx) {c : Code} {k : Nat} {ss : List (Nat × AV)} {hs : List (Key × Blk)}
  (f : FuncId) (first caps xs : List AV) (hop : Zdj c k = some (Zea c k, callF c k, Zf5 c k)) (hf : ev (lkS ss) (callF c k) = .fn (.func f) first caps) (hxs : first ++ (Zf5 c k).map (ev (lkS ss)) ++ caps = xs) (ks : List Key) (hb : List (Key × Blk)) (hhb : (ks.map fun k => (k, lkH hs k)) = hb)
  (x : AV) (hb2 : List (Key × Blk)) (fr fl : List Key) (hok : (ZgV os hb2 && Ztx fr hb2 && ZfA fr fx && Zgl hs && Zkm n (Zea c k) && ks.all (okK os)) = true) (hwr : wrL C hb2) (hfl : flL (lkH hs) fl)
  (hcall : ∀ r : Ren, r.θ = C.θ → r.H0 = C.H0 → r.κ = C.κ → r.no = C.no → ZgG P C.l r f xs hb x hb2 fr)
  (h : LO P n C c (k + 1) (mkS (ZnA (Zea c k) x (Zdv fr ss)) (hb2 ++ Zcj (hb2.map (·.1)) fr fl hs)) Q) : LO P n C c k (mkS ss hs) Q :=
 ZrZ hC hO hF _ _ _ hop f first caps xs hf hxs ks hb hhb x hb2 fr fl hok hwr hfl hcall h
end Go.Eng
namespace Go.Eng
open Go
set_option linter.all false
end Go.Eng
namespace Go.Eng
set_option linter.all false
open Go Go.RowKit Go.Shelf
theorem ZsC {α : Type} {e : α → List D} {xs : List α} {l h : Nat} (q : SlS l h xs.length) : SlS l h (xs.map e).length := by rw [Yj]; exact q
theorem ZqE {α : Type} {e : α → List D} {xs : List α} {sz : Nat} (he : ∀ x, (e x).length = sz) : ∀ d, d ∈ xs.map e → d.length = sz := fun d h => by
 grind
theorem Zr6 {α : Type} {e : α → List D} {xs : List α} {sz l h : Nat} (he : ∀ x, (e x).length = sz) : SlD (xs.map e) sz l h (((xs.drop l).take (h - l)).map e) :=
 ⟨ZqE he, by rw [← List.map_drop, ← List.map_take]⟩
theorem ZkR {i : Int} {len sz : Nat} (h0 : 0 ≤ i) (h : i < len) : ZtF i len 0 sz (i.toNat * sz) := ⟨h0, h, by simp⟩
end Go.Eng
namespace Go.Eng
set_option linter.all false
theorem ZfI {α : Type} {l : List α} {p : α → Bool} : ((match l.findIdx? p with | some k => (k : Int) | none => -1) ≥ 0) ↔ l.any p = true := by
 rw [YK]
 cases h : l.findIdx? p with
 | none =>
  rw [List.findIdx?_eq_none_iff] at h
  constructor
  ·intro e; exact absurd e (by decide)
  ·rintro ⟨x, hx, hp⟩; rw [h x hx] at hp; cases hp
 | some k =>
  obtain ⟨h1, h2, _⟩ := YaP.1 h
  exact ⟨fun _ => ⟨l[k], Ybo h1, h2⟩, fun _ => Int.natCast_nonneg k⟩
theorem Zpd {α : Type} {e e' : α → List D} {xs : List α} {j sz : Nat} {y : α} (hj : j < xs.length) (hl : ∀ x, (e x).length = sz) (he : ∀ x, e x = e' x) : StS (Zah e xs) (j * sz) ((e' y).map .d) (Zah e (xs.set j y)) := by
 rw [← he]; exact ZsU hj hl
theorem Zgy {α : Type} {sz : Nat} {e e' : α → List D} {y : α} (C : List AV) (hl : ∀ x, (e x).length = sz) (he : ∀ x, e x = e' x) : Zjb sz C (.d (.list [e' y])) 1 (Zah e [y]) := by
 rw [ZoG, he]; exact ZnP C (by rw [← he]; exact hl y)
theorem Zqy {α : Type} {e : α → List D} {xs : List α} {n m off sz : Nat} (hn : n = m) (h : off ≤ xs.length) (hl : ∀ x, (e x).length = sz) : n = m ∧ off * sz ≤ (Zah e xs).length ∧ (Zah e xs).drop (off * sz) = Zah e (xs.drop off) :=
 ⟨hn, by rw [Zb3 hl]; exact YN _ h, Zdy hl xs off⟩
end Go.Eng
namespace Go.Eng
set_option linter.all false
open Go Go.RowKit
section
variable {P : Program} {T : Nat → Option TI} {n : Nat} {C : Cx} {τ : St} {Q : Exit → St → Prop}
theorem Zqw (hC : CxOk C) {os : Nat} {fx : List Nat} (hO : C.outs = os) (hF : C.fx = fx) {c : Code} (a : AT) (lf : Lf) (q : Ren → (St → Prop) → Prop)
  (hq : ∀ r Φ, ZcO r os a τ (fun τ _ => Zff fx lf τ Φ) = q r Φ) (h : ∀ r, r.θ = C.θ → r.H0 = C.H0 → r.κ = C.κ → r.no = C.no → q r (fun τ' => LW P n C c τ' Q)) : LW P n C c τ Q := by
 subst hO
 subst hF
 intro γ σ hg hG
 have h1 := h (C.r γ) rfl rfl rfl rfl
 rw [← hq] at h1
 obtain ⟨τ₁, a₁, σ₁, h2, hG1, hw1⟩ := Zak (n := n) hC a h1 hG
 obtain ⟨γ', τ₄, σ₄, j0, j1, j2, j3⟩ := Zbl (n := n) hC h2 hg hG1
 exact AWp.weak (j1 γ' σ₄ j0 j2) (hw1.trans j3)
end
end Go.Eng
