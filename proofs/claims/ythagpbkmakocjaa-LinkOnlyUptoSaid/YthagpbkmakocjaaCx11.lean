import Derived.Test.YthagpbkmakocjaaCx10
import Derived.Shelf.Spec.SlicesGrow
namespace Go.Eng
set_option linter.all false
open Go Go.RowKit
def cAt : List Nat → Code → Code
 | [], c => c
 | 0 :: p, .seq a _ => cAt p a
 | _ :: p, .seq _ b => cAt p b
 | 0 :: p, .cond _ a _ => cAt p a
 | _ :: p, .cond _ _ b => cAt p b
 | _ :: p, .block _ c => cAt p c
 | _ :: p, .loop c => cAt p c
 | _ :: p, .scope c => cAt p c
 | _, c => c
def Zac (f : Func) : Code := f.body.getD .skip
def Zaa {α : Type} (e : α → List D) (xs : List α) : List AV := ((xs.map e).flatten).map .d
theorem Zai {α : Type} (e : α → List D) (xs : List α) : Zha (Zaa e xs) := fun x hx => by
 obtain ⟨d, _, rfl⟩ := List.mem_map.1 hx; rfl
theorem ZbB {α : Type} {e : α → List D} {sz : Nat} (he : ∀ x, (e x).length = sz) (xs : List α) : (Zaa e xs).length = xs.length * sz := by
 unfold Zaa
 induction xs with
 | nil => simp
 | cons x xs ih => simp only [List.length_map, List.map_cons, List.flatten_cons, List.length_append, he, List.length_cons, Nat.add_mul] at ih ⊢; omega
theorem Ze3 {α : Type} (e : α → List D) (xs ys : List α) : Zaa e (xs ++ ys) = Zaa e xs ++ Zaa e ys := by simp [Zaa]
section
variable {P : Program} {n : Nat} {C : Cx} {τ : St} {Q : Exit → St → Prop}
theorem Zp6 {c : Code} (id : Nat) (x : Code) (hc : c = .block id x) (h : LW P n C x τ (fun e τ' => match e with | .exit i => (match Nat.beq i id with | true => Q .normal τ' | false => Q (.exit i) τ') | e => Q e τ')) : LW P n C c τ Q := hc ▸ ZtU (h.mono fun e τ' hq => by
 cases e with
 | exit i =>
  simp only at hq ⊢
  split at hq
  ·rename_i he; rw [if_pos (Nat.eq_of_beq_eq_true he)]; exact hq
  ·rename_i he; rw [if_neg (by rintro rfl; simp at he)]; exact hq
 | _ => exact hq)
end
theorem ZnY {P : Program} {T : Nat → Option TI} {n : Nat} {f : FuncId} {fn : Func} (rs : List ResultVar) (c : Code) {l : Nat} {xs : List AV} {H : Hp} {Post : AV → Hp → Prop} (θ : Nat → AV) (ys : List AV)
  (hf : P.funcs[f]? = some fn) (hb : fn.body = some c) (hname : (fn.name == "runtime.NumGoroutine") = false) (hn : fn.ntmps = n) (hr : fn.results.toList = rs) (hx : xs.length ≤ n) (hT : TOk P T)
  (hxs : Zap ⟨fun k => (l + 1, k.2), fun _ => 0, θ, H, fun _ => False⟩ ys = xs) (h : ∀ B : Base, LW P n (cxP l θ H B) c (mkS (ZmC 0 ys) []) (FQ T rs 0 (fun y _ => Post y H))) : ZbP P f l xs H Post :=
 ZlO rs (cxP l θ H) (γ := fun _ => 0) (LPost := fun y _ => Post y H) hf hb hname hn hr hx hT (fun B => ZiK l B θ H) (fun B => ⟨rfl, rfl, rfl, trivial⟩) (fun B => hxs) (fun _ => rfl) (fun _ => rfl) (fun B k hk => by simp [lkH, Zn3] at hk) (fun B i hi => absurd hi (Nat.not_lt_zero _))
  (fun B γ y bs H' _ hp ho hy => by rw [hy rfl, ZsN ho]; exact hp) h
theorem Zy7 {α : Type} (e : α → List D) (xs : List α) : EqI ((xs.map e).length : Nat) xs.length := by simp [EqI]
theorem Zod {α : Type} {e e' : α → List D} {xs : List α} {i : Nat} {x : α} (hx : xs[i]? = some x) (he : ∀ x, e x = e' x) : Zvl (xs.map e) (i : Nat) (e' x) := ⟨by omega, by simp [hx, he]⟩
theorem Zz3 {α : Type} {e e' : α → List D} {xs : List α} {i : Nat} {z : α} (hi : i < xs.length) (he : ∀ x, e x = e' x) : Zvl (xs.map e) (i : Nat) (e' (xs.getD i z)) := by
 refine Zod ?_ he
 rw [List.getD_eq_getElem?_getD, List.getElem?_eq_getElem hi]; rfl
theorem Zpk {a r : Int} (h : a = r) (h1 : -9223372036854775808 ≤ r) (h2 : r < 9223372036854775808) : Zb8 .i64 a r := by
 subst h; exact IntWalk.i64_in _ ⟨h1, by omega⟩
theorem ZHm {i len sz : Nat} (h : i < len) : ZAk (i : Nat) len 0 sz (i * sz) := ⟨by omega, by omega, by simp⟩
theorem Ztd {sz : Nat} {e : List D} (C : List AV) (he : e.length = sz) : ZlW sz C (.d (.list [e])) 1 (e.map .d) := by
 refine ⟨List.all_eq_true.2 fun x hx => ?_, fun q hq => ?_, rfl, by simp⟩
 ·obtain ⟨d, _, rfl⟩ := List.mem_map.1 hx; rfl
 ·simp at hq; subst hq; exact he
theorem Zfb {α : Type} {sz : Nat} {e : α → List D} (C : List AV) (xs : List α) (he : ∀ x, (e x).length = sz) : ZlW sz C (.d (.list (xs.map e))) xs.length (Zaa e xs) := by
 refine ⟨List.all_eq_true.2 fun x hx => ?_, fun q hq => ?_, by simp, rfl⟩
 ·obtain ⟨d, _, rfl⟩ := List.mem_map.1 hx; rfl
 ·obtain ⟨x, _, rfl⟩ := List.mem_map.1 hq; exact he x
theorem Zrq {α : Type} {sz : Nat} {e : α → List D} (k : Key) (g : Nat) (xs : List α) (he : ∀ x, (e x).length = sz) : ZlW sz (Zaa e xs) (.ref k g 0 xs.length) xs.length (Zaa e xs) := by
 refine ⟨List.all_eq_true.2 fun x hx => ?_, rfl, by rw [ZbB he]; simp, by rw [Nat.zero_mul, List.drop_zero, ← ZbB he xs, List.take_length]⟩
 obtain ⟨d, _, rfl⟩ := List.mem_map.1 hx; rfl
theorem ZrH {α : Type} {sz byt : Nat} {e : α → List D} (xs ys : List α) {n' : Nat} (he : ∀ x, (e x).length = sz) (hn : xs.length + ys.length = n') (hb : n' * byt ≤ 140737488355328) :
  Zyl (Zaa e xs) 0 xs.length ys.length sz byt (Zaa e ys) (Zaa e (xs ++ ys)) n' :=
 ⟨by rw [ZbB he, Nat.zero_add], by rw [Nat.zero_mul, List.drop_zero, Ze3], hn, hb⟩
theorem ZrK {α : Type} (e : α → List D) (x : α) : Zaa e [x] = (e x).map .d := by simp [Zaa]
theorem Zjt {α : Type} {sz : Nat} {e : α → List D} (xs : List α) (hz : sz ≠ 0) (he : ∀ x, (e x).length = sz) : FzR (Zaa e xs) 0 xs.length sz (xs.map e) :=
 ⟨by simp, hz, fun q hq => by obtain ⟨x, _, rfl⟩ := List.mem_map.1 hq; exact he x, by rw [ZbB he]; simp, by rw [Nat.zero_mul, List.drop_zero, ← ZbB he xs, List.take_length]; rfl⟩
theorem Zj6 {α : Type} {e e' : α → List D} {xs : List α} {i : Int} {z : α} (h0 : 0 ≤ i) (hi : i < xs.length) (he : ∀ x, e x = e' x) : Zvl (xs.map e) i (e' (xs.getD i.toNat z)) := by
 have h := Zz3 (e := e) (e' := e') (xs := xs) (i := i.toNat) (z := z) (by omega) he
 rwa [Int.toNat_of_nonneg h0] at h
theorem ZG3 (s : ByteArray) : s.data.toList.length = s.size := by simp
theorem Zwh {s : ByteArray} {i : Nat} {x : UInt8} (h : s.data.toList[i]? = some x) : ZAe s (i : Nat) (x.toNat : Nat) := ⟨by omega, x, by simpa using h, rfl⟩
theorem Zx8 {s : ByteArray} {i : Nat} (h : i < s.size) : ZAe s (i : Nat) ((s.data.toList.getD i 0).toNat : Nat) := by
 refine Zwh ?_
 rw [List.getD_eq_getElem?_getD, List.getElem?_eq_getElem (by rw [ZG3]; exact h)]; rfl
theorem Zej {α : Type} {sz byt c : Nat} {e : α → List D} {news : List AV} (xs ys : List α) (he : ∀ x, (e x).length = sz) (hc : ys.length = c) (hn : news = Zaa e ys) (hb : (xs.length + ys.length) * byt ≤ 140737488355328) :
  Zyl (Zaa e xs) 0 xs.length c sz byt news (Zaa e (xs ++ ys)) (xs ++ ys).length := by
 subst hc; subst hn
 exact ZrH xs ys he (by rw [List.length_append]) (by rw [List.length_append]; exact hb)
section
variable {P : Program} {l : Nat} {r : Ren} {f : FuncId} {xs xs' : List AV} {hb : List (Key × Blk)} {x x' : AV}
def Ze5 (P : Program) (l : Nat) (no : Key → Prop) (H : Hp) (c : AV) (aZ : List AV) (y : AV) : Prop :=
 ∃ f first caps, c = .fn (.func f) first caps ∧ ∀ l' H', l ≤ l' → (∀ k : Key, k.1 ≤ l → ¬ no k → H' k = H k) → ZbP P f l' (first ++ aZ ++ caps) H' (fun y' H'' => y' = y ∧ H'' = H')
theorem Zso {i : Nat} {c : AV} (hθ : r.θ i = c) (h : Ze5 P l r.no r.H0 c xs' x') (h1 : Zap r xs = xs') (h2 : ren r x = x') : ZmS P l r i xs hb x := by
 obtain ⟨f, first, caps, rfl, h⟩ := h
 exact ⟨f, first, caps, hθ, fun H' _ ho => by rw [h1, h2]; exact h (l + 1) H' (Nat.le_succ l) ho⟩
theorem Ztq {H : Hp} {no : Key → Prop} {aZ : List AV} {y : AV} (h : ∀ l' H', ZbP P f l' aZ H' (fun y' H'' => y' = y ∧ H'' = H')) : Ze5 P l no H (.fn (.func f) [] []) aZ y :=
 ⟨f, [], [], rfl, fun l' H' _ _ => by simpa using h l' H'⟩
end
section
variable {P : Program} {T : Nat → Option TI} {n : Nat} {C : Cx} {τ : St} {Q : Exit → St → Prop}
theorem Zwj (hC : CxOk C) (hT : TOk P T) (hm : P.follows .mixedOrders = true) {os : Nat} {fx : List Nat} (hO : C.outs = os) (hF : C.fx = fx) {c : Code} (a : AT) (lf lx : Lf) (rs : List ResultVar) {Post : AV → List Blk → Prop} (q : Ren → (Exit → St → Prop) → (AV → List Blk → Prop) → Prop)
  (hq : ∀ r Q Post, ZcA P T C.l n os r c a τ (KB T rs os fx r Post lf lx Q) = q r Q Post) (hQ : ∀ τ, FQ T rs os Post .ret τ → Q .ret τ) (h : ∀ r, r.θ = C.θ → r.H0 = C.H0 → r.κ = C.κ → r.no = C.no → q r Q Post) : LW P n C c τ Q :=
 ZDT hC hT hm a lf lx (by rw [hO]; exact hQ) (fun γ => by rw [hO, hF, hq]; exact h _ rfl rfl rfl rfl)
theorem ZwK (hC : CxOk C) (hT : TOk P T) (hm : P.follows .mixedOrders = true) {os : Nat} (hO : C.outs = os) {c : Code} (a : AT) (rs : List ResultVar) {Post : AV → List Blk → Prop} (q : Ren → (AV → List Blk → Prop) → Prop)
  (hq : ∀ r Post, ZcA P T C.l n os r c a τ (KF T rs os Post) = q r Post) (h : ∀ r, r.θ = C.θ → r.H0 = C.H0 → r.κ = C.κ → r.no = C.no → q r Post) : LW P n C c τ (FQ T rs os Post) := by
 subst hO
 exact ZA0 hC hT hm a (fun γ => by rw [hq]; exact h _ rfl rfl rfl rfl)
mutual
theorem Zs7 {H : Hp} : ∀ (x : AV) {a : AT} {K K' : AV → AT → Prop}, (∀ y a, K y a → K' y a) → frz H x a K → frz H x a K'
 | .d x, a, K, K', hk, h => hk _ _ h
 | .e0, a, K, K', hk, h => hk _ _ h
 | .agg xs, a, K, K', hk, h => ZiQ xs (fun ys a h => hk _ _ h) h
 | .ref k g off m, a, K, K', hk, h => by
  unfold frz at h ⊢
  split at h
  ·exact hk _ _ h
  ·split at h
   ·exact ⟨h.1, hk _ _ h.2⟩
   ·exact h.elim
  ·exact h.elim
 | .top, a, K, K', hk, h => by simp only [frz] at h
 | .p _, a, K, K', hk, h => by simp only [frz] at h
 | .ptr _ _ _, a, K, K', hk, h => by simp only [frz] at h
 | .mp k g, a, K, K', hk, h => by
  unfold frz at h ⊢
  split at h
  ·exact hk _ _ h
  ·exact hk _ _ h
  ·exact h.elim
 | .iptr _ _, a, K, K', hk, h => by simp only [frz] at h
 | .fn _ _ _, a, K, K', hk, h => by simp only [frz] at h
 | .tup _, a, K, K', hk, h => by simp only [frz] at h
theorem ZiQ {H : Hp} : ∀ (xs : List AV) {a : AT} {K K' : List AV → AT → Prop}, (∀ y a, K y a → K' y a) → ZvV H xs a K → ZvV H xs a K'
 | [], a, K, K', hk, h => hk _ _ h
 | x :: xs, a, K, K', hk, h => by
  simp only [ZvV] at h ⊢
  exact Zs7 x (fun y a h => ZiQ xs (fun ys a h => hk _ _ h) h) h
end
end
end Go.Eng
namespace Go.Eng
set_option linter.all false
open Go Go.RowKit
theorem ZbC {α : Type} (e : α → List D) (x : α) (xs : List α) : Zaa e (x :: xs) = (e x).map .d ++ Zaa e xs := by simp [Zaa]
theorem Zc9 {α : Type} {e : α → List D} {sz : Nat} (hl : ∀ x, (e x).length = sz) : ∀ (xs : List α) (j : Nat), (Zaa e xs).drop (j * sz) = Zaa e (xs.drop j)
 | [], j => by simp [Zaa]
 | x :: xs, 0 => by simp
 | x :: xs, j + 1 => by
  have h1 : ((e x).map AV.d).length = sz := by rw [List.length_map, hl]
  rw [ZbC, Nat.add_mul, Nat.one_mul, Nat.add_comm, ← List.drop_drop, List.drop_left' h1, Zc9 hl xs j]
  rfl
theorem Ze8 {α : Type} {e : α → List D} {sz : Nat} (hl : ∀ x, (e x).length = sz) : ∀ (xs : List α) (j : Nat), (Zaa e xs).take (j * sz) = Zaa e (xs.take j)
 | [], j => by simp [Zaa]
 | x :: xs, 0 => by simp [Zaa]
 | x :: xs, j + 1 => by
  have h1 : ((e x).map AV.d).length = sz := by rw [List.length_map, hl]
  rw [ZbC, List.take_succ_cons, ZbC, Nat.add_mul, Nat.one_mul, Nat.add_comm, List.take_append, h1, Nat.add_sub_cancel_left, Ze8 hl xs j, List.take_of_length_le (by omega)]
theorem Zpz {α : Type} {xs : List α} {j : Nat} {z : α} (hj : j < xs.length) : xs.drop j = xs.getD j z :: xs.drop (j + 1) := by
 rw [List.drop_eq_getElem_cons hj, List.getD_eq_getElem?_getD, List.getElem?_eq_getElem hj]; rfl
theorem ZfJ {α : Type} {e e' : α → List D} {xs : List α} {j sz : Nat} {z : α} (hj : j < xs.length) (hl : ∀ x, (e x).length = sz) (he : ∀ x, e x = e' x) : Zbv (Zaa e xs) (j * sz) ((e' (xs.getD j z)).map .d) := by
 unfold Zbv
 rw [Zc9 hl, Zpz (z := z) hj, ZbC, he, List.take_left]
theorem ZiH {α : Type} {e e' : α → List D} {xs : List α} {j sz o : Nat} {z : α} {c : List AV} (hj : j < xs.length) (hl : ∀ x, (e x).length = sz) (he : ∀ x, e x = e' x)
  (hc : (((e' (xs.getD j z)).map .d).drop o).take c.length = c) (ho : o + c.length ≤ sz) : Zbv (Zaa e xs) (j * sz + o) c := by
 unfold Zbv
 have h1 : ((e' (xs.getD j z)).map AV.d).length = sz := by rw [List.length_map, ← he, hl]
 rw [← List.drop_drop, Zc9 hl, Zpz (z := z) hj, ZbC, he, List.drop_append_of_le_length (by omega), List.take_append_of_le_length (by rw [List.length_drop]; omega), hc]
theorem Zy9 {α : Type} {e : α → List D} {xs : List α} {j sz : Nat} {y : α} (hj : j < xs.length) (hl : ∀ x, (e x).length = sz) : StS (Zaa e xs) (j * sz) ((e y).map .d) (Zaa e (xs.set j y)) := by
 have h1 : ((e y).map AV.d).length = sz := by rw [List.length_map, hl]
 have h2 : (j + 1) * sz ≤ xs.length * sz := Nat.mul_le_mul_right _ hj
 rw [Nat.add_mul, Nat.one_mul] at h2
 refine ⟨by rw [h1, ZbB hl]; omega, ?_⟩
 rw [h1, Ze8 hl, show j * sz + sz = (j + 1) * sz from by rw [Nat.add_mul, Nat.one_mul], Zc9 hl, List.set_eq_take_append_cons_drop, if_pos hj, Ze3, ZbC, List.append_assoc]
end Go.Eng
namespace Go.Eng
set_option linter.all false
open Go Go.RowKit
def ZcO (r : Ren) : List (Key × Blk) → Hp → Hp
 | [], H => H
 | (k, b) :: rest, H => ZcO r rest (updH H (r.κ k) (Za7 r k b))
def ZiB (P : Program) (l : Nat) (r : Ren) (f : FuncId) (xs : List AV) (hb : List (Key × Blk)) (x : AV) (hb2 : List (Key × Blk)) (fr : List Key) : Prop :=
 ∀ H', (∀ p ∈ hb, (H' (r.κ p.1)).g = r.γ p.1 + p.2.g ∧ (p.2.live = true → H' (r.κ p.1) = Za7 r p.1 p.2)) → (∀ k : Key, k.1 ≤ l → ¬ r.no k → H' k = r.H0 k) →
  ZbP P f (l + 1) (Zap r xs) H' (fun y H'' => ∃ γ' : Key → Nat, (∀ k, k ∉ fr → γ' k = r.γ k) ∧ y = ren ⟨r.κ, γ', r.θ, r.H0, r.no⟩ x ∧ H'' = ZcO ⟨r.κ, γ', r.θ, r.H0, r.no⟩ hb2 H')
mutual
def Zdv (fr : List Key) : AV → Bool
 | .ref k _ _ _ => fr.any (Zdp k)
 | .ptr k _ _ => fr.any (Zdp k)
 | .mp k _ => fr.any (Zdp k)
 | .fn _ xs ys => ZcP fr xs || ZcP fr ys
 | .agg xs => ZcP fr xs
 | .tup xs => ZcP fr xs
 | .top => false
 | .d _ => false
 | .e0 => false
 | .p _ => false
 | .iptr _ _ => false
def ZcP (fr : List Key) : List AV → Bool
 | [] => false
 | x :: xs => Zdv fr x || ZcP fr xs
end
def Zex (fr : List Key) : List (Nat × AV) → List (Nat × AV)
 | [] => []
 | (j, x) :: r => (j, match Zdv fr x with | true => .top | false => x) :: Zex fr r
def ZcW (ks fr fl : List Key) : List (Key × Blk) → List (Key × Blk)
 | [] => []
 | (k, b) :: r => match ks.any (Zdp k), fl.any (Zdp k) || !ZcP fr b.cells with
  | false, true => (k, b) :: ZcW ks fr fl r
  | _, _ => ZcW (k :: ks) fr fl r
def Zus : Option Nat → AV → List (Nat × AV) → List (Nat × AV)
 | some d, x, r => (d, x) :: r
 | none, _, r => r
def okK (os : Nat) (k : Key) : Bool := Nat.beq k.1 1 || (Nat.beq k.1 0 && Nat.ble (k.2 + 1) os)
def ZjI (os : Nat) : List (Key × Blk) → Bool
 | [] => true
 | (k, b) :: r => okK os k && b.live && !(r.any fun p => Zdp k p.1) && ZjI os r
mutual
theorem Zgs {r : Ren} {γ' : Key → Nat} {fr : List Key} (hγ : ∀ k, k ∉ fr → γ' k = r.γ k) : ∀ (x : AV), Zdv fr x = false → ren ⟨r.κ, γ', r.θ, r.H0, r.no⟩ x = ren r x
 | .ref k g off n, h => by simp only [Zdv] at h; simp only [ren]; rw [hγ k (ZgB h)]
 | .ptr k g off, h => by simp only [Zdv] at h; simp only [ren]; rw [hγ k (ZgB h)]
 | .mp k g, h => by simp only [Zdv] at h; simp only [ren]; rw [hγ k (ZgB h)]
 | .fn f xs ys, h => by
  simp only [Zdv, Bool.or_eq_false_iff] at h
  have e1 := ZbN hγ xs h.1
  have e2 := ZbN hγ ys h.2
  cases f <;> simp only [ren, e1, e2]
 | .agg xs, h => by simp only [Zdv] at h; simp only [ren, ZbN hγ xs h]
 | .tup xs, h => by simp only [Zdv] at h; simp only [ren, ZbN hγ xs h]
 | .top, _ => by simp [ren]
 | .d _, _ => by simp [ren]
 | .e0, _ => by simp [ren]
 | .p _, _ => by simp [ren]
 | .iptr _ _, _ => by simp [ren]
theorem ZbN {r : Ren} {γ' : Key → Nat} {fr : List Key} (hγ : ∀ k, k ∉ fr → γ' k = r.γ k) : ∀ (xs : List AV), ZcP fr xs = false → Zap ⟨r.κ, γ', r.θ, r.H0, r.no⟩ xs = Zap r xs
 | [], _ => by simp [Zap]
 | x :: xs, h => by
  simp only [ZcP, Bool.or_eq_false_iff] at h
  simp only [Zap, Zgs hγ x h.1, ZbN hγ xs h.2]
theorem ZgB {k : Key} {fr : List Key} (h : fr.any (Zdp k) = false) : k ∉ fr := fun hm => by
 have : fr.any (Zdp k) = true := List.any_eq_true.2 ⟨k, hm, Za0.2 rfl⟩
 rw [this] at h; cases h
end
def Zb7 : Code → Array Oper
 | .region _ ops _ => ops
 | _ => #[]
def ZDA : Code → Bool
 | .region _ _ false => true
 | _ => false
def ZiP {α : Type} : Nat → List α → List α
 | 0, l => l
 | _ + 1, [] => []
 | n + 1, _ :: l => ZiP n l
def Znh {α : Type} : Nat → List α → List α
 | 0, _ => []
 | _ + 1, [] => []
 | n + 1, x :: l => x :: Znh n l
theorem ZhG {α : Type} : ∀ (n : Nat) (l : List α), ZiP n l = l.drop n
 | 0, l => rfl
 | n + 1, [] => rfl
 | n + 1, x :: l => ZhG n l
theorem ZlP {α : Type} : ∀ (n : Nat) (l : List α), Znh n l = l.take n
 | 0, l => rfl
 | n + 1, [] => rfl
 | n + 1, x :: l => by rw [Znh, ZlP n l]; rfl
def LO (P : Program) (n : Nat) (C : Cx) (c : Code) (k : Nat) (τ : St) (Q : Exit → St → Prop) : Prop :=
 ∀ γ σ act w, C.G γ → RG (C.r γ) C.l C.outs [] τ σ → R C.l n C.B σ act w → wpList P (Zb7 c) (fun e a' w' => ∃ σ', Is n C (Q e) σ' ∧ R C.l n C.B σ' a' w') ((Zb7 c).toList.drop k) act w
def Zey (c : Code) (k : Nat) : Option (Option Nat × Operand × List Operand) :=
 match nth (Zb7 c).toList k with
 | some o => (match o.guard, o.op with
  | none, .call cl => (match cl.callee with | .value f => some (o.dst, f, cl.args.toList) | _ => none)
  | _, _ => none)
 | none => none
def wrL (C : Cx) : List (Key × Blk) → Prop
 | [] => True
 | (k, _) :: r => match Nat.beq k.1 1 with | true => wrL C r | false => C.no (C.κ k) ∧ wrL C r
def flL (H : Hp) : List Key → Prop
 | [] => True
 | k :: r => Zha (H k).cells ∧ flL H r
def ZGv (fr : List Key) (hb2 : List (Key × Blk)) : Bool := fr.all fun k => hb2.any fun p => Zdp k p.1
def ZlL (fr : List Key) (fx : List Nat) : Bool := fr.all fun k => !(Nat.beq k.1 0 && fx.any (Nat.beq k.2))
def ZjL : List (Key × Blk) → Bool
 | [] => true
 | (_, b) :: r => Nat.beq b.g 0 && ZjL r
def ZIf : Option Nat → (Nat → AV) → AV → Nat → AV
 | some d, s, v => upd s d v
 | none, s, _ => s
def ZqK (n : Nat) : Option Nat → Bool
 | some d => Nat.ble (d + 1) n
 | none => true
section
variable {P : Program} {T : Nat → Option TI} {n : Nat} {C : Cx} {τ : St} {Q : Exit → St → Prop}
theorem ZmI {c : Code} (hc : ZDA c = true) (h : LO P n C c 0 τ Q) : LW P n C c τ Q := by
 cases c with
 | region id ops dr =>
  cases dr with
  | true => cases hc
  | false =>
   obtain ⟨opl, rfl⟩ : ∃ l : List Oper, ops = l.toArray := ⟨ops.toList, by simp⟩
   intro γ σ hg hG act w hR
   have := h γ σ act w hg hG hR
   simp only [Zb7, List.drop_zero] at this
   exact wp_region_lit this
 | _ => cases hc
theorem ZFw (hC : CxOk C) (hT : TOk P T) {os : Nat} {fx : List Nat} (hO : C.outs = os) (hF : C.fx = fx) {c : Code} {k : Nat} (m : Nat) (a : AT) (lf : Lf) (q : Ren → (St → Prop) → Prop)
  (hq : ∀ r Φ, Zc7 r os a τ (fun τ a => Zi8 P T C.l n r ((Zb7 c).toList.map (·.dst)) (Znh m (ZiP k (Zb7 c).toList)) [] a (fun τ' env a' => Zc7 r os a' (ZmD env τ') (fun τ _ => ZfS fx lf τ Φ)) τ) = q r Φ)
  (h : ∀ r, r.θ = C.θ → r.H0 = C.H0 → r.κ = C.κ → r.no = C.no → q r (fun τ' => LO P n C c (k + m) τ' Q)) : LO P n C c k τ Q := by
 subst hO
 subst hF
 intro γ σ act w hg hG hR
 have h1 := h (C.r γ) rfl rfl rfl rfl
 rw [← hq] at h1
 obtain ⟨τ₁, a₁, σ₁, h2, hG1, hw1⟩ := Zaq (n := n) hC a h1 hG
 have e : (Zb7 c).toList.drop k = Znh m (ZiP k (Zb7 c).toList) ++ (Zb7 c).toList.drop (k + m) := by
  rw [ZlP, ZhG, ← List.drop_drop, List.take_append_drop]
 rw [e]
 refine ZcF (hC.ren γ) hT (B := C.B) _ (fun τ' env' a' σ' act' w' k1 k2 k3 => ?_) _ [] a₁ τ₁ σ₁ act w h2 hG1 (hw1 _ _ hR)
 obtain ⟨σ₂, g1, g2⟩ := Zdi (n := n) k2
 obtain ⟨τ₃, a₃, σ₃, f1, f2, f3⟩ := Zaq (n := n) hC a' k1 g1
 obtain ⟨γ', τ₄, σ₄, j0, j1, j2, j3⟩ := Zbw (n := n) hC f1 hg f2
 exact j1 γ' σ₄ act' w' j0 j2 (j3 _ _ (f3 _ _ (g2 _ _ k3)))
theorem ZES (hC : CxOk C) (hT : TOk P T) {os : Nat} {fx : List Nat} (hO : C.outs = os) (hF : C.fx = fx) {c : Code} {k : Nat} (a : AT) (lf : Lf) (q : Ren → (Exit → St → Prop) → Prop)
  (hq : ∀ r Φ, Zc7 r os a τ (fun τ a => Zi8 P T C.l n r ((Zb7 c).toList.map (·.dst)) (ZiP k (Zb7 c).toList) [] a (fun τ' env a' => Zc7 r os a' (ZmD env τ') (fun τ _ => ZfS fx lf τ (Φ .normal))) τ) = q r Φ)
  (h : ∀ r, r.θ = C.θ → r.H0 = C.H0 → r.κ = C.κ → r.no = C.no → q r Q) : LO P n C c k τ Q := by
 subst hO
 subst hF
 intro γ σ act w hg hG hR
 have h1 := h (C.r γ) rfl rfl rfl rfl
 rw [← hq] at h1
 obtain ⟨τ₁, a₁, σ₁, h2, hG1, hw1⟩ := Zaq (n := n) hC a h1 hG
 have e : (Zb7 c).toList.drop k = ZiP k (Zb7 c).toList ++ [] := by rw [ZhG, List.append_nil]
 rw [e]
 refine ZcF (hC.ren γ) hT (B := C.B) _ (fun τ' env' a' σ' act' w' k1 k2 k3 => ?_) _ [] a₁ τ₁ σ₁ act w h2 hG1 (hw1 _ _ hR)
 obtain ⟨σ₂, g1, g2⟩ := Zdi (n := n) k2
 obtain ⟨τ₃, a₃, σ₃, f1, f2, f3⟩ := Zaq (n := n) hC a' k1 g1
 obtain ⟨γ', τ₄, σ₄, j0, j1, j2, j3⟩ := Zbw (n := n) hC f1 hg f2
 unfold wpList
 exact ⟨σ₄, ⟨γ', τ₄, σ₄, j0, j1, j2, Wk.refl _⟩, j3 _ _ (f3 _ _ (g2 _ _ k3))⟩
theorem Ze4 : ∀ {hs : List (Key × Blk)}, ZjL hs = true → ∀ k, (lkH hs k).g = 0
 | [], _, k => rfl
 | (k', b) :: r, h, k => by
  simp only [ZjL, Bool.and_eq_true] at h
  simp only [lkH]
  split
  ·exact Nat.eq_of_beq_eq_true h.1
  ·exact Ze4 h.2 k
theorem ZkF {k : Key} {ks : List Key} : ks.any (Zdp k) = true ↔ k ∈ ks := by
 rw [List.any_eq_true]
 exact ⟨fun ⟨q, h1, h2⟩ => by rw [Za0.1 h2]; exact h1, fun h => ⟨k, h, Za0.2 rfl⟩⟩
theorem ZzC (a b : List (Key × Blk)) (k : Key) : lkH (a ++ b) k = if k ∈ a.map (·.1) then lkH a k else lkH b k := by
 induction a with
 | nil => simp
 | cons p a ih =>
  obtain ⟨q, b'⟩ := p
  simp only [List.cons_append, lkH, List.map_cons, List.mem_cons]
  cases hq : Zdp q k with
  | true => rw [if_pos (.inl (Za0.1 hq).symm)]
  | false =>
   have : k ≠ q := fun e => by rw [Za0.2 e.symm] at hq; cases hq
   simp only [this, false_or]
   exact ih
theorem Zcz {fr fl : List Key} : ∀ (hs : List (Key × Blk)) (ks : List Key) (k : Key), (k ∈ ks → lkH (ZcW ks fr fl hs) k = Zn3) ∧ (k ∉ ks → (lkH (ZcW ks fr fl hs) k = lkH hs k ∧ (k ∈ fl ∨ ZcP fr (lkH hs k).cells = false)) ∨ lkH (ZcW ks fr fl hs) k = Zn3)
 | [], ks, k => ⟨fun _ => rfl, fun _ => .inr rfl⟩
 | (q, b) :: r, ks, k => by
  simp only [ZcW]
  split
  ·rename_i h1 h2
   have hqk : q ∉ ks := fun hm => by rw [ZkF.2 hm] at h1; cases h1
   simp only [lkH]
   cases hq : Zdp q k with
   | true =>
    have hq := Za0.1 hq
    subst hq
    refine ⟨fun h => absurd h hqk, fun _ => .inl ⟨rfl, ?_⟩⟩
    simp only [Bool.or_eq_true, Bool.not_eq_true'] at h2
    rcases h2 with h2 | h2
    ·exact .inl (ZkF.1 h2)
    ·exact .inr h2
   | false => exact Zcz r ks k
  ·obtain ⟨h1, h2⟩ := Zcz (fr := fr) (fl := fl) r (q :: ks) k
   refine ⟨fun h => h1 (List.mem_cons_of_mem _ h), fun h => ?_⟩
   by_cases hq : k = q
   ·exact .inr (h1 (by rw [hq]; exact List.mem_cons_self ..))
   ·rcases h2 (fun hm => (List.mem_cons.1 hm).elim hq h) with ⟨e1, e2⟩ | e
    ·have : Zdp q k = false := by
      cases hb : Zdp q k with
      | true => exact absurd (Za0.1 hb).symm hq
      | false => rfl
     simp only [lkH, this]
     exact .inl ⟨e1, e2⟩
    ·exact .inr e
theorem ZcJ {r : Ren} : ∀ (hb2 : List (Key × Blk)) (H : Hp) (q : Key), (∀ p ∈ hb2, r.κ p.1 ≠ q) → ZcO r hb2 H q = H q
 | [], H, q, h => rfl
 | (k, b) :: rest, H, q, h => by
  simp only [ZcO]
  rw [ZcJ rest _ q (fun p hp => h p (List.mem_cons_of_mem _ hp)), Zad _ _ (fun e => h (k, b) (List.mem_cons_self ..) e.symm)]
theorem Zml {r : Ren} {os : Nat} (hinj : ∀ q k : Key, okK os q = true → okK os k = true → q ≠ k → r.κ q ≠ r.κ k) : ∀ (hb2 : List (Key × Blk)) (H : Hp), ZjI os hb2 = true → ∀ k b, (k, b) ∈ hb2 → ZcO r hb2 H (r.κ k) = Za7 r k b ∧ lkH hb2 k = b ∧ okK os k = true ∧ b.live = true
 | [], H, _, k, b, hm => by cases hm
 | (q, c) :: rest, H, hok, k, b, hm => by
  simp only [ZjI, Bool.and_eq_true, Bool.not_eq_true'] at hok
  obtain ⟨⟨⟨h1, h2⟩, h3⟩, h4⟩ := hok
  have hno : ∀ p ∈ rest, p.1 ≠ q := fun p hp e => by
   have : (rest.any fun p => Zdp q p.1) = true := List.any_eq_true.2 ⟨p, hp, Za0.2 e.symm⟩
   rw [this] at h3; cases h3
  have hoks : ∀ (l : List (Key × Blk)), ZjI os l = true → ∀ p ∈ l, okK os p.1 = true := by
   intro l
   induction l with
   | nil => intro _ p hp; cases hp
   | cons p l ih =>
    obtain ⟨p1, p2⟩ := p
    intro hl p hp
    simp only [ZjI, Bool.and_eq_true] at hl
    rcases List.mem_cons.1 hp with rfl | hp
    ·exact hl.1.1.1
    ·exact ih hl.2 p hp
  simp only [ZcO]
  rcases List.mem_cons.1 hm with e | hm
  ·cases e
   refine ⟨?_, by simp only [lkH, Za0.2 rfl], h1, h2⟩
   rw [ZcJ rest _ _ (fun p hp => hinj _ _ (hoks rest h4 p hp) h1 (hno p hp)), Zab]
  ·obtain ⟨g1, g2, g3, g4⟩ := Zml hinj rest (updH H (r.κ q) (Za7 r q c)) h4 k b hm
   refine ⟨g1, ?_, g3, g4⟩
   have : Zdp q k = false := by
    cases hb : Zdp q k with
    | true => exact absurd (Za0.1 hb).symm (hno _ hm)
    | false => rfl
   simp only [lkH, this]
   exact g2
theorem ZoO : ∀ {hb2 : List (Key × Blk)}, wrL C hb2 → ∀ p ∈ hb2, p.1.1 ≠ 1 → C.no (C.κ p.1)
 | (k, b) :: r, h, p, hp, hne => by
  simp only [wrL] at h
  split at h
  ·rename_i hk
   rcases List.mem_cons.1 hp with rfl | hp
   ·exact absurd (Nat.eq_of_beq_eq_true hk) hne
   ·exact ZoO h p hp hne
  ·rcases List.mem_cons.1 hp with rfl | hp
   ·exact h.1
   ·exact ZoO h.2 p hp hne
theorem Zpe {H : Hp} : ∀ {ks : List Key}, flL H ks → ∀ k ∈ ks, Zha (H k).cells
 | q :: r, h, k, hk => by
  rcases List.mem_cons.1 hk with rfl | hk
  ·exact h.1
  ·exact Zpe h.2 k hk
theorem Zc4 {os : Nat} {k : Key} (h : okK os k = true) : k.1 = 1 ∨ (k.1 = 0 ∧ k.2 < os) := by
 simp only [okK, Bool.or_eq_true, Bool.and_eq_true] at h
 rcases h with h | ⟨h1, h2⟩
 ·exact .inl (Nat.eq_of_beq_eq_true h)
 ·exact .inr ⟨Nat.eq_of_beq_eq_true h1, Nat.le_of_ble_eq_true h2⟩
theorem Zll {fr : List Key} : ∀ (ss : List (Nat × AV)) (j : Nat), lkS (Zex fr ss) j = .top ∨ (lkS (Zex fr ss) j = lkS ss j ∧ Zdv fr (lkS ss j) = false)
 | [], j => .inl rfl
 | (i, x) :: r, j => by
  simp only [Zex, lkS]
  split
  ·split
   ·exact .inl rfl
   ·rename_i h; exact .inr ⟨rfl, h⟩
  ·exact Zll r j
theorem Zsl (hC : CxOk C) {os : Nat} {fx : List Nat} (hO : C.outs = os) (hF : C.fx = fx) {c : Code} {k : Nat} {ss : List (Nat × AV)} {hs : List (Key × Blk)} (dst : Option Nat) (fo : Operand) (aZ : List Operand) (hop : Zey c k = some (dst, fo, aZ))
  (f : FuncId) (first caps xs : List AV) (hf : ev (lkS ss) fo = .fn (.func f) first caps) (hxs : first ++ aZ.map (ev (lkS ss)) ++ caps = xs) (ks : List Key) (hb : List (Key × Blk)) (hhb : (ks.map fun k => (k, lkH hs k)) = hb)
  {ι : Type} (I : ι → Prop) (xF : ι → AV) (hbF : ι → List (Key × Blk)) (fr fl : List Key) (hok0 : (ZlL fr fx && ZjL hs && ZqK n dst && ks.all (okK os)) = true) (hok : ∀ i, (ZjI os (hbF i) && ZGv fr (hbF i)) = true) (hwr : ∀ i, wrL C (hbF i)) (hfl : flL (lkH hs) fl)
  (hcall : ∀ r : Ren, r.θ = C.θ → r.H0 = C.H0 → r.κ = C.κ → r.no = C.no → ∀ H', (∀ p ∈ hb, (H' (r.κ p.1)).g = r.γ p.1 + p.2.g ∧ (p.2.live = true → H' (r.κ p.1) = Za7 r p.1 p.2)) → (∀ k : Key, k.1 ≤ C.l → ¬ r.no k → H' k = r.H0 k) →
   ZbP P f (C.l + 1) (Zap r xs) H' (fun y H'' => ∃ i, I i ∧ ∃ γ' : Key → Nat, (∀ k, k ∉ fr → γ' k = r.γ k) ∧ y = ren ⟨r.κ, γ', r.θ, r.H0, r.no⟩ (xF i) ∧ H'' = ZcO ⟨r.κ, γ', r.θ, r.H0, r.no⟩ (hbF i) H'))
  (h : ∀ i, I i → LO P n C c (k + 1) (mkS (Zus dst (xF i) (Zex fr ss)) (hbF i ++ ZcW ((hbF i).map (·.1)) fr fl hs)) Q) : LO P n C c k (mkS ss hs) Q := by
 subst hO
 subst hF
 simp only [Bool.and_eq_true] at hok0
 obtain ⟨⟨⟨k3, k4⟩, k5⟩, k6⟩ := hok0
 intro γ σ act w hg hG hR
 have hr := hC.ren γ
 have hs' : ∀ j, σ.s j = ren (C.r γ) (lkS ss j) := fun j => (hG.s j).1 Zan
 have heval : ∀ y : Operand, ev σ.s y = ren (C.r γ) (ev (lkS ss) y) := fun y => Zfx (c := []) hG Zan (by cases y <;> rfl)
 unfold Zey at hop
 split at hop
 case h_2 => cases hop
 rename_i o ho
 split at hop
 case h_2 => cases hop
 rename_i cl hgd hopc
 split at hop
 case h_2 => cases hop
 rename_i fo' hcal
 simp only [Option.some.injEq, Prod.mk.injEq] at hop
 obtain ⟨hd, rfl, rfl⟩ := hop
 rw [Zbh] at ho
 have hlt : k < (Zb7 c).toList.length := by
  rcases Nat.lt_or_ge k (Zb7 c).toList.length with h | h
  ·exact h
  ·rw [List.getElem?_eq_none h] at ho; cases ho
 have hrest : (Zb7 c).toList.drop k = o :: (Zb7 c).toList.drop (k + 1) := by
  rw [List.drop_eq_getElem_cons hlt]
  rw [List.getElem?_eq_getElem hlt] at ho
  simp only [Option.some.injEq] at ho
  rw [ho]
 rw [hrest]
 have hinj : ∀ q k : Key, okK C.outs q = true → okK C.outs k = true → q ≠ k → (C.r γ).κ q ≠ (C.r γ).κ k := fun q k h1 h2 h3 => hr.ne (Zc4 h1) (Zc4 h2) h3
 have hA := hcall (C.r γ) rfl rfl rfl rfl σ.H (fun p hp => by
  rw [← hhb] at hp
  obtain ⟨q, hq, rfl⟩ := List.mem_map.1 hp
  have hq' := Zc4 (List.all_eq_true.1 k6 q hq)
  refine ⟨?_, fun hl => hG.h q hl⟩
  obtain ⟨q1, q2⟩ := q
  simp only at hq'
  rcases hq' with rfl | ⟨rfl, h2⟩
  ·have := hG.g q2
   rw [← hr.own] at this
   exact this
  ·exact hG.go q2 h2) hG.o
 have hargs : Zap (C.r γ) xs = Zap (C.r γ) first ++ cl.args.toList.map (ev σ.s) ++ Zap (C.r γ) caps := by
  rw [← hxs, Zb9, Zb9]
  congr 2
  rw [Zb1, List.map_map]
  exact List.map_congr_left fun y _ => (heval y).symm
 have hfe : ev σ.s fo' = .fn (.func f) (Zap (C.r γ) first) (Zap (C.r γ) caps) := by rw [heval, hf]; simp [ren]
 have hrop : rOp P C.l n o (fun σ' => ∃ i, I i ∧ ∃ γ' : Key → Nat, (∀ q, q ∉ fr → γ' q = γ q) ∧ σ' = ⟨ZIf dst σ.s (ren (C.r γ') (xF i)), ZcO (C.r γ') (hbF i) σ.H⟩) σ := by
  unfold rOp
  rw [hopc]
  simp only [hcal, hfe]
  rw [hargs] at hA
  refine hA.mono fun y H'' ⟨i, hi, γ', e1, e2, e3⟩ => ?_
  unfold ZBN ZfQ
  rw [hd]
  cases dst with
  | none => exact ⟨i, hi, γ', e1, by rw [e3]; rfl⟩
  | some d => exact ⟨Nat.le_of_ble_eq_true k5, i, hi, γ', e1, by rw [e2, e3]; rfl⟩
 refine ZcK (by simp [Region.wanted, hgd]) (ZcC hrop) hR fun σ' act' w' hK hR' => ?_
 obtain ⟨i, hi, γ', e1, rfl⟩ := hK
 have h := h i hi
 have hwr := hwr i
 have hok := hok i
 generalize hbF i = hb2 at h hwr hok hR'
 generalize xF i = x at h hR'
 simp only [Bool.and_eq_true] at hok
 obtain ⟨k1, k2⟩ := hok
 have hsub : ∀ q, q ∈ fr → ∃ b, (q, b) ∈ hb2 := fun q hq => by
  obtain ⟨p, hp, hk⟩ := List.any_eq_true.1 (List.all_eq_true.1 k2 q hq)
  rw [Za0.1 hk]; exact ⟨p.2, hp⟩
 let τ2 : St := mkS (Zus dst x (Zex fr ss)) (hb2 ++ ZcW (hb2.map (·.1)) fr fl hs)
 have hlow : ∀ q, lkH (hb2 ++ ZcW (hb2.map (·.1)) fr fl hs) q = if q ∈ hb2.map (·.1) then lkH hb2 q else lkH (ZcW (hb2.map (·.1)) fr fl hs) q := fun q => ZzC _ _ _
 have hin : ∀ q, q ∈ hb2.map (·.1) → ∃ b, (q, b) ∈ hb2 := fun q hq => by obtain ⟨p, hp, rfl⟩ := List.mem_map.1 hq; exact ⟨p.2, hp⟩
 have hput : ∀ q b, (q, b) ∈ hb2 → ZcO (C.r γ') hb2 σ.H ((C.r γ').κ q) = Za7 (C.r γ') q b ∧ lkH hb2 q = b ∧ okK C.outs q = true ∧ b.live = true := Zml (r := C.r γ') hinj hb2 σ.H k1
 have hkeep : ∀ q, q ∉ hb2.map (·.1) → okK C.outs q = true → ZcO (C.r γ') hb2 σ.H ((C.r γ').κ q) = σ.H ((C.r γ').κ q) ∧ γ' q = γ q := fun q hq hkq => by
  refine ⟨ZcJ _ _ _ fun p hp => hinj _ _ (hput p.1 p.2 hp).2.2.1 hkq fun e => hq (List.mem_map.2 ⟨p, hp, e⟩), e1 q fun hf => ?_⟩
  obtain ⟨b, hb⟩ := hsub q hf
  exact hq (List.mem_map.2 ⟨_, hb, rfl⟩)
 have hgen : ∀ q, okK C.outs q = true → (σ.H (C.κ q)).g = γ q → (ZcO (C.r γ') hb2 σ.H (C.κ q)).g = γ' q + (lkH (hb2 ++ ZcW (hb2.map (·.1)) fr fl hs) q).g := fun q hkq hq0 => by
  rw [hlow]
  split
  ·rename_i hm
   obtain ⟨b, hb⟩ := hin q hm
   obtain ⟨a1, a2, _⟩ := hput q b hb
   rw [show C.κ q = (C.r γ').κ q from rfl, a1, a2]
   rfl
  ·rename_i hm
   obtain ⟨a1, a2⟩ := hkeep q hm hkq
   rw [show C.κ q = (C.r γ').κ q from rfl, a1, a2]
   have : (lkH (ZcW (hb2.map (·.1)) fr fl hs) q).g = 0 := by
    rcases (Zcz (fr := fr) (fl := fl) hs (hb2.map (·.1)) q).2 hm with ⟨e, _⟩ | e
    ·rw [e]; exact Ze4 k4 q
    ·rw [e]; rfl
   rw [this]
   exact hq0
 have hG2 : RG (C.r γ') C.l C.outs [] τ2 ⟨fun j => ren (C.r γ') (τ2.s j), ZcO (C.r γ') hb2 σ.H⟩ := by
  refine ⟨fun j => ⟨fun _ => rfl, fun hn => absurd Zan hn⟩, fun q hq => ?_, fun d => ?_, fun i hi => ?_, fun q hq => ?_, fun q hq hn => ?_⟩
  ·show ZcO (C.r γ') hb2 σ.H ((C.r γ').κ q) = Za7 (C.r γ') q (lkH (hb2 ++ ZcW (hb2.map (·.1)) fr fl hs) q)
   replace hq : (lkH (hb2 ++ ZcW (hb2.map (·.1)) fr fl hs) q).live = true := hq
   rw [hlow] at hq ⊢
   split at hq
   ·rename_i hm
    rw [if_pos hm]
    obtain ⟨b, hb⟩ := hin q hm
    obtain ⟨a1, a2, _⟩ := hput q b hb
    rw [a1, a2]
   ·rename_i hm
    rw [if_neg hm]
    rcases (Zcz (fr := fr) (fl := fl) hs (hb2.map (·.1)) q).2 hm with ⟨e, e'⟩ | e
    ·rw [e] at hq ⊢
     have hkq := hG.k q hq
     have hok : okK C.outs q = true := by
      obtain ⟨q1, q2⟩ := q
      simp only at hkq
      simp only [okK, Bool.or_eq_true, Bool.and_eq_true]
      rcases hkq with rfl | ⟨rfl, h2⟩
      ·exact .inl rfl
      ·exact .inr ⟨rfl, Nat.ble_eq_true_of_le h2⟩
     obtain ⟨a1, a2⟩ := hkeep q hm hok
     rw [a1]
     have hb := hG.h q hq
     have hcells : Zap (C.r γ') (lkH hs q).cells = Zap (C.r γ) (lkH hs q).cells := by
      rcases e' with e' | e'
      ·rw [ZbQ (Zpe hfl q e'), ZbQ (Zpe hfl q e')]
      ·exact ZbN (r := C.r γ) e1 _ e'
     show σ.H ((C.r γ).κ q) = _
     rw [hb]
     simp only [Za7]
     rw [hcells, show (C.r γ').γ q = γ' q from rfl, a2]
     rfl
    ·rw [e] at hq; cases hq
  ·have := hgen (1, d) rfl (by
    have := hG.g d
    rw [show ((mkS ss hs).H (1, d)).g = 0 from Ze4 k4 _] at this
    rw [hC.own]; exact this)
   rw [hC.own] at this
   exact this
  ·exact hgen (0, i) (by simp only [okK, Bool.or_eq_true, Bool.and_eq_true]; exact .inr ⟨rfl, Nat.ble_eq_true_of_le hi⟩) (by
    have := hG.go i hi
    rw [show ((mkS ss hs).H (0, i)).g = 0 from Ze4 k4 _] at this
    exact this)
  ·replace hq : (lkH (hb2 ++ ZcW (hb2.map (·.1)) fr fl hs) q).live = true := hq
   rw [hlow] at hq
   split at hq
   ·rename_i hm
    obtain ⟨b, hb⟩ := hin q hm
    exact Zc4 (hput q b hb).2.2.1
   ·rename_i hm
    rcases (Zcz (fr := fr) (fl := fl) hs (hb2.map (·.1)) q).2 hm with ⟨e, e'⟩ | e
    ·rw [e] at hq; exact hG.k q hq
    ·rw [e] at hq; cases hq
  ·show ZcO (C.r γ') hb2 σ.H q = C.H0 q
   rw [ZcJ _ _ _ fun p hp e => ?_]
   ·exact hG.o q hq hn
   ·by_cases h1 : p.1.1 = 1
    ·obtain ⟨⟨p1, p2⟩, p3⟩ := p
     simp only at h1
     subst h1
     rw [show (C.r γ').κ (1, p2) = (C.l + 1, p2) from hC.own p2] at e
     rw [← e] at hq
     simp at hq
     omega
    ·exact hn (by rw [← e]; exact ZoO hwr p hp h1)
 refine h γ' _ act' w' (hC.G γ γ' (fun i hi => e1 _ fun hm => ?_) hg) hG2 (R.weaken hR' fun j => ?_)
 ·have := List.all_eq_true.1 k3 _ hm
  simp only [Bool.not_eq_true', Bool.and_eq_false_iff] at this
  rcases this with h | h
  ·cases h
  ·have : (C.fx.any (Nat.beq i)) = true := List.any_eq_true.2 ⟨i, hi, by simp⟩
   rw [this] at h; cases h
 ·have old : ren (C.r γ') (lkS (Zex fr ss) j) = σ.s j ∨ ren (C.r γ') (lkS (Zex fr ss) j) = .top := by
   rcases Zll (fr := fr) ss j with e | ⟨e, e'⟩
   ·right; rw [e]; simp [ren]
   ·left
    rw [e, hs' j]
    exact Zgs (r := C.r γ) e1 _ e'
  show ren (C.r γ') (lkS (Zus dst x (Zex fr ss)) j) = _ ∨ ren (C.r γ') (lkS (Zus dst x (Zex fr ss)) j) = .top
  cases dst with
  | none => exact old
  | some d =>
   simp only [Zus, lkS, ZIf, upd]
   cases hj : Nat.beq d j with
   | true =>
    have := Nat.eq_of_beq_eq_true hj
    subst this
    left; rw [if_pos rfl]
   | false =>
    have : j ≠ d := fun e => by rw [e] at hj; simp at hj
    rw [if_neg this]
    exact old
theorem Zv9 (hC : CxOk C) {os : Nat} {fx : List Nat} (hO : C.outs = os) (hF : C.fx = fx) {c : Code} {k : Nat} {ss : List (Nat × AV)} {hs : List (Key × Blk)} (dst : Option Nat) (fo : Operand) (aZ : List Operand) (hop : Zey c k = some (dst, fo, aZ))
  (f : FuncId) (first caps xs : List AV) (hf : ev (lkS ss) fo = .fn (.func f) first caps) (hxs : first ++ aZ.map (ev (lkS ss)) ++ caps = xs) (ks : List Key) (hb : List (Key × Blk)) (hhb : (ks.map fun k => (k, lkH hs k)) = hb)
  (x : AV) (hb2 : List (Key × Blk)) (fr fl : List Key) (hok : (ZjI os hb2 && ZGv fr hb2 && ZlL fr fx && ZjL hs && ZqK n dst && ks.all (okK os)) = true) (hwr : wrL C hb2) (hfl : flL (lkH hs) fl)
  (hcall : ∀ r : Ren, r.θ = C.θ → r.H0 = C.H0 → r.κ = C.κ → r.no = C.no → ZiB P C.l r f xs hb x hb2 fr)
  (h : LO P n C c (k + 1) (mkS (Zus dst x (Zex fr ss)) (hb2 ++ ZcW (hb2.map (·.1)) fr fl hs)) Q) : LO P n C c k (mkS ss hs) Q := by
 simp only [Bool.and_eq_true] at hok
 obtain ⟨⟨⟨⟨⟨k1, k2⟩, k3⟩, k4⟩, k5⟩, k6⟩ := hok
 exact Zsl hC hO hF dst fo aZ hop f first caps xs hf hxs ks hb hhb (ι := Unit) (fun _ => True) (fun _ => x) (fun _ => hb2) fr fl (by simp only [Bool.and_eq_true]; exact ⟨⟨⟨k3, k4⟩, k5⟩, k6⟩) (fun _ => by simp only [Bool.and_eq_true]; exact ⟨k1, k2⟩) (fun _ => hwr) hfl
  (fun r h1 h2 h3 h4 H' a b => (hcall r h1 h2 h3 h4 H' a b).mono fun y H'' hh => ⟨(), trivial, hh⟩) fun _ _ => h
end
end Go.Eng
namespace Go.Eng
set_option linter.all false
open Go Go.RowKit
def kOf (l : Nat) (ks : List Key) : Key → Key
 | (0, i) => match nth ks i with | some k => k | none => (0, 0)
 | (_ + 1, d) => (l + 1, d)
def gOf (gs : List Nat) : Key → Nat
 | (0, i) => match nth gs i with | some g => g | none => 0
 | (_ + 1, _) => 0
def rOf (l : Nat) (ks : List Key) (gs : List Nat) (θ : Nat → AV) (H : Hp) : Ren := ⟨kOf l ks, gOf gs, θ, H, fun k => k ∈ ks⟩
def NmO (l : Nat) (ks : List Key) (gs : List Nat) (r : Ren) : Prop := r.κ = kOf l ks ∧ ∀ i, i < ks.length → r.γ (0, i) = gOf gs (0, i)
def ZcX (r : Ren) : Nat → List Blk → List Blk
 | _, [] => []
 | i, b :: bs => Za7 r (0, i) b :: ZcX r (i + 1) bs
def ZjN (H : Hp) : List Key → List Blk → Hp
 | k :: ks, b :: bs => ZjN (updH H k b) ks bs
 | _, _ => H
theorem Zeq : ∀ (ks : List Key) (bs : List Blk) (H : Hp) (q : Key), q ∉ ks → ZjN H ks bs q = H q
 | [], bs, H, q, h => by cases bs <;> rfl
 | k :: ks, [], H, q, h => rfl
 | k :: ks, b :: bs, H, q, h => by
  simp only [ZjN]
  rw [Zeq ks bs _ q (fun hm => h (List.mem_cons_of_mem _ hm)), Zad _ _ (fun e => h (by rw [e]; exact List.mem_cons_self ..))]
theorem Zp7 : ∀ (ks : List Key) (bs : List Blk) (H : Hp), ks.Nodup → ∀ (j : Nat) (k : Key) (b : Blk), ks[j]? = some k → bs[j]? = some b → ZjN H ks bs k = b
 | [], bs, H, _, j, k, b, h, _ => by simp at h
 | q :: ks, [], H, _, _, _, _, _, h => by simp at h
 | q :: ks, c :: bs, H, hn, j, k, b, hk, hb => by
  simp only [ZjN]
  rw [List.nodup_cons] at hn
  cases j with
  | zero =>
   simp only [List.getElem?_cons_zero, Option.some.injEq] at hk hb
   subst hk; subst hb
   rw [Zeq ks bs _ _ hn.1, Zab]
  | succ j =>
   simp only [List.getElem?_cons_succ] at hk hb
   exact Zp7 ks bs _ hn.2 j k b hk hb
theorem ZlH {r : Ren} : ∀ (bs : List Blk) (i j : Nat), (ZcX r i bs)[j]? = (bs[j]?).map (Za7 r (0, i + j))
 | [], i, j => by simp [ZcX]
 | b :: bs, i, 0 => by simp [ZcX]
 | b :: bs, i, j + 1 => by
  simp only [ZcX, List.getElem?_cons_succ, ZlH bs (i + 1) j, show i + 1 + j = i + (j + 1) from by omega]
theorem Zj0 {P : Program} {T : Nat → Option TI} {n : Nat} {f : FuncId} {fn : Func} (rs : List ResultVar) (c : Code) {l : Nat} {xs : List AV} {H : Hp} {Post : AV → Hp → Prop} (ks : List Key) (gs : List Nat) (fx : List Nat) (θ : Nat → AV) (ys : List AV) (hs : List (Key × Blk)) (LPost : AV → List Blk → Prop)
  (hf : P.funcs[f]? = some fn) (hb : fn.body = some c) (hname : (fn.name == "runtime.NumGoroutine") = false) (hn : fn.ntmps = n) (hr : fn.results.toList = rs) (hx : xs.length ≤ n) (hT : TOk P T)
  (hks : ∀ k ∈ ks, k.1 ≤ l) (hnd : ks.Nodup) (hfx : ∀ i, i < ks.length → i ∈ fx) (hh : ∀ d, lkH hs (1, d) = Zn3) (hlv : ∀ k, (lkH hs k).live = true → k.1 = 0 ∧ k.2 < ks.length)
  (hH : ∀ i k, ks[i]? = some k → (H k).g = gOf gs (0, i) + (lkH hs (0, i)).g ∧ ((lkH hs (0, i)).live = true → H k = Za7 (rOf l ks gs θ H) (0, i) (lkH hs (0, i))))
  (hxs : Zap (rOf l ks gs θ H) ys = xs)
  (h : ∀ C, CxOk C → C.outs = ks.length → C.fx = fx → C.l = l → C.H0 = H → C.θ = θ → C.κ = kOf l ks → C.no = (fun k => k ∈ ks) → LW P n C c (mkS (ZmC 0 ys) hs) (FQ T rs ks.length LPost))
  (hp : ∀ y b, LPost y b → b.length = ks.length ∧ (∀ x ∈ b, x.live = true) ∧ ∃ Y' bs', (∀ r, NmO l ks gs r → ren r y = Y') ∧ (∀ r, NmO l ks gs r → ZcX r 0 b = bs') ∧ Post Y' (ZjN H ks bs')) : ZbP P f l xs H Post := by
 let C : Base → Cx := fun B => ⟨l, B, kOf l ks, θ, H, ks.length, fun k => k ∈ ks, fx, fun γ => ∀ i ∈ fx, γ (0, i) = gOf gs (0, i)⟩
 have hkO : ∀ i, i < ks.length → ks[i]? = some (kOf l ks (0, i)) := fun i hi => by
  show _ = some (match nth ks i with | some k => k | none => (0, 0))
  rw [Zbh, List.getElem?_eq_getElem hi]
 have hlt : ∀ (i : Nat) (k : Key), ks[i]? = some k → i < ks.length := fun i k hi => by
  rcases Nat.lt_or_ge i ks.length with h | h
  ·exact h
  ·rw [List.getElem?_eq_none h] at hi; cases hi
 have hC : ∀ B, CxOk (C B) := fun B => by
  refine ⟨fun _ => rfl, fun i hi => hks _ (List.mem_of_getElem? (hkO i hi)), fun i j hi hj e => ?_, fun k hk => ?_, fun γ γ' he hg i hi => by rw [he i hi]; exact hg i hi⟩
  ·have h1 := hkO i hi
   have h2 := hkO j hj
   rw [show kOf l ks (0, i) = kOf l ks (0, j) from e] at h1
   have h3 : ks[i]? = ks[j]? := h1.trans h2.symm
   exact (List.getElem?_inj hi hnd).1 h3
  ·obtain ⟨i, hi⟩ := List.mem_iff_getElem?.1 (show k ∈ ks from hk)
   refine ⟨i, hlt i k hi, ?_⟩
   have := hkO i (hlt i k hi)
   rw [hi] at this
   simp only [Option.some.injEq] at this
   exact this.symm
 refine ZlO rs C (γ := gOf gs) (LPost := LPost) (ys := ys) (hs := hs) hf hb hname hn hr hx hT hC (fun B => ⟨rfl, rfl, rfl, fun i _ => rfl⟩) (fun B => hxs) (fun _ => rfl) hh (fun B k hk => ?_) (fun B i hi => ?_) (fun B γ y b H' hg hy ho _ => ?_) (fun B => h _ (hC B) rfl rfl rfl rfl rfl rfl rfl)
 ·obtain ⟨h1, h2⟩ := hlv k hk
  obtain ⟨k1, k2⟩ := k
  simp only at h1 h2
  subst h1
  exact ⟨rfl, h2, (hH k2 _ (hkO k2 h2)).2 hk⟩
 ·exact (hH i _ (hkO i hi)).1
 ·obtain ⟨hbl, hbv, Y', bs', hY, hB, hp⟩ := hp y b hy
  have hnm : NmO l ks gs ((C B).r γ) := ⟨rfl, fun i hi => hg i (hfx i hi)⟩
  have e1 := hB _ hnm
  have e2 : H' = ZjN H ks bs' := by
   funext q
   by_cases hq : q ∈ ks
   ·obtain ⟨i, hi⟩ := List.mem_iff_getElem?.1 hq
    have hi' := hlt i q hi
    have hb' : b[i]? = some b[i] := List.getElem?_eq_getElem (by omega)
    have h1 := ho.live i _ hb' (hbv _ (List.mem_of_getElem? hb'))
    have h2 : kOf l ks (0, i) = q := by
     have := hkO i hi'
     rw [hi] at this
     simp only [Option.some.injEq] at this
     exact this.symm
    rw [show (C B).κ (0, i) = q from h2] at h1
    rw [h1, Zp7 ks bs' H hnd i q (Za7 ((C B).r γ) (0, i) b[i]) hi]
    rw [← e1, ZlH, hb', Nat.zero_add]
    rfl
   ·rw [Zeq ks bs' H q hq]
    exact ho.o q hq
  rw [e2, hY _ hnm]
  exact hp
theorem Znr {P : Program} {T : Nat → Option TI} {n : Nat} {f : FuncId} {fn : Func} (rs : List ResultVar) (c : Code) {l : Nat} {xs : List AV} {H : Hp} {Post : AV → Hp → Prop} (ks : List Key) (gs : List Nat) (fx : List Nat) (θ : Nat → AV) (ys : List AV) (hs : List (Key × Blk)) (Y : AV) (bs : List Blk) {Y' : AV} {bs' : List Blk}
  (hf : P.funcs[f]? = some fn) (hb : fn.body = some c) (hname : (fn.name == "runtime.NumGoroutine") = false) (hn : fn.ntmps = n) (hr : fn.results.toList = rs) (hx : xs.length ≤ n) (hT : TOk P T)
  (hks : ∀ k ∈ ks, k.1 ≤ l) (hnd : ks.Nodup) (hfx : ∀ i, i < ks.length → i ∈ fx) (hh : ∀ d, lkH hs (1, d) = Zn3) (hlv : ∀ k, (lkH hs k).live = true → k.1 = 0 ∧ k.2 < ks.length)
  (hH : ∀ i k, ks[i]? = some k → (H k).g = gOf gs (0, i) + (lkH hs (0, i)).g ∧ ((lkH hs (0, i)).live = true → H k = Za7 (rOf l ks gs θ H) (0, i) (lkH hs (0, i))))
  (hxs : Zap (rOf l ks gs θ H) ys = xs) (hbl : bs.length = ks.length) (hbv : ∀ b ∈ bs, b.live = true) (hY : ∀ r, NmO l ks gs r → ren r Y = Y') (hB : ∀ r, NmO l ks gs r → ZcX r 0 bs = bs')
  (h : ∀ C, CxOk C → C.outs = ks.length → C.fx = fx → C.l = l → C.H0 = H → C.θ = θ → C.κ = kOf l ks → C.no = (fun k => k ∈ ks) → LW P n C c (mkS (ZmC 0 ys) hs) (FQ T rs ks.length (fun y b => y = Y ∧ b = bs)))
  (hp : Post Y' (ZjN H ks bs')) : ZbP P f l xs H Post := by
 exact Zj0 rs c ks gs fx θ ys hs (fun y b => y = Y ∧ b = bs) hf hb hname hn hr hx hT hks hnd hfx hh hlv hH hxs h fun y b ⟨e1, e2⟩ => by subst e1; subst e2; exact ⟨hbl, hbv, Y', bs', hY, hB, hp⟩
section
variable {P : Program} {l : Nat} {r : Ren} {f : FuncId} {xs xs' : List AV} {hb hb2 : List (Key × Blk)} {x x' : AV}
theorem ZtL (h1 : Zap r xs = xs') (h2 : ren r x = x') (h : ∀ H', (∀ p ∈ hb, (H' (r.κ p.1)).g = r.γ p.1 + p.2.g ∧ (p.2.live = true → H' (r.κ p.1) = Za7 r p.1 p.2)) → (∀ k : Key, k.1 ≤ l → ¬ r.no k → H' k = r.H0 k) → ZbP P f (l + 1) xs' H' (fun y H'' => y = x' ∧ H'' = ZcO r hb2 H')) :
  ZiB P l r f xs hb x hb2 [] := fun H' hb ho => by
 rw [h1]
 exact (h H' hb ho).mono fun y H'' ⟨e1, e2⟩ => ⟨r.γ, fun _ _ => rfl, by rw [e1, ← h2], e2⟩
end
theorem ZjA {r : Ren} {k : Key} {vs : List AV} (h : (Zap r vs).all (AV.low (r.κ k).1) = true) : ZAf r k vs := h
theorem ZcY {r : Ren} {k : Key} (ds : List D) : ZAf r k (ds.map .d) := by
 unfold ZAf
 rw [ZfA]
 refine List.all_eq_true.2 fun x hx => ?_
 obtain ⟨d, _, rfl⟩ := List.mem_map.1 hx
 rfl
theorem Zmz {α : Type} (e : α → List D) (xs : List α) : Ze9 (Zaa e xs) := fun x hx => by
 obtain ⟨d, _, rfl⟩ := List.mem_map.1 hx; rfl
theorem ZsI {α : Type} {e : α → List D} {xs : List α} {off cn sz : Nat} {z : List AV} (hl : ∀ x, (e x).length = sz) (h : off + cn ≤ xs.length) :
  ZHV (Zaa e xs) off cn sz z ((Zaa e xs).take (off * sz) ++ (List.replicate cn z).flatten ++ (Zaa e xs).drop ((off + cn) * sz)) := by
 refine ⟨?_, rfl⟩
 rw [ZbB hl]
 exact Nat.mul_le_mul_right _ h
theorem Zs0 {α : Type} {e : α → List D} {xs : List α} {off sz : Nat} {A B : List AV} (hl : ∀ x, (e x).length = sz) (h : off ≤ xs.length) : ∃ m, ((Zaa e xs).take (off * sz) ++ A ++ B).take m = Zaa e (xs.take off) := by
 refine ⟨off * sz, ?_⟩
 have h1 : ((Zaa e xs).take (off * sz)).length = off * sz := by
  rw [List.length_take, ZbB hl]
  exact Nat.min_eq_left (Nat.mul_le_mul_right _ h)
 rw [List.append_assoc, List.take_append_of_le_length (by omega), List.take_of_length_le (by omega), Ze8 hl]
def Zwe (n : Nat) : List (Key × Blk) → Bool
 | [] => true
 | (k, _) :: r => Nat.beq k.1 0 && Nat.ble (k.2 + 1) n && Zwe n r
theorem Zpf {n : Nat} : ∀ {hs : List (Key × Blk)}, Zwe n hs = true → ∀ k, (lkH hs k).live = true → k.1 = 0 ∧ k.2 < n
 | [], _, k, h => by simp [lkH, Zn3] at h
 | (q, b) :: r, hi, k, h => by
  simp only [Zwe, Bool.and_eq_true] at hi
  simp only [lkH] at h
  split at h
  ·rename_i hq
   have hq := Za0.1 hq
   subst hq
   exact ⟨Nat.eq_of_beq_eq_true hi.1.1, Nat.le_of_ble_eq_true hi.1.2⟩
  ·exact Zpf hi.2 k h
theorem Zh7 {n : Nat} : ∀ {hs : List (Key × Blk)}, Zwe n hs = true → ∀ d, lkH hs (1, d) = Zn3
 | [], _, d => rfl
 | (q, b) :: r, hi, d => by
  simp only [Zwe, Bool.and_eq_true] at hi
  simp only [lkH]
  split
  ·rename_i hq
   have hq := Za0.1 hq
   subst hq
   have := Nat.eq_of_beq_eq_true hi.1.1
   simp at this
  ·exact Zh7 hi.2 d
def HOk (H : Hp) (r : Ren) (hs : List (Key × Blk)) : Nat → List Key → Prop
 | _, [] => True
 | i, k :: ks => ((H k).g = r.γ (0, i) + (lkH hs (0, i)).g ∧ ((lkH hs (0, i)).live = true → H k = Za7 r (0, i) (lkH hs (0, i)))) ∧ HOk H r hs (i + 1) ks
theorem Zu4 {H : Hp} {r : Ren} {hs : List (Key × Blk)} : ∀ {ks : List Key} {i : Nat}, HOk H r hs i ks → ∀ j k, ks[j]? = some k → (H k).g = r.γ (0, i + j) + (lkH hs (0, i + j)).g ∧ ((lkH hs (0, i + j)).live = true → H k = Za7 r (0, i + j) (lkH hs (0, i + j)))
 | [], i, _, j, k, h => by simp at h
 | q :: ks, i, h, 0, k, hk => by
  simp only [List.getElem?_cons_zero, Option.some.injEq] at hk
  subst hk
  exact h.1
 | q :: ks, i, h, j + 1, k, hk => by
  have := Zu4 h.2 j k (by simpa using hk)
  rw [show i + 1 + j = i + (j + 1) from by omega] at this
  exact this
def ZyQ (l : Nat) : List Key → Prop
 | [] => True
 | k :: ks => k.1 ≤ l ∧ ZyQ l ks
theorem Zjg {l : Nat} : ∀ {ks : List Key}, ZyQ l ks → ∀ k ∈ ks, k.1 ≤ l
 | q :: ks, h, k, hk => by
  rcases List.mem_cons.1 hk with rfl | hk
  ·exact h.1
  ·exact Zjg h.2 k hk
def ZhU : Nat → List Nat
 | 0 => []
 | n + 1 => ZhU n ++ [n]
theorem ZkL : ∀ {n i : Nat}, i < n → i ∈ ZhU n
 | n + 1, i, h => by
  simp only [ZhU, List.mem_append, List.mem_singleton]
  rcases Nat.lt_or_ge i n with h' | h'
  ·exact .inl (ZkL h')
  ·exact .inr (by omega)
theorem ZjG {P : Program} {T : Nat → Option TI} {n : Nat} {f : FuncId} {fn : Func} (rs : List ResultVar) (c : Code) {l : Nat} {xs : List AV} {H : Hp} {Post : AV → Hp → Prop} (ks : List Key) (gs : List Nat) (os : Nat) (θ : Nat → AV) (ys : List AV) (hs : List (Key × Blk)) (Y : AV) (bs : List Blk) {Y' : AV} {bs' : List Blk}
  (hf : P.funcs[f]? = some fn) (hb : fn.body = some c) (hname : (fn.name == "runtime.NumGoroutine") = false) (hn : fn.ntmps = n) (hr : fn.results.toList = rs) (hx : xs.length ≤ n) (hT : TOk P T) (hos : ks.length = os)
  (hks : ZyQ l ks) (hnd : ks.Nodup) (hin : Zwe os hs = true) (hH : HOk H (rOf l ks gs θ H) hs 0 ks) (hxs : Zap (rOf l ks gs θ H) ys = xs) (hbl : bs.length = os) (hbv : ∀ b ∈ bs, b.live = true) (hY : ∀ r, NmO l ks gs r → ren r Y = Y') (hB : ∀ r, NmO l ks gs r → ZcX r 0 bs = bs')
  (h : ∀ C, CxOk C → C.outs = os → C.fx = ZhU os → C.l = l → C.H0 = H → C.θ = θ → C.κ = kOf l ks → C.no = (fun k => k ∈ ks) → LW P n C c (mkS (ZmC 0 ys) hs) (FQ T rs os (fun y b => y = Y ∧ b = bs)))
  (hp : Post Y' (ZjN H ks bs')) : ZbP P f l xs H Post := by
 subst hos
 exact Znr rs c ks gs (ZhU ks.length) θ ys hs Y bs hf hb hname hn hr hx hT (Zjg hks) hnd (fun i hi => ZkL hi) (Zh7 hin) (Zpf hin) (fun i k hk => by have := Zu4 hH i k hk; rw [Nat.zero_add] at this; exact this) hxs hbl hbv hY hB h hp
theorem Znz {α : Type} {e e' : α → List D} {xs : List α} {j sz : Nat} {x : α} (hx : xs[j]? = some x) (hl : ∀ x, (e x).length = sz) (he : ∀ x, e x = e' x) : Zbv (Zaa e xs) (j * sz) ((e' x).map .d) := by
 have hj : j < xs.length := by
  rcases Nat.lt_or_ge j xs.length with h | h
  ·exact h
  ·rw [List.getElem?_eq_none h] at hx; cases hx
 have := ZfJ (z := x) hj hl he
 rw [List.getD_eq_getElem?_getD, hx] at this
 exact this
theorem ZwU {P : Program} {l l1 : Nat} {no no1 : Key → Prop} {H H1 : Hp} {c : AV} {aZ : List AV} {y : AV} (h : Ze5 P l no H c aZ y) (hl : l ≤ l1) (hno : ∀ q : Key, q.1 ≤ l → ¬ no q → ¬ no1 q) (hH : ∀ q : Key, q.1 ≤ l → ¬ no q → H1 q = H q) : Ze5 P l1 no1 H1 c aZ y := by
 obtain ⟨f, first, caps, e, h⟩ := h
 exact ⟨f, first, caps, e, fun l' H' hl' ho => h l' H' (Nat.le_trans hl hl') fun k hk hn => by rw [ho k (Nat.le_trans hk hl) (hno k hk hn), hH k hk hn]⟩
def ZGp : Code → Operand
 | .cond o _ _ => o
 | _ => .tmp 0
def Zm2 (c : Code) (k : Nat) : Option Nat := match Zey c k with | some (d, _, _) => d | none => none
def callF (c : Code) (k : Nat) : Operand := match Zey c k with | some (_, f, _) => f | none => .tmp 0
def ZsW (c : Code) (k : Nat) : List Operand := match Zey c k with | some (_, _, xs) => xs | none => []
theorem Zsn {P : Program} {n : Nat} {C : Cx} {Q : Exit → St → Prop} (hC : CxOk C) {os : Nat} {fx : List Nat} (hO : C.outs = os) (hF : C.fx = fx) {c : Code} {k : Nat} {ss : List (Nat × AV)} {hs : List (Key × Blk)}
  (f : FuncId) (first caps xs : List AV) (hop : Zey c k = some (Zm2 c k, callF c k, ZsW c k)) (hf : ev (lkS ss) (callF c k) = .fn (.func f) first caps) (hxs : first ++ (ZsW c k).map (ev (lkS ss)) ++ caps = xs) (ks : List Key) (hb : List (Key × Blk)) (hhb : (ks.map fun k => (k, lkH hs k)) = hb)
  (x : AV) (hb2 : List (Key × Blk)) (fr fl : List Key) (hok : (ZjI os hb2 && ZGv fr hb2 && ZlL fr fx && ZjL hs && ZqK n (Zm2 c k) && ks.all (okK os)) = true) (hwr : wrL C hb2) (hfl : flL (lkH hs) fl)
  (hcall : ∀ r : Ren, r.θ = C.θ → r.H0 = C.H0 → r.κ = C.κ → r.no = C.no → ZiB P C.l r f xs hb x hb2 fr)
  (h : LO P n C c (k + 1) (mkS (Zus (Zm2 c k) x (Zex fr ss)) (hb2 ++ ZcW (hb2.map (·.1)) fr fl hs)) Q) : LO P n C c k (mkS ss hs) Q :=
 Zv9 hC hO hF _ _ _ hop f first caps xs hf hxs ks hb hhb x hb2 fr fl hok hwr hfl hcall h
end Go.Eng
namespace Go.Eng
open Go
set_option linter.all false
end Go.Eng
namespace Go.Eng
set_option linter.all false
open Go Go.RowKit Go.Shelf
theorem Zjy {w : World} {S : Nat → Prop} {H : Hp} {m : Mu} {l : Nat} {vs : Array Value} {n : Int} (hA : ZdF w S H m l [.e0, .d (.int .i64 n)] vs) : ∃ a, vs = #[.slice a 0 0, .int .i64 n] := by
 obtain ⟨hs, hr⟩ := hA
 obtain ⟨l⟩ := vs
 match l, hs, hr with
 | [v0, v1], _, hr =>
  have h0 := hr 0 .e0 v0 rfl rfl
  have h1 := hr 1 (.d (.int .i64 n)) v1 rfl rfl
  cases h0 with
  | e0 a =>
   cases h1 with
   | d _ _ h1 =>
    cases h1 with
    | int => exact ⟨a, rfl⟩
theorem ZmK {P : Program} {ρ : Go.Shelf.Ren} (L : Go.Proofs.Lays8.n4 P ρ) (i0 : TypeInfo) (z : Value) (hi0 : P.info? (ρ.t 25) = some i0) (hz0 : i0.zero = some z) (hs0 : 0 < i0.size) (hzs : z.cells.size = i0.size) (hby : i0.bytes ≤ 256)
  (hb : ∃ fn c, P.funcs[ρ.f 4]? = some fn ∧ fn.body = some c ∧ (fn.name == "runtime.NumGoroutine") = false) {ℓ : Nat} {ℋ : Hp} {k : Key} (hk : k.1 ≤ ℓ) {g : Nat} (hg : (ℋ k).g = g) (n : Nat) (hn : n < 549755813888) {Post : AV → Hp → Prop}
  (h : Post (.ref k (g + 1) 0 0) (updH ℋ k ⟨g + 1, true, ρ.t 25, i0.size, []⟩)) : ZbP P (ρ.f 4) ℓ [.e0, .d (.int .i64 n)] ℋ Post :=
 ⟨hb, fun m S w vs hO hA => by
  obtain ⟨a, rfl⟩ := Zjy hA
  subst hg
  by_cases h0 : n = 0
  ·subst h0
   refine (Go.Proofs.Any8.slices_Grow_room L a 0 0 0 w (by omega) (by omega) (by omega) (by omega)).mono fun e w' ⟨h1, h2⟩ => ?_
   subst h2
   obtain ⟨k1, k2⟩ := hO.overEmpty k hk ((ℋ k).g + 1) (ρ.t 25) i0.size (by omega) ⟨0, 0, 0⟩ rfl
   refine ⟨_, _, _, _, _, h1, h, k1, ?_, k2⟩
   have := RepA.refL (w := w') (S := S) (H := updH ℋ k ⟨(ℋ k).g + 1, true, ρ.t 25, i0.size, []⟩) (m := ZcI m k ⟨0, 0, 0⟩) (l := ℓ) k 0 0 a hk (by rw [Zab]) (by omega) (fun q => by rw [Zae] at q; exact absurd q (Nat.lt_irrefl 0))
   rw [Zab, Zae] at this
   exact this
  ·have hb2 : n * i0.bytes ≤ 549755813888 * 256 := Nat.mul_le_mul (by omega) hby
   refine (Go.Proofs.Any8.slices_Grow_grow L i0 z hi0 hz0 hs0 a 0 0 n [] w (by omega) (by omega) (by rw [Nat.zero_add]; omega) (by omega) (by simp) (fun _ => rfl) (fun _ _ j v hj => by simp at hj)).mono fun e w' ⟨h1, h2⟩ => ?_
   have hG : n ≤ grownCap w (0 + n) 0 (ρ.t 25) := by have := grownCap_ge w (0 + n) 0 (ρ.t 25); omega
   generalize grownCap w (0 + n) 0 (ρ.t 25) = G at *
   subst h2
   obtain ⟨k1, k2⟩ := hO.alloc k hk (ρ.t 25) i0.size G [] (([] : List Value).toArray ++ Builtin.zeroCells z.cells (0 + n - 0) ++ Builtin.zeroCells z.cells (G - (0 + n))) (by omega)
    (by simp only [Array.size_append, Zcy, hzs]; rw [show ([] : List Value).toArray.size = 0 from rfl, Nat.zero_add, ← Nat.add_mul, show 0 + n - 0 + (G - (0 + n)) = G from by omega]) (Nat.zero_le _) (fun i x v hx => by simp at hx)
    (w.drew.alloc (.cells (([] : List Value).toArray ++ Builtin.zeroCells z.cells (0 + n - 0) ++ Builtin.zeroCells z.cells (G - (0 + n))) (ρ.t 25))) rfl rfl rfl rfl
   refine ⟨_, _, _, _, _, h1, h, k1, ?_, k2⟩
   have := RepA.refL (w := w.drew.alloc (.cells (([] : List Value).toArray ++ Builtin.zeroCells z.cells (0 + n - 0) ++ Builtin.zeroCells z.cells (G - (0 + n))) (ρ.t 25))) (S := S) (H := updH ℋ k ⟨(ℋ k).g + 1, true, ρ.t 25, i0.size, []⟩) (m := ZcI m k ⟨w.heap.size, 0, G⟩) (l := ℓ) k 0 0 (some ⟨w.heap.size, 0, none⟩) hk (by rw [Zab]) (by omega) (fun _ => by rw [Zae]; simp)
   rw [Zab, Zae] at this
   exact this⟩
theorem ZxQ {α : Type} {e : α → List D} {xs : List α} {l h : Nat} (q : SlS l h xs.length) : SlS l h (xs.map e).length := by rw [List.length_map]; exact q
theorem Zzp {α : Type} {e : α → List D} {xs : List α} {sz : Nat} (he : ∀ x, (e x).length = sz) : ∀ d, d ∈ xs.map e → d.length = sz := fun d h => by
 obtain ⟨x, _, rfl⟩ := List.mem_map.1 h
 exact he x
theorem Zy0 {α : Type} {e : α → List D} {xs : List α} {sz l h : Nat} (he : ∀ x, (e x).length = sz) : SlD (xs.map e) sz l h (((xs.drop l).take (h - l)).map e) :=
 ⟨Zzp he, by rw [← List.map_drop, ← List.map_take]⟩
theorem Zpp {i : Int} {len sz : Nat} (h0 : 0 ≤ i) (h : i < len) : ZAk i len 0 sz (i.toNat * sz) := ⟨h0, h, by simp⟩
theorem Ztu {α : Type} {e : α → List D} {xs : List α} {j sz fo : Nat} {z y : α} {vs : List D} (hj : j < xs.length) (hl : ∀ x, (e x).length = sz) (hf : fo + vs.length ≤ sz) (he : e y = (e (xs.getD j z)).take fo ++ vs ++ (e (xs.getD j z)).drop (fo + vs.length)) :
  StS (Zaa e xs) (j * sz + fo) (vs.map .d) (Zaa e (xs.set j y)) := by
 have h2 : (j + 1) * sz ≤ xs.length * sz := Nat.mul_le_mul_right _ hj
 rw [Nat.add_mul, Nat.one_mul] at h2
 refine ⟨by rw [List.length_map, ZbB hl]; omega, ?_⟩
 have hx : xs.getD j z = xs[j] := by rw [List.getD_eq_getElem?_getD, List.getElem?_eq_getElem hj]; rfl
 rw [hx] at he
 have hs : Zaa e xs = Zaa e (xs.take j) ++ ((e xs[j]).map .d ++ Zaa e (xs.drop (j + 1))) := by
  conv => lhs; rw [← List.take_append_drop j xs, List.drop_eq_getElem_cons hj, Ze3, ZbC]
 have ha : (Zaa e (xs.take j)).length = j * sz := by rw [ZbB hl, List.length_take, Nat.min_eq_left (by omega)]
 have hb : ((e xs[j]).map AV.d).length = sz := by rw [List.length_map, hl]
 rw [hs, List.take_append, List.take_of_length_le (by omega : (Zaa e (xs.take j)).length ≤ j * sz + fo), ha, show j * sz + fo - j * sz = fo from by omega, List.take_append_of_le_length (by omega),
  List.drop_append, List.drop_of_length_le (by rw [ha]; omega), ha, List.nil_append, show j * sz + fo + (vs.map AV.d).length - j * sz = fo + vs.length from by rw [List.length_map]; omega, List.drop_append_of_le_length (by omega),
  List.set_eq_take_append_cons_drop, if_pos hj, Ze3, ZbC, he]
 simp only [List.map_append, List.map_take, List.map_drop, List.append_assoc]
end Go.Eng
