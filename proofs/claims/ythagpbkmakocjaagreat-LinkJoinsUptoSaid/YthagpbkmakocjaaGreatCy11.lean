import Derived.Test.YthagpbkmakocjaaGreatCy10
import Derived.Shelf.Spec.SlicesGrow
namespace Go.Eng
set_option linter.all false
open Go Go.RowKit
def cAt : List Nat → Code → Code
 | [], c => c
 | 0 :: p, .seq a _ => cAt p a
 | _ :: p, .seq _ b => cAt p b
 | 0 :: p, .cond _ a _ => cAt p a
 | _ :: p, .cond _ _ b => cAt p b
 | _ :: p, .block _ c => cAt p c
 | _ :: p, .loop c => cAt p c
 | _ :: p, .scope c => cAt p c
 | _, c => c
def Zaf (f : Func) : Code := f.body.getD .skip
def Zaa {α : Type} (e : α → List D) (xs : List α) : List AV := ((xs.map e).flatten).map .d
theorem Zak {α : Type} (e : α → List D) (xs : List α) : ZjZ (Zaa e xs) := fun x hx => by
 obtain ⟨d, _, rfl⟩ := List.mem_map.1 hx; rfl
theorem Zci {α : Type} {e : α → List D} {sz : Nat} (he : ∀ x, (e x).length = sz) (xs : List α) : (Zaa e xs).length = xs.length * sz := by
 unfold Zaa
 induction xs with
 | nil => simp
 | cons x xs ih => simp only [List.length_map, List.map_cons, List.flatten_cons, List.length_append, he, List.length_cons, Nat.add_mul] at ih ⊢; omega
theorem ZfM {α : Type} (e : α → List D) (xs ys : List α) : Zaa e (xs ++ ys) = Zaa e xs ++ Zaa e ys := by simp [Zaa]
section
variable {P : Program} {n : Nat} {C : Cx} {τ : St} {Q : Exit → St → Prop}
theorem Zq3 {c : Code} (id : Nat) (x : Code) (hc : c = .block id x) (h : LW P n C x τ (fun e τ' => match e with | .exit i => (match Nat.beq i id with | true => Q .normal τ' | false => Q (.exit i) τ') | e => Q e τ')) : LW P n C c τ Q := hc ▸ Zsp (h.mono fun e τ' hq => by
 cases e with
 | exit i =>
  simp only at hq ⊢
  split at hq
  ·rename_i he; rw [if_pos (Nat.eq_of_beq_eq_true he)]; exact hq
  ·rename_i he; rw [if_neg (by rintro rfl; simp at he)]; exact hq
 | _ => exact hq)
end
theorem Zn5 {P : Program} {T : Nat → Option TI} {n : Nat} {f : FuncId} {fn : Func} (rs : List ResultVar) (c : Code) {l : Nat} {xs : List AV} {H : Hp} {Post : AV → Hp → Prop} (θ : Nat → AV) (ys : List AV)
  (hf : P.funcs[f]? = some fn) (hb : fn.body = some c) (hname : (fn.name == "runtime.NumGoroutine") = false) (hn : fn.ntmps = n) (hr : fn.results.toList = rs) (hx : xs.length ≤ n) (hT : TOk P T)
  (hxs : Zas ⟨fun k => (l + 1, k.2), fun _ => 0, θ, H, fun _ => False⟩ ys = xs) (h : ∀ B : Base, LW P n (cxP l θ H B) c (mkS (Zm1 0 ys) []) (FQ T rs 0 (fun y _ => Post y H))) : Zcw P f l xs H Post :=
 Zmk rs (cxP l θ H) (γ := fun _ => 0) (LPost := fun y _ => Post y H) hf hb hname hn hr hx hT (fun B => Zi1 l B θ H) (fun B => ⟨rfl, rfl, rfl, trivial⟩) (fun B => hxs) (fun _ => rfl) (fun _ => rfl) (fun B k hk => by simp [lkH, Zom] at hk) (fun B i hi => absurd hi (Nat.not_lt_zero _))
  (fun B γ y bs H' _ hp ho hy => by rw [hy rfl, ZsA ho]; exact hp) h
theorem Zy9 {α : Type} (e : α → List D) (xs : List α) : EqI ((xs.map e).length : Nat) xs.length := by simp [EqI]
theorem Zqb {α : Type} {e e' : α → List D} {xs : List α} {i : Nat} {x : α} (hx : xs[i]? = some x) (he : ∀ x, e x = e' x) : Zwp (xs.map e) (i : Nat) (e' x) := ⟨by omega, by simp [hx, he]⟩
theorem ZyB {α : Type} {e e' : α → List D} {xs : List α} {i : Nat} {z : α} (hi : i < xs.length) (he : ∀ x, e x = e' x) : Zwp (xs.map e) (i : Nat) (e' (xs.getD i z)) := by
 refine Zqb ?_ he
 rw [List.getD_eq_getElem?_getD, List.getElem?_eq_getElem hi]; rfl
theorem ZpL {a r : Int} (h : a = r) (h1 : -9223372036854775808 ≤ r) (h2 : r < 9223372036854775808) : ZcR .i64 a r := by
 subst h; exact IntWalk.i64_in _ ⟨h1, by omega⟩
theorem ZJ3 {i len sz : Nat} (h : i < len) : ZCC (i : Nat) len 0 sz (i * sz) := ⟨by omega, by omega, by simp⟩
theorem ZsF {sz : Nat} {e : List D} (C : List AV) (he : e.length = sz) : Zof sz C (.d (.list [e])) 1 (e.map .d) := by
 refine ⟨List.all_eq_true.2 fun x hx => ?_, fun q hq => ?_, rfl, by simp⟩
 ·obtain ⟨d, _, rfl⟩ := List.mem_map.1 hx; rfl
 ·simp at hq; subst hq; exact he
theorem ZjB {α : Type} {sz : Nat} {e : α → List D} (C : List AV) (xs : List α) (he : ∀ x, (e x).length = sz) : Zof sz C (.d (.list (xs.map e))) xs.length (Zaa e xs) := by
 refine ⟨List.all_eq_true.2 fun x hx => ?_, fun q hq => ?_, by simp, rfl⟩
 ·obtain ⟨d, _, rfl⟩ := List.mem_map.1 hx; rfl
 ·obtain ⟨x, _, rfl⟩ := List.mem_map.1 hq; exact he x
theorem Zuy {α : Type} {sz : Nat} {e : α → List D} (k : Key) (g : Nat) (xs : List α) (he : ∀ x, (e x).length = sz) : Zof sz (Zaa e xs) (.ref k g 0 xs.length) xs.length (Zaa e xs) := by
 refine ⟨List.all_eq_true.2 fun x hx => ?_, rfl, by rw [Zci he]; simp, by rw [Nat.zero_mul, List.drop_zero, ← Zci he xs, List.take_length]⟩
 obtain ⟨d, _, rfl⟩ := List.mem_map.1 hx; rfl
theorem ZtE {α : Type} {sz byt : Nat} {e : α → List D} (xs ys : List α) {n' : Nat} (he : ∀ x, (e x).length = sz) (hn : xs.length + ys.length = n') (hb : n' * byt ≤ 140737488355328) :
  ZCk (Zaa e xs) 0 xs.length ys.length sz byt (Zaa e ys) (Zaa e (xs ++ ys)) n' :=
 ⟨by rw [Zci he, Nat.zero_add], by rw [Nat.zero_mul, List.drop_zero, ZfM], hn, hb⟩
theorem ZsV {α : Type} (e : α → List D) (x : α) : Zaa e [x] = (e x).map .d := by simp [Zaa]
theorem ZkP {α : Type} {sz : Nat} {e : α → List D} (xs : List α) (hz : sz ≠ 0) (he : ∀ x, (e x).length = sz) : FzR (Zaa e xs) 0 xs.length sz (xs.map e) :=
 ⟨by simp, hz, fun q hq => by obtain ⟨x, _, rfl⟩ := List.mem_map.1 hq; exact he x, by rw [Zci he]; simp, by rw [Nat.zero_mul, List.drop_zero, ← Zci he xs, List.take_length]; rfl⟩
theorem Zl1 {α : Type} {e e' : α → List D} {xs : List α} {i : Int} {z : α} (h0 : 0 ≤ i) (hi : i < xs.length) (he : ∀ x, e x = e' x) : Zwp (xs.map e) i (e' (xs.getD i.toNat z)) := by
 have h := ZyB (e := e) (e' := e') (xs := xs) (i := i.toNat) (z := z) (by omega) he
 rwa [Int.toNat_of_nonneg h0] at h
theorem ZKd (s : ByteArray) : s.data.toList.length = s.size := by simp
theorem ZAk {s : ByteArray} {i : Nat} {x : UInt8} (h : s.data.toList[i]? = some x) : ZCn s (i : Nat) (x.toNat : Nat) := ⟨by omega, x, by simpa using h, rfl⟩
theorem ZAj {s : ByteArray} {i : Nat} (h : i < s.size) : ZCn s (i : Nat) ((s.data.toList.getD i 0).toNat : Nat) := by
 refine ZAk ?_
 rw [List.getD_eq_getElem?_getD, List.getElem?_eq_getElem (by rw [ZKd]; exact h)]; rfl
theorem Zf6 {α : Type} {sz byt c : Nat} {e : α → List D} {news : List AV} (xs ys : List α) (he : ∀ x, (e x).length = sz) (hc : ys.length = c) (hn : news = Zaa e ys) (hb : (xs.length + ys.length) * byt ≤ 140737488355328) :
  ZCk (Zaa e xs) 0 xs.length c sz byt news (Zaa e (xs ++ ys)) (xs ++ ys).length := by
 subst hc; subst hn
 exact ZtE xs ys he (by rw [List.length_append]) (by rw [List.length_append]; exact hb)
section
variable {P : Program} {l : Nat} {r : Ren} {f : FuncId} {xs xs' : List AV} {hb : List (Key × Blk)} {x x' : AV}
def ZfO (P : Program) (l : Nat) (no : Key → Prop) (H : Hp) (c : AV) (aZ : List AV) (y : AV) : Prop :=
 ∃ f first caps, c = .fn (.func f) first caps ∧ ∀ l' H', l ≤ l' → (∀ k : Key, k.1 ≤ l → ¬ no k → H' k = H k) → Zcw P f l' (first ++ aZ ++ caps) H' (fun y' H'' => y' = y ∧ H'' = H')
theorem ZsP {i : Nat} {c : AV} (hθ : r.θ i = c) (h : ZfO P l r.no r.H0 c xs' x') (h1 : Zas r xs = xs') (h2 : ren r x = x') : ZnO P l r i xs hb x := by
 obtain ⟨f, first, caps, rfl, h⟩ := h
 exact ⟨f, first, caps, hθ, fun H' _ ho => by rw [h1, h2]; exact h (l + 1) H' (Nat.le_succ l) ho⟩
theorem ZuO {H : Hp} {no : Key → Prop} {aZ : List AV} {y : AV} (h : ∀ l' H', Zcw P f l' aZ H' (fun y' H'' => y' = y ∧ H'' = H')) : ZfO P l no H (.fn (.func f) [] []) aZ y :=
 ⟨f, [], [], rfl, fun l' H' _ _ => by simpa using h l' H'⟩
end
section
variable {P : Program} {T : Nat → Option TI} {n : Nat} {C : Cx} {τ : St} {Q : Exit → St → Prop}
theorem Zy0 (hC : CxOk C) (hT : TOk P T) (hm : P.follows .mixedOrders = true) {os : Nat} {fx : List Nat} (hO : C.outs = os) (hF : C.fx = fx) {c : Code} (a : AT) (lf lx : Lf) (rs : List ResultVar) {Post : AV → List Blk → Prop} (q : Ren → (Exit → St → Prop) → (AV → List Blk → Prop) → Prop)
  (hq : ∀ r Q Post, Zdn P T C.l n os r c a τ (KB T rs os fx r Post lf lx Q) = q r Q Post) (hQ : ∀ τ, FQ T rs os Post .ret τ → Q .ret τ) (h : ∀ r, r.θ = C.θ → r.H0 = C.H0 → r.κ = C.κ → r.no = C.no → q r Q Post) : LW P n C c τ Q :=
 ZDE hC hT hm a lf lx (by rw [hO]; exact hQ) (fun γ => by rw [hO, hF, hq]; exact h _ rfl rfl rfl rfl)
theorem Zyc (hC : CxOk C) (hT : TOk P T) (hm : P.follows .mixedOrders = true) {os : Nat} (hO : C.outs = os) {c : Code} (a : AT) (rs : List ResultVar) {Post : AV → List Blk → Prop} (q : Ren → (AV → List Blk → Prop) → Prop)
  (hq : ∀ r Post, Zdn P T C.l n os r c a τ (KF T rs os Post) = q r Post) (h : ∀ r, r.θ = C.θ → r.H0 = C.H0 → r.κ = C.κ → r.no = C.no → q r Post) : LW P n C c τ (FQ T rs os Post) := by
 subst hO
 exact ZHU hC hT hm a (fun γ => by rw [hq]; exact h _ rfl rfl rfl rfl)
mutual
theorem ZrZ {H : Hp} : ∀ (x : AV) {a : AT} {K K' : AV → AT → Prop}, (∀ y a, K y a → K' y a) → frz H x a K → frz H x a K'
 | .d x, a, K, K', hk, h => hk _ _ h
 | .e0, a, K, K', hk, h => hk _ _ h
 | .agg xs, a, K, K', hk, h => Zkb xs (fun ys a h => hk _ _ h) h
 | .ref k g off m, a, K, K', hk, h => by
  unfold frz at h ⊢
  split at h
  ·exact hk _ _ h
  ·split at h
   ·exact ⟨h.1, hk _ _ h.2⟩
   ·exact h.elim
  ·exact h.elim
 | .top, a, K, K', hk, h => by simp only [frz] at h
 | .p _, a, K, K', hk, h => by simp only [frz] at h
 | .ptr _ _ _, a, K, K', hk, h => by simp only [frz] at h
 | .mp k g, a, K, K', hk, h => by
  unfold frz at h ⊢
  split at h
  ·exact hk _ _ h
  ·exact hk _ _ h
  ·exact h.elim
 | .iptr _ _, a, K, K', hk, h => by simp only [frz] at h
 | .fn _ _ _, a, K, K', hk, h => by simp only [frz] at h
 | .tup _, a, K, K', hk, h => by simp only [frz] at h
theorem Zkb {H : Hp} : ∀ (xs : List AV) {a : AT} {K K' : List AV → AT → Prop}, (∀ y a, K y a → K' y a) → Zu2 H xs a K → Zu2 H xs a K'
 | [], a, K, K', hk, h => hk _ _ h
 | x :: xs, a, K, K', hk, h => by
  simp only [Zu2] at h ⊢
  exact ZrZ x (fun y a h => Zkb xs (fun ys a h => hk _ _ h) h) h
end
end
end Go.Eng
namespace Go.Eng
set_option linter.all false
open Go Go.RowKit
theorem Zcg {α : Type} (e : α → List D) (x : α) (xs : List α) : Zaa e (x :: xs) = (e x).map .d ++ Zaa e xs := by simp [Zaa]
theorem ZdU {α : Type} {e : α → List D} {sz : Nat} (hl : ∀ x, (e x).length = sz) : ∀ (xs : List α) (j : Nat), (Zaa e xs).drop (j * sz) = Zaa e (xs.drop j)
 | [], j => by simp [Zaa]
 | x :: xs, 0 => by simp
 | x :: xs, j + 1 => by
  have h1 : ((e x).map AV.d).length = sz := by rw [List.length_map, hl]
  rw [Zcg, Nat.add_mul, Nat.one_mul, Nat.add_comm, ← List.drop_drop, List.drop_left' h1, ZdU hl xs j]
  rfl
theorem ZgZ {α : Type} {e : α → List D} {sz : Nat} (hl : ∀ x, (e x).length = sz) : ∀ (xs : List α) (j : Nat), (Zaa e xs).take (j * sz) = Zaa e (xs.take j)
 | [], j => by simp [Zaa]
 | x :: xs, 0 => by simp [Zaa]
 | x :: xs, j + 1 => by
  have h1 : ((e x).map AV.d).length = sz := by rw [List.length_map, hl]
  rw [Zcg, List.take_succ_cons, Zcg, Nat.add_mul, Nat.one_mul, Nat.add_comm, List.take_append, h1, Nat.add_sub_cancel_left, ZgZ hl xs j, List.take_of_length_le (by omega)]
theorem ZpQ {α : Type} {xs : List α} {j : Nat} {z : α} (hj : j < xs.length) : xs.drop j = xs.getD j z :: xs.drop (j + 1) := by
 rw [List.drop_eq_getElem_cons hj, List.getD_eq_getElem?_getD, List.getElem?_eq_getElem hj]; rfl
theorem Zg4 {α : Type} {e e' : α → List D} {xs : List α} {j sz : Nat} {z : α} (hj : j < xs.length) (hl : ∀ x, (e x).length = sz) (he : ∀ x, e x = e' x) : Zb7 (Zaa e xs) (j * sz) ((e' (xs.getD j z)).map .d) := by
 unfold Zb7
 rw [ZdU hl, ZpQ (z := z) hj, Zcg, he, List.take_left]
theorem Zjo {α : Type} {e e' : α → List D} {xs : List α} {j sz o : Nat} {z : α} {c : List AV} (hj : j < xs.length) (hl : ∀ x, (e x).length = sz) (he : ∀ x, e x = e' x)
  (hc : (((e' (xs.getD j z)).map .d).drop o).take c.length = c) (ho : o + c.length ≤ sz) : Zb7 (Zaa e xs) (j * sz + o) c := by
 unfold Zb7
 have h1 : ((e' (xs.getD j z)).map AV.d).length = sz := by rw [List.length_map, ← he, hl]
 rw [← List.drop_drop, ZdU hl, ZpQ (z := z) hj, Zcg, he, List.drop_append_of_le_length (by omega), List.take_append_of_le_length (by rw [List.length_drop]; omega), hc]
theorem ZAl {α : Type} {e : α → List D} {xs : List α} {j sz : Nat} {y : α} (hj : j < xs.length) (hl : ∀ x, (e x).length = sz) : StS (Zaa e xs) (j * sz) ((e y).map .d) (Zaa e (xs.set j y)) := by
 have h1 : ((e y).map AV.d).length = sz := by rw [List.length_map, hl]
 have h2 : (j + 1) * sz ≤ xs.length * sz := Nat.mul_le_mul_right _ hj
 rw [Nat.add_mul, Nat.one_mul] at h2
 refine ⟨by rw [h1, Zci hl]; omega, ?_⟩
 rw [h1, ZgZ hl, show j * sz + sz = (j + 1) * sz from by rw [Nat.add_mul, Nat.one_mul], ZdU hl, List.set_eq_take_append_cons_drop, if_pos hj, ZfM, Zcg, List.append_assoc]
end Go.Eng
namespace Go.Eng
set_option linter.all false
open Go Go.RowKit
def ZdH (r : Ren) : List (Key × Blk) → Hp → Hp
 | [], H => H
 | (k, b) :: rest, H => ZdH r rest (updH H (r.κ k) (ZbG r k b))
def Zjk (P : Program) (l : Nat) (r : Ren) (f : FuncId) (xs : List AV) (hb : List (Key × Blk)) (x : AV) (hb2 : List (Key × Blk)) (fr : List Key) : Prop :=
 ∀ H', (∀ p ∈ hb, (H' (r.κ p.1)).g = r.γ p.1 + p.2.g ∧ (p.2.live = true → H' (r.κ p.1) = ZbG r p.1 p.2)) → (∀ k : Key, k.1 ≤ l → ¬ r.no k → H' k = r.H0 k) →
  Zcw P f (l + 1) (Zas r xs) H' (fun y H'' => ∃ γ' : Key → Nat, (∀ k, k ∉ fr → γ' k = r.γ k) ∧ y = ren ⟨r.κ, γ', r.θ, r.H0, r.no⟩ x ∧ H'' = ZdH ⟨r.κ, γ', r.θ, r.H0, r.no⟩ hb2 H')
mutual
def Zev (fr : List Key) : AV → Bool
 | .ref k _ _ _ => fr.any (Zeu k)
 | .ptr k _ _ => fr.any (Zeu k)
 | .mp k _ => fr.any (Zeu k)
 | .fn _ xs ys => Zdz fr xs || Zdz fr ys
 | .agg xs => Zdz fr xs
 | .tup xs => Zdz fr xs
 | .top => false
 | .d _ => false
 | .e0 => false
 | .p _ => false
 | .iptr _ _ => false
def Zdz (fr : List Key) : List AV → Bool
 | [] => false
 | x :: xs => Zev fr x || Zdz fr xs
end
def Zfe (fr : List Key) : List (Nat × AV) → List (Nat × AV)
 | [] => []
 | (j, x) :: r => (j, match Zev fr x with | true => .top | false => x) :: Zfe fr r
def ZdO (ks fr fl : List Key) : List (Key × Blk) → List (Key × Blk)
 | [] => []
 | (k, b) :: r => match ks.any (Zeu k), fl.any (Zeu k) || !Zdz fr b.cells with
  | false, true => (k, b) :: ZdO ks fr fl r
  | _, _ => ZdO (k :: ks) fr fl r
def Zwx : Option Nat → AV → List (Nat × AV) → List (Nat × AV)
 | some d, x, r => (d, x) :: r
 | none, _, r => r
def okK (os : Nat) (k : Key) : Bool := Nat.beq k.1 1 || (Nat.beq k.1 0 && Nat.ble (k.2 + 1) os)
def Zkk (os : Nat) : List (Key × Blk) → Bool
 | [] => true
 | (k, b) :: r => okK os k && b.live && !(r.any fun p => Zeu k p.1) && Zkk os r
mutual
theorem Zh0 {r : Ren} {γ' : Key → Nat} {fr : List Key} (hγ : ∀ k, k ∉ fr → γ' k = r.γ k) : ∀ (x : AV), Zev fr x = false → ren ⟨r.κ, γ', r.θ, r.H0, r.no⟩ x = ren r x
 | .ref k g off n, h => by simp only [Zev] at h; simp only [ren]; rw [hγ k (ZiC h)]
 | .ptr k g off, h => by simp only [Zev] at h; simp only [ren]; rw [hγ k (ZiC h)]
 | .mp k g, h => by simp only [Zev] at h; simp only [ren]; rw [hγ k (ZiC h)]
 | .fn f xs ys, h => by
  simp only [Zev, Bool.or_eq_false_iff] at h
  have e1 := Zcv hγ xs h.1
  have e2 := Zcv hγ ys h.2
  cases f <;> simp only [ren, e1, e2]
 | .agg xs, h => by simp only [Zev] at h; simp only [ren, Zcv hγ xs h]
 | .tup xs, h => by simp only [Zev] at h; simp only [ren, Zcv hγ xs h]
 | .top, _ => by simp [ren]
 | .d _, _ => by simp [ren]
 | .e0, _ => by simp [ren]
 | .p _, _ => by simp [ren]
 | .iptr _ _, _ => by simp [ren]
theorem Zcv {r : Ren} {γ' : Key → Nat} {fr : List Key} (hγ : ∀ k, k ∉ fr → γ' k = r.γ k) : ∀ (xs : List AV), Zdz fr xs = false → Zas ⟨r.κ, γ', r.θ, r.H0, r.no⟩ xs = Zas r xs
 | [], _ => by simp [Zas]
 | x :: xs, h => by
  simp only [Zdz, Bool.or_eq_false_iff] at h
  simp only [Zas, Zh0 hγ x h.1, Zcv hγ xs h.2]
theorem ZiC {k : Key} {fr : List Key} (h : fr.any (Zeu k) = false) : k ∉ fr := fun hm => by
 have : fr.any (Zeu k) = true := List.any_eq_true.2 ⟨k, hm, Zbn.2 rfl⟩
 rw [this] at h; cases h
end
def Zc2 : Code → Array Oper
 | .region _ ops _ => ops
 | _ => #[]
def ZEq : Code → Bool
 | .region _ _ false => true
 | _ => false
def Zjb {α : Type} : Nat → List α → List α
 | 0, l => l
 | _ + 1, [] => []
 | n + 1, _ :: l => Zjb n l
def ZmG {α : Type} : Nat → List α → List α
 | 0, _ => []
 | _ + 1, [] => []
 | n + 1, x :: l => x :: ZmG n l
theorem ZiN {α : Type} : ∀ (n : Nat) (l : List α), Zjb n l = l.drop n
 | 0, l => rfl
 | n + 1, [] => rfl
 | n + 1, x :: l => ZiN n l
theorem Zmf {α : Type} : ∀ (n : Nat) (l : List α), ZmG n l = l.take n
 | 0, l => rfl
 | n + 1, [] => rfl
 | n + 1, x :: l => by rw [ZmG, Zmf n l]; rfl
def LO (P : Program) (n : Nat) (C : Cx) (c : Code) (k : Nat) (τ : St) (Q : Exit → St → Prop) : Prop :=
 ∀ γ σ act w, C.G γ → RG (C.r γ) C.l C.outs [] τ σ → R C.l n C.B σ act w → wpList P (Zc2 c) (fun e a' w' => ∃ σ', Is n C (Q e) σ' ∧ R C.l n C.B σ' a' w') ((Zc2 c).toList.drop k) act w
def Zfq (c : Code) (k : Nat) : Option (Option Nat × Operand × List Operand) :=
 match nth (Zc2 c).toList k with
 | some o => (match o.guard, o.op with
  | none, .call cl => (match cl.callee with | .value f => some (o.dst, f, cl.args.toList) | _ => none)
  | _, _ => none)
 | none => none
def wrL (C : Cx) : List (Key × Blk) → Prop
 | [] => True
 | (k, _) :: r => match Nat.beq k.1 1 with | true => wrL C r | false => C.no (C.κ k) ∧ wrL C r
def flL (H : Hp) : List Key → Prop
 | [] => True
 | k :: r => ZjZ (H k).cells ∧ flL H r
def ZJe (fr : List Key) (hb2 : List (Key × Blk)) : Bool := fr.all fun k => hb2.any fun p => Zeu k p.1
def Zmo (fr : List Key) (fx : List Nat) : Bool := fr.all fun k => !(Nat.beq k.1 0 && fx.any (Nat.beq k.2))
def ZkV : List (Key × Blk) → Bool
 | [] => true
 | (_, b) :: r => Nat.beq b.g 0 && ZkV r
def ZMu : Option Nat → (Nat → AV) → AV → Nat → AV
 | some d, s, v => upd s d v
 | none, s, _ => s
def Ztk (n : Nat) : Option Nat → Bool
 | some d => Nat.ble (d + 1) n
 | none => true
section
variable {P : Program} {T : Nat → Option TI} {n : Nat} {C : Cx} {τ : St} {Q : Exit → St → Prop}
theorem Znp {c : Code} (hc : ZEq c = true) (h : LO P n C c 0 τ Q) : LW P n C c τ Q := by
 cases c with
 | region id ops dr =>
  cases dr with
  | true => cases hc
  | false =>
   obtain ⟨opl, rfl⟩ : ∃ l : List Oper, ops = l.toArray := ⟨ops.toList, by simp⟩
   intro γ σ hg hG act w hR
   have := h γ σ act w hg hG hR
   simp only [Zc2, List.drop_zero] at this
   exact wp_region_lit this
 | _ => cases hc
theorem ZD0 (hC : CxOk C) (hT : TOk P T) {os : Nat} {fx : List Nat} (hO : C.outs = os) (hF : C.fx = fx) {c : Code} {k : Nat} (m : Nat) (a : AT) (lf : Lf) (q : Ren → (St → Prop) → Prop)
  (hq : ∀ r Φ, Zd6 r os a τ (fun τ a => Zkd P T C.l n r ((Zc2 c).toList.map (·.dst)) (ZmG m (Zjb k (Zc2 c).toList)) [] a (fun τ' env a' => Zd6 r os a' (ZmF env τ') (fun τ _ => Zhq fx lf τ Φ)) τ) = q r Φ)
  (h : ∀ r, r.θ = C.θ → r.H0 = C.H0 → r.κ = C.κ → r.no = C.no → q r (fun τ' => LO P n C c (k + m) τ' Q)) : LO P n C c k τ Q := by
 subst hO
 subst hF
 intro γ σ act w hg hG hR
 have h1 := h (C.r γ) rfl rfl rfl rfl
 rw [← hq] at h1
 obtain ⟨τ₁, a₁, σ₁, h2, hG1, hw1⟩ := Zat (n := n) hC a h1 hG
 have e : (Zc2 c).toList.drop k = ZmG m (Zjb k (Zc2 c).toList) ++ (Zc2 c).toList.drop (k + m) := by
  rw [Zmf, ZiN, ← List.drop_drop, List.take_append_drop]
 rw [e]
 refine Zdu (hC.ren γ) hT (B := C.B) _ (fun τ' env' a' σ' act' w' k1 k2 k3 => ?_) _ [] a₁ τ₁ σ₁ act w h2 hG1 (hw1 _ _ hR)
 obtain ⟨σ₂, g1, g2⟩ := Zen (n := n) k2
 obtain ⟨τ₃, a₃, σ₃, f1, f2, f3⟩ := Zat (n := n) hC a' k1 g1
 obtain ⟨γ', τ₄, σ₄, j0, j1, j2, j3⟩ := Zcd (n := n) hC f1 hg f2
 exact j1 γ' σ₄ act' w' j0 j2 (j3 _ _ (f3 _ _ (g2 _ _ k3)))
theorem ZHB (hC : CxOk C) (hT : TOk P T) {os : Nat} {fx : List Nat} (hO : C.outs = os) (hF : C.fx = fx) {c : Code} {k : Nat} (a : AT) (lf : Lf) (q : Ren → (Exit → St → Prop) → Prop)
  (hq : ∀ r Φ, Zd6 r os a τ (fun τ a => Zkd P T C.l n r ((Zc2 c).toList.map (·.dst)) (Zjb k (Zc2 c).toList) [] a (fun τ' env a' => Zd6 r os a' (ZmF env τ') (fun τ _ => Zhq fx lf τ (Φ .normal))) τ) = q r Φ)
  (h : ∀ r, r.θ = C.θ → r.H0 = C.H0 → r.κ = C.κ → r.no = C.no → q r Q) : LO P n C c k τ Q := by
 subst hO
 subst hF
 intro γ σ act w hg hG hR
 have h1 := h (C.r γ) rfl rfl rfl rfl
 rw [← hq] at h1
 obtain ⟨τ₁, a₁, σ₁, h2, hG1, hw1⟩ := Zat (n := n) hC a h1 hG
 have e : (Zc2 c).toList.drop k = Zjb k (Zc2 c).toList ++ [] := by rw [ZiN, List.append_nil]
 rw [e]
 refine Zdu (hC.ren γ) hT (B := C.B) _ (fun τ' env' a' σ' act' w' k1 k2 k3 => ?_) _ [] a₁ τ₁ σ₁ act w h2 hG1 (hw1 _ _ hR)
 obtain ⟨σ₂, g1, g2⟩ := Zen (n := n) k2
 obtain ⟨τ₃, a₃, σ₃, f1, f2, f3⟩ := Zat (n := n) hC a' k1 g1
 obtain ⟨γ', τ₄, σ₄, j0, j1, j2, j3⟩ := Zcd (n := n) hC f1 hg f2
 unfold wpList
 exact ⟨σ₄, ⟨γ', τ₄, σ₄, j0, j1, j2, Wk.refl _⟩, j3 _ _ (f3 _ _ (g2 _ _ k3))⟩
theorem ZfN : ∀ {hs : List (Key × Blk)}, ZkV hs = true → ∀ k, (lkH hs k).g = 0
 | [], _, k => rfl
 | (k', b) :: r, h, k => by
  simp only [ZkV, Bool.and_eq_true] at h
  simp only [lkH]
  split
  ·exact Nat.eq_of_beq_eq_true h.1
  ·exact ZfN h.2 k
theorem ZlB {k : Key} {ks : List Key} : ks.any (Zeu k) = true ↔ k ∈ ks := by
 rw [List.any_eq_true]
 exact ⟨fun ⟨q, h1, h2⟩ => by rw [Zbn.1 h2]; exact h1, fun h => ⟨k, h, Zbn.2 rfl⟩⟩
theorem ZyL (a b : List (Key × Blk)) (k : Key) : lkH (a ++ b) k = if k ∈ a.map (·.1) then lkH a k else lkH b k := by
 induction a with
 | nil => simp
 | cons p a ih =>
  obtain ⟨q, b'⟩ := p
  simp only [List.cons_append, lkH, List.map_cons, List.mem_cons]
  cases hq : Zeu q k with
  | true => rw [if_pos (.inl (Zbn.1 hq).symm)]
  | false =>
   have : k ≠ q := fun e => by rw [Zbn.2 e.symm] at hq; cases hq
   simp only [this, false_or]
   exact ih
theorem Zds {fr fl : List Key} : ∀ (hs : List (Key × Blk)) (ks : List Key) (k : Key), (k ∈ ks → lkH (ZdO ks fr fl hs) k = Zom) ∧ (k ∉ ks → (lkH (ZdO ks fr fl hs) k = lkH hs k ∧ (k ∈ fl ∨ Zdz fr (lkH hs k).cells = false)) ∨ lkH (ZdO ks fr fl hs) k = Zom)
 | [], ks, k => ⟨fun _ => rfl, fun _ => .inr rfl⟩
 | (q, b) :: r, ks, k => by
  simp only [ZdO]
  split
  ·rename_i h1 h2
   have hqk : q ∉ ks := fun hm => by rw [ZlB.2 hm] at h1; cases h1
   simp only [lkH]
   cases hq : Zeu q k with
   | true =>
    have hq := Zbn.1 hq
    subst hq
    refine ⟨fun h => absurd h hqk, fun _ => .inl ⟨rfl, ?_⟩⟩
    simp only [Bool.or_eq_true, Bool.not_eq_true'] at h2
    rcases h2 with h2 | h2
    ·exact .inl (ZlB.1 h2)
    ·exact .inr h2
   | false => exact Zds r ks k
  ·obtain ⟨h1, h2⟩ := Zds (fr := fr) (fl := fl) r (q :: ks) k
   refine ⟨fun h => h1 (List.mem_cons_of_mem _ h), fun h => ?_⟩
   by_cases hq : k = q
   ·exact .inr (h1 (by rw [hq]; exact List.mem_cons_self ..))
   ·rcases h2 (fun hm => (List.mem_cons.1 hm).elim hq h) with ⟨e1, e2⟩ | e
    ·have : Zeu q k = false := by
      cases hb : Zeu q k with
      | true => exact absurd (Zbn.1 hb).symm hq
      | false => rfl
     simp only [lkH, this]
     exact .inl ⟨e1, e2⟩
    ·exact .inr e
theorem Zdx {r : Ren} : ∀ (hb2 : List (Key × Blk)) (H : Hp) (q : Key), (∀ p ∈ hb2, r.κ p.1 ≠ q) → ZdH r hb2 H q = H q
 | [], H, q, h => rfl
 | (k, b) :: rest, H, q, h => by
  simp only [ZdH]
  rw [Zdx rest _ q (fun p hp => h p (List.mem_cons_of_mem _ hp)), Zae _ _ (fun e => h (k, b) (List.mem_cons_self ..) e.symm)]
theorem ZlN {r : Ren} {os : Nat} (hinj : ∀ q k : Key, okK os q = true → okK os k = true → q ≠ k → r.κ q ≠ r.κ k) : ∀ (hb2 : List (Key × Blk)) (H : Hp), Zkk os hb2 = true → ∀ k b, (k, b) ∈ hb2 → ZdH r hb2 H (r.κ k) = ZbG r k b ∧ lkH hb2 k = b ∧ okK os k = true ∧ b.live = true
 | [], H, _, k, b, hm => by cases hm
 | (q, c) :: rest, H, hok, k, b, hm => by
  simp only [Zkk, Bool.and_eq_true, Bool.not_eq_true'] at hok
  obtain ⟨⟨⟨h1, h2⟩, h3⟩, h4⟩ := hok
  have hno : ∀ p ∈ rest, p.1 ≠ q := fun p hp e => by
   have : (rest.any fun p => Zeu q p.1) = true := List.any_eq_true.2 ⟨p, hp, Zbn.2 e.symm⟩
   rw [this] at h3; cases h3
  have hoks : ∀ (l : List (Key × Blk)), Zkk os l = true → ∀ p ∈ l, okK os p.1 = true := by
   intro l
   induction l with
   | nil => intro _ p hp; cases hp
   | cons p l ih =>
    obtain ⟨p1, p2⟩ := p
    intro hl p hp
    simp only [Zkk, Bool.and_eq_true] at hl
    rcases List.mem_cons.1 hp with rfl | hp
    ·exact hl.1.1.1
    ·exact ih hl.2 p hp
  simp only [ZdH]
  rcases List.mem_cons.1 hm with e | hm
  ·cases e
   refine ⟨?_, by simp only [lkH, Zbn.2 rfl], h1, h2⟩
   rw [Zdx rest _ _ (fun p hp => hinj _ _ (hoks rest h4 p hp) h1 (hno p hp)), Zab]
  ·obtain ⟨g1, g2, g3, g4⟩ := ZlN hinj rest (updH H (r.κ q) (ZbG r q c)) h4 k b hm
   refine ⟨g1, ?_, g3, g4⟩
   have : Zeu q k = false := by
    cases hb : Zeu q k with
    | true => exact absurd (Zbn.1 hb).symm (hno _ hm)
    | false => rfl
   simp only [lkH, this]
   exact g2
theorem Zo4 : ∀ {hb2 : List (Key × Blk)}, wrL C hb2 → ∀ p ∈ hb2, p.1.1 ≠ 1 → C.no (C.κ p.1)
 | (k, b) :: r, h, p, hp, hne => by
  simp only [wrL] at h
  split at h
  ·rename_i hk
   rcases List.mem_cons.1 hp with rfl | hp
   ·exact absurd (Nat.eq_of_beq_eq_true hk) hne
   ·exact Zo4 h p hp hne
  ·rcases List.mem_cons.1 hp with rfl | hp
   ·exact h.1
   ·exact Zo4 h.2 p hp hne
theorem ZqU {H : Hp} : ∀ {ks : List Key}, flL H ks → ∀ k ∈ ks, ZjZ (H k).cells
 | q :: r, h, k, hk => by
  rcases List.mem_cons.1 hk with rfl | hk
  ·exact h.1
  ·exact ZqU h.2 k hk
theorem ZdZ {os : Nat} {k : Key} (h : okK os k = true) : k.1 = 1 ∨ (k.1 = 0 ∧ k.2 < os) := by
 simp only [okK, Bool.or_eq_true, Bool.and_eq_true] at h
 rcases h with h | ⟨h1, h2⟩
 ·exact .inl (Nat.eq_of_beq_eq_true h)
 ·exact .inr ⟨Nat.eq_of_beq_eq_true h1, Nat.le_of_ble_eq_true h2⟩
theorem Zmm {fr : List Key} : ∀ (ss : List (Nat × AV)) (j : Nat), lkS (Zfe fr ss) j = .top ∨ (lkS (Zfe fr ss) j = lkS ss j ∧ Zev fr (lkS ss j) = false)
 | [], j => .inl rfl
 | (i, x) :: r, j => by
  simp only [Zfe, lkS]
  split
  ·split
   ·exact .inl rfl
   ·rename_i h; exact .inr ⟨rfl, h⟩
  ·exact Zmm r j
theorem ZsT (hC : CxOk C) {os : Nat} {fx : List Nat} (hO : C.outs = os) (hF : C.fx = fx) {c : Code} {k : Nat} {ss : List (Nat × AV)} {hs : List (Key × Blk)} (dst : Option Nat) (fo : Operand) (aZ : List Operand) (hop : Zfq c k = some (dst, fo, aZ))
  (f : FuncId) (first caps xs : List AV) (hf : ev (lkS ss) fo = .fn (.func f) first caps) (hxs : first ++ aZ.map (ev (lkS ss)) ++ caps = xs) (ks : List Key) (hb : List (Key × Blk)) (hhb : (ks.map fun k => (k, lkH hs k)) = hb)
  {ι : Type} (I : ι → Prop) (xF : ι → AV) (hbF : ι → List (Key × Blk)) (fr fl : List Key) (hok0 : (Zmo fr fx && ZkV hs && Ztk n dst && ks.all (okK os)) = true) (hok : ∀ i, (Zkk os (hbF i) && ZJe fr (hbF i)) = true) (hwr : ∀ i, wrL C (hbF i)) (hfl : flL (lkH hs) fl)
  (hcall : ∀ r : Ren, r.θ = C.θ → r.H0 = C.H0 → r.κ = C.κ → r.no = C.no → ∀ H', (∀ p ∈ hb, (H' (r.κ p.1)).g = r.γ p.1 + p.2.g ∧ (p.2.live = true → H' (r.κ p.1) = ZbG r p.1 p.2)) → (∀ k : Key, k.1 ≤ C.l → ¬ r.no k → H' k = r.H0 k) →
   Zcw P f (C.l + 1) (Zas r xs) H' (fun y H'' => ∃ i, I i ∧ ∃ γ' : Key → Nat, (∀ k, k ∉ fr → γ' k = r.γ k) ∧ y = ren ⟨r.κ, γ', r.θ, r.H0, r.no⟩ (xF i) ∧ H'' = ZdH ⟨r.κ, γ', r.θ, r.H0, r.no⟩ (hbF i) H'))
  (h : ∀ i, I i → LO P n C c (k + 1) (mkS (Zwx dst (xF i) (Zfe fr ss)) (hbF i ++ ZdO ((hbF i).map (·.1)) fr fl hs)) Q) : LO P n C c k (mkS ss hs) Q := by
 subst hO
 subst hF
 simp only [Bool.and_eq_true] at hok0
 obtain ⟨⟨⟨k3, k4⟩, k5⟩, k6⟩ := hok0
 intro γ σ act w hg hG hR
 have hr := hC.ren γ
 have hs' : ∀ j, σ.s j = ren (C.r γ) (lkS ss j) := fun j => (hG.s j).1 Zap
 have heval : ∀ y : Operand, ev σ.s y = ren (C.r γ) (ev (lkS ss) y) := fun y => Zgr (c := []) hG Zap (by cases y <;> rfl)
 unfold Zfq at hop
 split at hop
 case h_2 => cases hop
 rename_i o ho
 split at hop
 case h_2 => cases hop
 rename_i cl hgd hopc
 split at hop
 case h_2 => cases hop
 rename_i fo' hcal
 simp only [Option.some.injEq, Prod.mk.injEq] at hop
 obtain ⟨hd, rfl, rfl⟩ := hop
 rw [Zb1] at ho
 have hlt : k < (Zc2 c).toList.length := by
  rcases Nat.lt_or_ge k (Zc2 c).toList.length with h | h
  ·exact h
  ·rw [List.getElem?_eq_none h] at ho; cases ho
 have hrest : (Zc2 c).toList.drop k = o :: (Zc2 c).toList.drop (k + 1) := by
  rw [List.drop_eq_getElem_cons hlt]
  rw [List.getElem?_eq_getElem hlt] at ho
  simp only [Option.some.injEq] at ho
  rw [ho]
 rw [hrest]
 have hinj : ∀ q k : Key, okK C.outs q = true → okK C.outs k = true → q ≠ k → (C.r γ).κ q ≠ (C.r γ).κ k := fun q k h1 h2 h3 => hr.ne (ZdZ h1) (ZdZ h2) h3
 have hA := hcall (C.r γ) rfl rfl rfl rfl σ.H (fun p hp => by
  rw [← hhb] at hp
  obtain ⟨q, hq, rfl⟩ := List.mem_map.1 hp
  have hq' := ZdZ (List.all_eq_true.1 k6 q hq)
  refine ⟨?_, fun hl => hG.h q hl⟩
  obtain ⟨q1, q2⟩ := q
  simp only at hq'
  rcases hq' with rfl | ⟨rfl, h2⟩
  ·have := hG.g q2
   rw [← hr.own] at this
   exact this
  ·exact hG.go q2 h2) hG.o
 have hargs : Zas (C.r γ) xs = Zas (C.r γ) first ++ cl.args.toList.map (ev σ.s) ++ Zas (C.r γ) caps := by
  rw [← hxs, ZcP, ZcP]
  congr 2
  rw [ZcI, List.map_map]
  exact List.map_congr_left fun y _ => (heval y).symm
 have hfe : ev σ.s fo' = .fn (.func f) (Zas (C.r γ) first) (Zas (C.r γ) caps) := by rw [heval, hf]; simp [ren]
 have hrop : rOp P C.l n o (fun σ' => ∃ i, I i ∧ ∃ γ' : Key → Nat, (∀ q, q ∉ fr → γ' q = γ q) ∧ σ' = ⟨ZMu dst σ.s (ren (C.r γ') (xF i)), ZdH (C.r γ') (hbF i) σ.H⟩) σ := by
  unfold rOp
  rw [hopc]
  simp only [hcal, hfe]
  rw [hargs] at hA
  refine hA.mono fun y H'' ⟨i, hi, γ', e1, e2, e3⟩ => ?_
  unfold ZHO Zhk
  rw [hd]
  cases dst with
  | none => exact ⟨i, hi, γ', e1, by rw [e3]; rfl⟩
  | some d => exact ⟨Nat.le_of_ble_eq_true k5, i, hi, γ', e1, by rw [e2, e3]; rfl⟩
 refine ZdB (by simp [Region.wanted, hgd]) (Zdp hrop) hR fun σ' act' w' hK hR' => ?_
 obtain ⟨i, hi, γ', e1, rfl⟩ := hK
 have h := h i hi
 have hwr := hwr i
 have hok := hok i
 generalize hbF i = hb2 at h hwr hok hR'
 generalize xF i = x at h hR'
 simp only [Bool.and_eq_true] at hok
 obtain ⟨k1, k2⟩ := hok
 have hsub : ∀ q, q ∈ fr → ∃ b, (q, b) ∈ hb2 := fun q hq => by
  obtain ⟨p, hp, hk⟩ := List.any_eq_true.1 (List.all_eq_true.1 k2 q hq)
  rw [Zbn.1 hk]; exact ⟨p.2, hp⟩
 let τ2 : St := mkS (Zwx dst x (Zfe fr ss)) (hb2 ++ ZdO (hb2.map (·.1)) fr fl hs)
 have hlow : ∀ q, lkH (hb2 ++ ZdO (hb2.map (·.1)) fr fl hs) q = if q ∈ hb2.map (·.1) then lkH hb2 q else lkH (ZdO (hb2.map (·.1)) fr fl hs) q := fun q => ZyL _ _ _
 have hin : ∀ q, q ∈ hb2.map (·.1) → ∃ b, (q, b) ∈ hb2 := fun q hq => by obtain ⟨p, hp, rfl⟩ := List.mem_map.1 hq; exact ⟨p.2, hp⟩
 have hput : ∀ q b, (q, b) ∈ hb2 → ZdH (C.r γ') hb2 σ.H ((C.r γ').κ q) = ZbG (C.r γ') q b ∧ lkH hb2 q = b ∧ okK C.outs q = true ∧ b.live = true := ZlN (r := C.r γ') hinj hb2 σ.H k1
 have hkeep : ∀ q, q ∉ hb2.map (·.1) → okK C.outs q = true → ZdH (C.r γ') hb2 σ.H ((C.r γ').κ q) = σ.H ((C.r γ').κ q) ∧ γ' q = γ q := fun q hq hkq => by
  refine ⟨Zdx _ _ _ fun p hp => hinj _ _ (hput p.1 p.2 hp).2.2.1 hkq fun e => hq (List.mem_map.2 ⟨p, hp, e⟩), e1 q fun hf => ?_⟩
  obtain ⟨b, hb⟩ := hsub q hf
  exact hq (List.mem_map.2 ⟨_, hb, rfl⟩)
 have hgen : ∀ q, okK C.outs q = true → (σ.H (C.κ q)).g = γ q → (ZdH (C.r γ') hb2 σ.H (C.κ q)).g = γ' q + (lkH (hb2 ++ ZdO (hb2.map (·.1)) fr fl hs) q).g := fun q hkq hq0 => by
  rw [hlow]
  split
  ·rename_i hm
   obtain ⟨b, hb⟩ := hin q hm
   obtain ⟨a1, a2, _⟩ := hput q b hb
   rw [show C.κ q = (C.r γ').κ q from rfl, a1, a2]
   rfl
  ·rename_i hm
   obtain ⟨a1, a2⟩ := hkeep q hm hkq
   rw [show C.κ q = (C.r γ').κ q from rfl, a1, a2]
   have : (lkH (ZdO (hb2.map (·.1)) fr fl hs) q).g = 0 := by
    rcases (Zds (fr := fr) (fl := fl) hs (hb2.map (·.1)) q).2 hm with ⟨e, _⟩ | e
    ·rw [e]; exact ZfN k4 q
    ·rw [e]; rfl
   rw [this]
   exact hq0
 have hG2 : RG (C.r γ') C.l C.outs [] τ2 ⟨fun j => ren (C.r γ') (τ2.s j), ZdH (C.r γ') hb2 σ.H⟩ := by
  refine ⟨fun j => ⟨fun _ => rfl, fun hn => absurd Zap hn⟩, fun q hq => ?_, fun d => ?_, fun i hi => ?_, fun q hq => ?_, fun q hq hn => ?_⟩
  ·show ZdH (C.r γ') hb2 σ.H ((C.r γ').κ q) = ZbG (C.r γ') q (lkH (hb2 ++ ZdO (hb2.map (·.1)) fr fl hs) q)
   replace hq : (lkH (hb2 ++ ZdO (hb2.map (·.1)) fr fl hs) q).live = true := hq
   rw [hlow] at hq ⊢
   split at hq
   ·rename_i hm
    rw [if_pos hm]
    obtain ⟨b, hb⟩ := hin q hm
    obtain ⟨a1, a2, _⟩ := hput q b hb
    rw [a1, a2]
   ·rename_i hm
    rw [if_neg hm]
    rcases (Zds (fr := fr) (fl := fl) hs (hb2.map (·.1)) q).2 hm with ⟨e, e'⟩ | e
    ·rw [e] at hq ⊢
     have hkq := hG.k q hq
     have hok : okK C.outs q = true := by
      obtain ⟨q1, q2⟩ := q
      simp only at hkq
      simp only [okK, Bool.or_eq_true, Bool.and_eq_true]
      rcases hkq with rfl | ⟨rfl, h2⟩
      ·exact .inl rfl
      ·exact .inr ⟨rfl, Nat.ble_eq_true_of_le h2⟩
     obtain ⟨a1, a2⟩ := hkeep q hm hok
     rw [a1]
     have hb := hG.h q hq
     have hcells : Zas (C.r γ') (lkH hs q).cells = Zas (C.r γ) (lkH hs q).cells := by
      rcases e' with e' | e'
      ·rw [Zct (ZqU hfl q e'), Zct (ZqU hfl q e')]
      ·exact Zcv (r := C.r γ) e1 _ e'
     show σ.H ((C.r γ).κ q) = _
     rw [hb]
     simp only [ZbG]
     rw [hcells, show (C.r γ').γ q = γ' q from rfl, a2]
     rfl
    ·rw [e] at hq; cases hq
  ·have := hgen (1, d) rfl (by
    have := hG.g d
    rw [show ((mkS ss hs).H (1, d)).g = 0 from ZfN k4 _] at this
    rw [hC.own]; exact this)
   rw [hC.own] at this
   exact this
  ·exact hgen (0, i) (by simp only [okK, Bool.or_eq_true, Bool.and_eq_true]; exact .inr ⟨rfl, Nat.ble_eq_true_of_le hi⟩) (by
    have := hG.go i hi
    rw [show ((mkS ss hs).H (0, i)).g = 0 from ZfN k4 _] at this
    exact this)
  ·replace hq : (lkH (hb2 ++ ZdO (hb2.map (·.1)) fr fl hs) q).live = true := hq
   rw [hlow] at hq
   split at hq
   ·rename_i hm
    obtain ⟨b, hb⟩ := hin q hm
    exact ZdZ (hput q b hb).2.2.1
   ·rename_i hm
    rcases (Zds (fr := fr) (fl := fl) hs (hb2.map (·.1)) q).2 hm with ⟨e, e'⟩ | e
    ·rw [e] at hq; exact hG.k q hq
    ·rw [e] at hq; cases hq
  ·show ZdH (C.r γ') hb2 σ.H q = C.H0 q
   rw [Zdx _ _ _ fun p hp e => ?_]
   ·exact hG.o q hq hn
   ·by_cases h1 : p.1.1 = 1
    ·obtain ⟨⟨p1, p2⟩, p3⟩ := p
     simp only at h1
     subst h1
     rw [show (C.r γ').κ (1, p2) = (C.l + 1, p2) from hC.own p2] at e
     rw [← e] at hq
     simp at hq
     omega
    ·exact hn (by rw [← e]; exact Zo4 hwr p hp h1)
 refine h γ' _ act' w' (hC.G γ γ' (fun i hi => e1 _ fun hm => ?_) hg) hG2 (R.weaken hR' fun j => ?_)
 ·have := List.all_eq_true.1 k3 _ hm
  simp only [Bool.not_eq_true', Bool.and_eq_false_iff] at this
  rcases this with h | h
  ·cases h
  ·have : (C.fx.any (Nat.beq i)) = true := List.any_eq_true.2 ⟨i, hi, by simp⟩
   rw [this] at h; cases h
 ·have old : ren (C.r γ') (lkS (Zfe fr ss) j) = σ.s j ∨ ren (C.r γ') (lkS (Zfe fr ss) j) = .top := by
   rcases Zmm (fr := fr) ss j with e | ⟨e, e'⟩
   ·right; rw [e]; simp [ren]
   ·left
    rw [e, hs' j]
    exact Zh0 (r := C.r γ) e1 _ e'
  show ren (C.r γ') (lkS (Zwx dst x (Zfe fr ss)) j) = _ ∨ ren (C.r γ') (lkS (Zwx dst x (Zfe fr ss)) j) = .top
  cases dst with
  | none => exact old
  | some d =>
   simp only [Zwx, lkS, ZMu, upd]
   cases hj : Nat.beq d j with
   | true =>
    have := Nat.eq_of_beq_eq_true hj
    subst this
    left; rw [if_pos rfl]
   | false =>
    have : j ≠ d := fun e => by rw [e] at hj; simp at hj
    rw [if_neg this]
    exact old
theorem Zx8 (hC : CxOk C) {os : Nat} {fx : List Nat} (hO : C.outs = os) (hF : C.fx = fx) {c : Code} {k : Nat} {ss : List (Nat × AV)} {hs : List (Key × Blk)} (dst : Option Nat) (fo : Operand) (aZ : List Operand) (hop : Zfq c k = some (dst, fo, aZ))
  (f : FuncId) (first caps xs : List AV) (hf : ev (lkS ss) fo = .fn (.func f) first caps) (hxs : first ++ aZ.map (ev (lkS ss)) ++ caps = xs) (ks : List Key) (hb : List (Key × Blk)) (hhb : (ks.map fun k => (k, lkH hs k)) = hb)
  (x : AV) (hb2 : List (Key × Blk)) (fr fl : List Key) (hok : (Zkk os hb2 && ZJe fr hb2 && Zmo fr fx && ZkV hs && Ztk n dst && ks.all (okK os)) = true) (hwr : wrL C hb2) (hfl : flL (lkH hs) fl)
  (hcall : ∀ r : Ren, r.θ = C.θ → r.H0 = C.H0 → r.κ = C.κ → r.no = C.no → Zjk P C.l r f xs hb x hb2 fr)
  (h : LO P n C c (k + 1) (mkS (Zwx dst x (Zfe fr ss)) (hb2 ++ ZdO (hb2.map (·.1)) fr fl hs)) Q) : LO P n C c k (mkS ss hs) Q := by
 simp only [Bool.and_eq_true] at hok
 obtain ⟨⟨⟨⟨⟨k1, k2⟩, k3⟩, k4⟩, k5⟩, k6⟩ := hok
 exact ZsT hC hO hF dst fo aZ hop f first caps xs hf hxs ks hb hhb (ι := Unit) (fun _ => True) (fun _ => x) (fun _ => hb2) fr fl (by simp only [Bool.and_eq_true]; exact ⟨⟨⟨k3, k4⟩, k5⟩, k6⟩) (fun _ => by simp only [Bool.and_eq_true]; exact ⟨k1, k2⟩) (fun _ => hwr) hfl
  (fun r h1 h2 h3 h4 H' a b => (hcall r h1 h2 h3 h4 H' a b).mono fun y H'' hh => ⟨(), trivial, hh⟩) fun _ _ => h
end
end Go.Eng
namespace Go.Eng
set_option linter.all false
open Go Go.RowKit
def kOf (l : Nat) (ks : List Key) : Key → Key
 | (0, i) => match nth ks i with | some k => k | none => (0, 0)
 | (_ + 1, d) => (l + 1, d)
def gOf (gs : List Nat) : Key → Nat
 | (0, i) => match nth gs i with | some g => g | none => 0
 | (_ + 1, _) => 0
def rOf (l : Nat) (ks : List Key) (gs : List Nat) (θ : Nat → AV) (H : Hp) : Ren := ⟨kOf l ks, gOf gs, θ, H, fun k => k ∈ ks⟩
def NmO (l : Nat) (ks : List Key) (gs : List Nat) (r : Ren) : Prop := r.κ = kOf l ks ∧ ∀ i, i < ks.length → r.γ (0, i) = gOf gs (0, i)
def ZdN (r : Ren) : Nat → List Blk → List Blk
 | _, [] => []
 | i, b :: bs => ZbG r (0, i) b :: ZdN r (i + 1) bs
def Zkq (H : Hp) : List Key → List Blk → Hp
 | k :: ks, b :: bs => Zkq (updH H k b) ks bs
 | _, _ => H
theorem Zfj : ∀ (ks : List Key) (bs : List Blk) (H : Hp) (q : Key), q ∉ ks → Zkq H ks bs q = H q
 | [], bs, H, q, h => by cases bs <;> rfl
 | k :: ks, [], H, q, h => rfl
 | k :: ks, b :: bs, H, q, h => by
  simp only [Zkq]
  rw [Zfj ks bs _ q (fun hm => h (List.mem_cons_of_mem _ hm)), Zae _ _ (fun e => h (by rw [e]; exact List.mem_cons_self ..))]
theorem Zqg : ∀ (ks : List Key) (bs : List Blk) (H : Hp), ks.Nodup → ∀ (j : Nat) (k : Key) (b : Blk), ks[j]? = some k → bs[j]? = some b → Zkq H ks bs k = b
 | [], bs, H, _, j, k, b, h, _ => by simp at h
 | q :: ks, [], H, _, _, _, _, _, h => by simp at h
 | q :: ks, c :: bs, H, hn, j, k, b, hk, hb => by
  simp only [Zkq]
  rw [List.nodup_cons] at hn
  cases j with
  | zero =>
   simp only [List.getElem?_cons_zero, Option.some.injEq] at hk hb
   subst hk; subst hb
   rw [Zfj ks bs _ _ hn.1, Zab]
  | succ j =>
   simp only [List.getElem?_cons_succ] at hk hb
   exact Zqg ks bs _ hn.2 j k b hk hb
theorem Zlk {r : Ren} : ∀ (bs : List Blk) (i j : Nat), (ZdN r i bs)[j]? = (bs[j]?).map (ZbG r (0, i + j))
 | [], i, j => by simp [ZdN]
 | b :: bs, i, 0 => by simp [ZdN]
 | b :: bs, i, j + 1 => by
  simp only [ZdN, List.getElem?_cons_succ, Zlk bs (i + 1) j, show i + 1 + j = i + (j + 1) from by omega]
theorem ZkT {P : Program} {T : Nat → Option TI} {n : Nat} {f : FuncId} {fn : Func} (rs : List ResultVar) (c : Code) {l : Nat} {xs : List AV} {H : Hp} {Post : AV → Hp → Prop} (ks : List Key) (gs : List Nat) (fx : List Nat) (θ : Nat → AV) (ys : List AV) (hs : List (Key × Blk)) (LPost : AV → List Blk → Prop)
  (hf : P.funcs[f]? = some fn) (hb : fn.body = some c) (hname : (fn.name == "runtime.NumGoroutine") = false) (hn : fn.ntmps = n) (hr : fn.results.toList = rs) (hx : xs.length ≤ n) (hT : TOk P T)
  (hks : ∀ k ∈ ks, k.1 ≤ l) (hnd : ks.Nodup) (hfx : ∀ i, i < ks.length → i ∈ fx) (hh : ∀ d, lkH hs (1, d) = Zom) (hlv : ∀ k, (lkH hs k).live = true → k.1 = 0 ∧ k.2 < ks.length)
  (hH : ∀ i k, ks[i]? = some k → (H k).g = gOf gs (0, i) + (lkH hs (0, i)).g ∧ ((lkH hs (0, i)).live = true → H k = ZbG (rOf l ks gs θ H) (0, i) (lkH hs (0, i))))
  (hxs : Zas (rOf l ks gs θ H) ys = xs)
  (h : ∀ C, CxOk C → C.outs = ks.length → C.fx = fx → C.l = l → C.H0 = H → C.θ = θ → C.κ = kOf l ks → C.no = (fun k => k ∈ ks) → LW P n C c (mkS (Zm1 0 ys) hs) (FQ T rs ks.length LPost))
  (hp : ∀ y b, LPost y b → b.length = ks.length ∧ (∀ x ∈ b, x.live = true) ∧ ∃ Y' bs', (∀ r, NmO l ks gs r → ren r y = Y') ∧ (∀ r, NmO l ks gs r → ZdN r 0 b = bs') ∧ Post Y' (Zkq H ks bs')) : Zcw P f l xs H Post := by
 let C : Base → Cx := fun B => ⟨l, B, kOf l ks, θ, H, ks.length, fun k => k ∈ ks, fx, fun γ => ∀ i ∈ fx, γ (0, i) = gOf gs (0, i)⟩
 have hkO : ∀ i, i < ks.length → ks[i]? = some (kOf l ks (0, i)) := fun i hi => by
  show _ = some (match nth ks i with | some k => k | none => (0, 0))
  rw [Zb1, List.getElem?_eq_getElem hi]
 have hlt : ∀ (i : Nat) (k : Key), ks[i]? = some k → i < ks.length := fun i k hi => by
  rcases Nat.lt_or_ge i ks.length with h | h
  ·exact h
  ·rw [List.getElem?_eq_none h] at hi; cases hi
 have hC : ∀ B, CxOk (C B) := fun B => by
  refine ⟨fun _ => rfl, fun i hi => hks _ (List.mem_of_getElem? (hkO i hi)), fun i j hi hj e => ?_, fun k hk => ?_, fun γ γ' he hg i hi => by rw [he i hi]; exact hg i hi⟩
  ·have h1 := hkO i hi
   have h2 := hkO j hj
   rw [show kOf l ks (0, i) = kOf l ks (0, j) from e] at h1
   have h3 : ks[i]? = ks[j]? := h1.trans h2.symm
   exact (List.getElem?_inj hi hnd).1 h3
  ·obtain ⟨i, hi⟩ := List.mem_iff_getElem?.1 (show k ∈ ks from hk)
   refine ⟨i, hlt i k hi, ?_⟩
   have := hkO i (hlt i k hi)
   rw [hi] at this
   simp only [Option.some.injEq] at this
   exact this.symm
 refine Zmk rs C (γ := gOf gs) (LPost := LPost) (ys := ys) (hs := hs) hf hb hname hn hr hx hT hC (fun B => ⟨rfl, rfl, rfl, fun i _ => rfl⟩) (fun B => hxs) (fun _ => rfl) hh (fun B k hk => ?_) (fun B i hi => ?_) (fun B γ y b H' hg hy ho _ => ?_) (fun B => h _ (hC B) rfl rfl rfl rfl rfl rfl rfl)
 ·obtain ⟨h1, h2⟩ := hlv k hk
  obtain ⟨k1, k2⟩ := k
  simp only at h1 h2
  subst h1
  exact ⟨rfl, h2, (hH k2 _ (hkO k2 h2)).2 hk⟩
 ·exact (hH i _ (hkO i hi)).1
 ·obtain ⟨hbl, hbv, Y', bs', hY, hB, hp⟩ := hp y b hy
  have hnm : NmO l ks gs ((C B).r γ) := ⟨rfl, fun i hi => hg i (hfx i hi)⟩
  have e1 := hB _ hnm
  have e2 : H' = Zkq H ks bs' := by
   funext q
   by_cases hq : q ∈ ks
   ·obtain ⟨i, hi⟩ := List.mem_iff_getElem?.1 hq
    have hi' := hlt i q hi
    have hb' : b[i]? = some b[i] := List.getElem?_eq_getElem (by omega)
    have h1 := ho.live i _ hb' (hbv _ (List.mem_of_getElem? hb'))
    have h2 : kOf l ks (0, i) = q := by
     have := hkO i hi'
     rw [hi] at this
     simp only [Option.some.injEq] at this
     exact this.symm
    rw [show (C B).κ (0, i) = q from h2] at h1
    rw [h1, Zqg ks bs' H hnd i q (ZbG ((C B).r γ) (0, i) b[i]) hi]
    rw [← e1, Zlk, hb', Nat.zero_add]
    rfl
   ·rw [Zfj ks bs' H q hq]
    exact ho.o q hq
  rw [e2, hY _ hnm]
  exact hp
theorem Zn1 {P : Program} {T : Nat → Option TI} {n : Nat} {f : FuncId} {fn : Func} (rs : List ResultVar) (c : Code) {l : Nat} {xs : List AV} {H : Hp} {Post : AV → Hp → Prop} (ks : List Key) (gs : List Nat) (fx : List Nat) (θ : Nat → AV) (ys : List AV) (hs : List (Key × Blk)) (Y : AV) (bs : List Blk) {Y' : AV} {bs' : List Blk}
  (hf : P.funcs[f]? = some fn) (hb : fn.body = some c) (hname : (fn.name == "runtime.NumGoroutine") = false) (hn : fn.ntmps = n) (hr : fn.results.toList = rs) (hx : xs.length ≤ n) (hT : TOk P T)
  (hks : ∀ k ∈ ks, k.1 ≤ l) (hnd : ks.Nodup) (hfx : ∀ i, i < ks.length → i ∈ fx) (hh : ∀ d, lkH hs (1, d) = Zom) (hlv : ∀ k, (lkH hs k).live = true → k.1 = 0 ∧ k.2 < ks.length)
  (hH : ∀ i k, ks[i]? = some k → (H k).g = gOf gs (0, i) + (lkH hs (0, i)).g ∧ ((lkH hs (0, i)).live = true → H k = ZbG (rOf l ks gs θ H) (0, i) (lkH hs (0, i))))
  (hxs : Zas (rOf l ks gs θ H) ys = xs) (hbl : bs.length = ks.length) (hbv : ∀ b ∈ bs, b.live = true) (hY : ∀ r, NmO l ks gs r → ren r Y = Y') (hB : ∀ r, NmO l ks gs r → ZdN r 0 bs = bs')
  (h : ∀ C, CxOk C → C.outs = ks.length → C.fx = fx → C.l = l → C.H0 = H → C.θ = θ → C.κ = kOf l ks → C.no = (fun k => k ∈ ks) → LW P n C c (mkS (Zm1 0 ys) hs) (FQ T rs ks.length (fun y b => y = Y ∧ b = bs)))
  (hp : Post Y' (Zkq H ks bs')) : Zcw P f l xs H Post := by
 exact ZkT rs c ks gs fx θ ys hs (fun y b => y = Y ∧ b = bs) hf hb hname hn hr hx hT hks hnd hfx hh hlv hH hxs h fun y b ⟨e1, e2⟩ => by subst e1; subst e2; exact ⟨hbl, hbv, Y', bs', hY, hB, hp⟩
section
variable {P : Program} {l : Nat} {r : Ren} {f : FuncId} {xs xs' : List AV} {hb hb2 : List (Key × Blk)} {x x' : AV}
theorem Zud (h1 : Zas r xs = xs') (h2 : ren r x = x') (h : ∀ H', (∀ p ∈ hb, (H' (r.κ p.1)).g = r.γ p.1 + p.2.g ∧ (p.2.live = true → H' (r.κ p.1) = ZbG r p.1 p.2)) → (∀ k : Key, k.1 ≤ l → ¬ r.no k → H' k = r.H0 k) → Zcw P f (l + 1) xs' H' (fun y H'' => y = x' ∧ H'' = ZdH r hb2 H')) :
  Zjk P l r f xs hb x hb2 [] := fun H' hb ho => by
 rw [h1]
 exact (h H' hb ho).mono fun y H'' ⟨e1, e2⟩ => ⟨r.γ, fun _ _ => rfl, by rw [e1, ← h2], e2⟩
end
theorem Zfu {r : Ren} {k : Key} (ds : List D) : ZG7 r k (ds.map .d) := by
 unfold ZG7
 rw [Zgi]
 refine List.all_eq_true.2 fun x hx => ?_
 obtain ⟨d, _, rfl⟩ := List.mem_map.1 hx
 rfl
theorem Zm2 {α : Type} (e : α → List D) (xs : List α) : Zhb (Zaa e xs) := fun x hx => by
 obtain ⟨d, _, rfl⟩ := List.mem_map.1 hx; rfl
theorem ZrI {α : Type} {e : α → List D} {xs : List α} {off cn sz : Nat} {z : List AV} (hl : ∀ x, (e x).length = sz) (h : off + cn ≤ xs.length) :
  ZKo (Zaa e xs) off cn sz z ((Zaa e xs).take (off * sz) ++ (List.replicate cn z).flatten ++ (Zaa e xs).drop ((off + cn) * sz)) := by
 refine ⟨?_, rfl⟩
 rw [Zci hl]
 exact Nat.mul_le_mul_right _ h
theorem Zr6 {α : Type} {e : α → List D} {xs : List α} {off sz : Nat} {A B : List AV} (hl : ∀ x, (e x).length = sz) (h : off ≤ xs.length) : ∃ m, ((Zaa e xs).take (off * sz) ++ A ++ B).take m = Zaa e (xs.take off) := by
 refine ⟨off * sz, ?_⟩
 have h1 : ((Zaa e xs).take (off * sz)).length = off * sz := by
  rw [List.length_take, Zci hl]
  exact Nat.min_eq_left (Nat.mul_le_mul_right _ h)
 rw [List.append_assoc, List.take_append_of_le_length (by omega), List.take_of_length_le (by omega), ZgZ hl]
def ZBQ (n : Nat) : List (Key × Blk) → Bool
 | [] => true
 | (k, _) :: r => Nat.beq k.1 0 && Nat.ble (k.2 + 1) n && ZBQ n r
theorem ZqL {n : Nat} : ∀ {hs : List (Key × Blk)}, ZBQ n hs = true → ∀ k, (lkH hs k).live = true → k.1 = 0 ∧ k.2 < n
 | [], _, k, h => by simp [lkH, Zom] at h
 | (q, b) :: r, hi, k, h => by
  simp only [ZBQ, Bool.and_eq_true] at hi
  simp only [lkH] at h
  split at h
  ·rename_i hq
   have hq := Zbn.1 hq
   subst hq
   exact ⟨Nat.eq_of_beq_eq_true hi.1.1, Nat.le_of_ble_eq_true hi.1.2⟩
  ·exact ZqL hi.2 k h
theorem Zka {n : Nat} : ∀ {hs : List (Key × Blk)}, ZBQ n hs = true → ∀ d, lkH hs (1, d) = Zom
 | [], _, d => rfl
 | (q, b) :: r, hi, d => by
  simp only [ZBQ, Bool.and_eq_true] at hi
  simp only [lkH]
  split
  ·rename_i hq
   have hq := Zbn.1 hq
   subst hq
   have := Nat.eq_of_beq_eq_true hi.1.1
   simp at this
  ·exact Zka hi.2 d
def HOk (H : Hp) (r : Ren) (hs : List (Key × Blk)) : Nat → List Key → Prop
 | _, [] => True
 | i, k :: ks => ((H k).g = r.γ (0, i) + (lkH hs (0, i)).g ∧ ((lkH hs (0, i)).live = true → H k = ZbG r (0, i) (lkH hs (0, i)))) ∧ HOk H r hs (i + 1) ks
theorem ZvD {H : Hp} {r : Ren} {hs : List (Key × Blk)} : ∀ {ks : List Key} {i : Nat}, HOk H r hs i ks → ∀ j k, ks[j]? = some k → (H k).g = r.γ (0, i + j) + (lkH hs (0, i + j)).g ∧ ((lkH hs (0, i + j)).live = true → H k = ZbG r (0, i + j) (lkH hs (0, i + j)))
 | [], i, _, j, k, h => by simp at h
 | q :: ks, i, h, 0, k, hk => by
  simp only [List.getElem?_cons_zero, Option.some.injEq] at hk
  subst hk
  exact h.1
 | q :: ks, i, h, j + 1, k, hk => by
  have := ZvD h.2 j k (by simpa using hk)
  rw [show i + 1 + j = i + (j + 1) from by omega] at this
  exact this
def ZxA (l : Nat) : List Key → Prop
 | [] => True
 | k :: ks => k.1 ≤ l ∧ ZxA l ks
theorem Zku {l : Nat} : ∀ {ks : List Key}, ZxA l ks → ∀ k ∈ ks, k.1 ≤ l
 | q :: ks, h, k, hk => by
  rcases List.mem_cons.1 hk with rfl | hk
  ·exact h.1
  ·exact Zku h.2 k hk
def ZiP : Nat → List Nat
 | 0 => []
 | n + 1 => ZiP n ++ [n]
theorem Zl6 : ∀ {n i : Nat}, i < n → i ∈ ZiP n
 | n + 1, i, h => by
  simp only [ZiP, List.mem_append, List.mem_singleton]
  rcases Nat.lt_or_ge i n with h' | h'
  ·exact .inl (Zl6 h')
  ·exact .inr (by omega)
theorem ZkL {P : Program} {T : Nat → Option TI} {n : Nat} {f : FuncId} {fn : Func} (rs : List ResultVar) (c : Code) {l : Nat} {xs : List AV} {H : Hp} {Post : AV → Hp → Prop} (ks : List Key) (gs : List Nat) (os : Nat) (θ : Nat → AV) (ys : List AV) (hs : List (Key × Blk)) (Y : AV) (bs : List Blk) {Y' : AV} {bs' : List Blk}
  (hf : P.funcs[f]? = some fn) (hb : fn.body = some c) (hname : (fn.name == "runtime.NumGoroutine") = false) (hn : fn.ntmps = n) (hr : fn.results.toList = rs) (hx : xs.length ≤ n) (hT : TOk P T) (hos : ks.length = os)
  (hks : ZxA l ks) (hnd : ks.Nodup) (hin : ZBQ os hs = true) (hH : HOk H (rOf l ks gs θ H) hs 0 ks) (hxs : Zas (rOf l ks gs θ H) ys = xs) (hbl : bs.length = os) (hbv : ∀ b ∈ bs, b.live = true) (hY : ∀ r, NmO l ks gs r → ren r Y = Y') (hB : ∀ r, NmO l ks gs r → ZdN r 0 bs = bs')
  (h : ∀ C, CxOk C → C.outs = os → C.fx = ZiP os → C.l = l → C.H0 = H → C.θ = θ → C.κ = kOf l ks → C.no = (fun k => k ∈ ks) → LW P n C c (mkS (Zm1 0 ys) hs) (FQ T rs os (fun y b => y = Y ∧ b = bs)))
  (hp : Post Y' (Zkq H ks bs')) : Zcw P f l xs H Post := by
 subst hos
 exact Zn1 rs c ks gs (ZiP ks.length) θ ys hs Y bs hf hb hname hn hr hx hT (Zku hks) hnd (fun i hi => Zl6 hi) (Zka hin) (ZqL hin) (fun i k hk => by have := ZvD hH i k hk; rw [Nat.zero_add] at this; exact this) hxs hbl hbv hY hB h hp
theorem Zm7 {α : Type} {e e' : α → List D} {xs : List α} {j sz : Nat} {x : α} (hx : xs[j]? = some x) (hl : ∀ x, (e x).length = sz) (he : ∀ x, e x = e' x) : Zb7 (Zaa e xs) (j * sz) ((e' x).map .d) := by
 have hj : j < xs.length := by
  rcases Nat.lt_or_ge j xs.length with h | h
  ·exact h
  ·rw [List.getElem?_eq_none h] at hx; cases hx
 have := Zg4 (z := x) hj hl he
 rw [List.getD_eq_getElem?_getD, hx] at this
 exact this
theorem ZA3 {P : Program} {l l1 : Nat} {no no1 : Key → Prop} {H H1 : Hp} {c : AV} {aZ : List AV} {y : AV} (h : ZfO P l no H c aZ y) (hl : l ≤ l1) (hno : ∀ q : Key, q.1 ≤ l → ¬ no q → ¬ no1 q) (hH : ∀ q : Key, q.1 ≤ l → ¬ no q → H1 q = H q) : ZfO P l1 no1 H1 c aZ y := by
 obtain ⟨f, first, caps, e, h⟩ := h
 exact ⟨f, first, caps, e, fun l' H' hl' ho => h l' H' (Nat.le_trans hl hl') fun k hk hn => by rw [ho k (Nat.le_trans hk hl) (hno k hk hn), hH k hk hn]⟩
def ZGL : Code → Operand
 | .cond o _ _ => o
 | _ => .tmp 0
def ZnX (c : Code) (k : Nat) : Option Nat := match Zfq c k with | some (d, _, _) => d | none => none
def callF (c : Code) (k : Nat) : Operand := match Zfq c k with | some (_, f, _) => f | none => .tmp 0
def ZuR (c : Code) (k : Nat) : List Operand := match Zfq c k with | some (_, _, xs) => xs | none => []
theorem Zse {P : Program} {n : Nat} {C : Cx} {Q : Exit → St → Prop} (hC : CxOk C) {os : Nat} {fx : List Nat} (hO : C.outs = os) (hF : C.fx = fx) {c : Code} {k : Nat} {ss : List (Nat × AV)} {hs : List (Key × Blk)}
  (f : FuncId) (first caps xs : List AV) (hop : Zfq c k = some (ZnX c k, callF c k, ZuR c k)) (hf : ev (lkS ss) (callF c k) = .fn (.func f) first caps) (hxs : first ++ (ZuR c k).map (ev (lkS ss)) ++ caps = xs) (ks : List Key) (hb : List (Key × Blk)) (hhb : (ks.map fun k => (k, lkH hs k)) = hb)
  (x : AV) (hb2 : List (Key × Blk)) (fr fl : List Key) (hok : (Zkk os hb2 && ZJe fr hb2 && Zmo fr fx && ZkV hs && Ztk n (ZnX c k) && ks.all (okK os)) = true) (hwr : wrL C hb2) (hfl : flL (lkH hs) fl)
  (hcall : ∀ r : Ren, r.θ = C.θ → r.H0 = C.H0 → r.κ = C.κ → r.no = C.no → Zjk P C.l r f xs hb x hb2 fr)
  (h : LO P n C c (k + 1) (mkS (Zwx (ZnX c k) x (Zfe fr ss)) (hb2 ++ ZdO (hb2.map (·.1)) fr fl hs)) Q) : LO P n C c k (mkS ss hs) Q :=
 Zx8 hC hO hF _ _ _ hop f first caps xs hf hxs ks hb hhb x hb2 fr fl hok hwr hfl hcall h
end Go.Eng
namespace Go.Eng
open Go
set_option linter.all false
end Go.Eng
namespace Go.Eng
set_option linter.all false
open Go Go.RowKit Go.Shelf
theorem ZkI {w : World} {S : Nat → Prop} {H : Hp} {m : Mu} {l : Nat} {vs : Array Value} {n : Int} (hA : ZeD w S H m l [.e0, .d (.int .i64 n)] vs) : ∃ a, vs = #[.slice a 0 0, .int .i64 n] := by
 obtain ⟨hs, hr⟩ := hA
 obtain ⟨l⟩ := vs
 match l, hs, hr with
 | [v0, v1], _, hr =>
  have h0 := hr 0 .e0 v0 rfl rfl
  have h1 := hr 1 (.d (.int .i64 n)) v1 rfl rfl
  cases h0 with
  | e0 a =>
   cases h1 with
   | d _ _ h1 =>
    cases h1 with
    | int => exact ⟨a, rfl⟩
theorem ZmJ {P : Program} {ρ : Go.Shelf.Ren} (L : Go.Proofs.Lays8.n4 P ρ) (i0 : TypeInfo) (z : Value) (hi0 : P.info? (ρ.t 25) = some i0) (hz0 : i0.zero = some z) (hs0 : 0 < i0.size) (hzs : z.cells.size = i0.size) (hby : i0.bytes ≤ 256)
  (hb : ∃ fn c, P.funcs[ρ.f 4]? = some fn ∧ fn.body = some c ∧ (fn.name == "runtime.NumGoroutine") = false) {ℓ : Nat} {ℋ : Hp} {k : Key} (hk : k.1 ≤ ℓ) {g : Nat} (hg : (ℋ k).g = g) (n : Nat) (hn : n < 549755813888) {Post : AV → Hp → Prop}
  (h : Post (.ref k (g + 1) 0 0) (updH ℋ k ⟨g + 1, true, ρ.t 25, i0.size, []⟩)) : Zcw P (ρ.f 4) ℓ [.e0, .d (.int .i64 n)] ℋ Post :=
 ⟨hb, fun m S w vs hO hA => by
  obtain ⟨a, rfl⟩ := ZkI hA
  subst hg
  by_cases h0 : n = 0
  ·subst h0
   refine (Go.Proofs.Any8.slices_Grow_room L a 0 0 0 w (by omega) (by omega) (by omega) (by omega)).mono fun e w' ⟨h1, h2⟩ => ?_
   subst h2
   obtain ⟨k1, k2⟩ := hO.overEmpty k hk ((ℋ k).g + 1) (ρ.t 25) i0.size (by omega) ⟨0, 0, 0⟩ rfl
   refine ⟨_, _, _, _, _, h1, h, k1, ?_, k2⟩
   have := RepA.refL (w := w') (S := S) (H := updH ℋ k ⟨(ℋ k).g + 1, true, ρ.t 25, i0.size, []⟩) (m := ZdC m k ⟨0, 0, 0⟩) (l := ℓ) k 0 0 a hk (by rw [Zab]) (by omega) (fun q => by rw [Zah] at q; exact absurd q (Nat.lt_irrefl 0))
   rw [Zab, Zah] at this
   exact this
  ·have hb2 : n * i0.bytes ≤ 549755813888 * 256 := Nat.mul_le_mul (by omega) hby
   refine (Go.Proofs.Any8.slices_Grow_grow L i0 z hi0 hz0 hs0 a 0 0 n [] w (by omega) (by omega) (by rw [Nat.zero_add]; omega) (by omega) (by simp) (fun _ => rfl) (fun _ _ j v hj => by simp at hj)).mono fun e w' ⟨h1, h2⟩ => ?_
   have hG : n ≤ grownCap w (0 + n) 0 (ρ.t 25) := by have := grownCap_ge w (0 + n) 0 (ρ.t 25); omega
   generalize grownCap w (0 + n) 0 (ρ.t 25) = G at *
   subst h2
   obtain ⟨k1, k2⟩ := hO.alloc k hk (ρ.t 25) i0.size G [] (([] : List Value).toArray ++ Builtin.zeroCells z.cells (0 + n - 0) ++ Builtin.zeroCells z.cells (G - (0 + n))) (by omega)
    (by simp only [Array.size_append, Zdl, hzs]; rw [show ([] : List Value).toArray.size = 0 from rfl, Nat.zero_add, ← Nat.add_mul, show 0 + n - 0 + (G - (0 + n)) = G from by omega]) (Nat.zero_le _) (fun i x v hx => by simp at hx)
    (w.drew.alloc (.cells (([] : List Value).toArray ++ Builtin.zeroCells z.cells (0 + n - 0) ++ Builtin.zeroCells z.cells (G - (0 + n))) (ρ.t 25))) rfl rfl rfl rfl
   refine ⟨_, _, _, _, _, h1, h, k1, ?_, k2⟩
   have := RepA.refL (w := w.drew.alloc (.cells (([] : List Value).toArray ++ Builtin.zeroCells z.cells (0 + n - 0) ++ Builtin.zeroCells z.cells (G - (0 + n))) (ρ.t 25))) (S := S) (H := updH ℋ k ⟨(ℋ k).g + 1, true, ρ.t 25, i0.size, []⟩) (m := ZdC m k ⟨w.heap.size, 0, G⟩) (l := ℓ) k 0 0 (some ⟨w.heap.size, 0, none⟩) hk (by rw [Zab]) (by omega) (fun _ => by rw [Zah]; simp)
   rw [Zab, Zah] at this
   exact this⟩
theorem Zx7 {α : Type} {e : α → List D} {xs : List α} {l h : Nat} (q : SlS l h xs.length) : SlS l h (xs.map e).length := by rw [List.length_map]; exact q
theorem ZyW {α : Type} {e : α → List D} {xs : List α} {sz : Nat} (he : ∀ x, (e x).length = sz) : ∀ d, d ∈ xs.map e → d.length = sz := fun d h => by
 obtain ⟨x, _, rfl⟩ := List.mem_map.1 h
 exact he x
theorem ZwV {α : Type} {e : α → List D} {xs : List α} {sz l h : Nat} (he : ∀ x, (e x).length = sz) : SlD (xs.map e) sz l h (((xs.drop l).take (h - l)).map e) :=
 ⟨ZyW he, by rw [← List.map_drop, ← List.map_take]⟩
theorem Zqi {i : Int} {len sz : Nat} (h0 : 0 ≤ i) (h : i < len) : ZCC i len 0 sz (i.toNat * sz) := ⟨h0, h, by simp⟩
theorem ZsK {α : Type} {e : α → List D} {xs : List α} {j sz fo : Nat} {z y : α} {vs : List D} (hj : j < xs.length) (hl : ∀ x, (e x).length = sz) (hf : fo + vs.length ≤ sz) (he : e y = (e (xs.getD j z)).take fo ++ vs ++ (e (xs.getD j z)).drop (fo + vs.length)) :
  StS (Zaa e xs) (j * sz + fo) (vs.map .d) (Zaa e (xs.set j y)) := by
 have h2 : (j + 1) * sz ≤ xs.length * sz := Nat.mul_le_mul_right _ hj
 rw [Nat.add_mul, Nat.one_mul] at h2
 refine ⟨by rw [List.length_map, Zci hl]; omega, ?_⟩
 have hx : xs.getD j z = xs[j] := by rw [List.getD_eq_getElem?_getD, List.getElem?_eq_getElem hj]; rfl
 rw [hx] at he
 have hs : Zaa e xs = Zaa e (xs.take j) ++ ((e xs[j]).map .d ++ Zaa e (xs.drop (j + 1))) := by
  conv => lhs; rw [← List.take_append_drop j xs, List.drop_eq_getElem_cons hj, ZfM, Zcg]
 have ha : (Zaa e (xs.take j)).length = j * sz := by rw [Zci hl, List.length_take, Nat.min_eq_left (by omega)]
 have hb : ((e xs[j]).map AV.d).length = sz := by rw [List.length_map, hl]
 rw [hs, List.take_append, List.take_of_length_le (by omega : (Zaa e (xs.take j)).length ≤ j * sz + fo), ha, show j * sz + fo - j * sz = fo from by omega, List.take_append_of_le_length (by omega),
  List.drop_append, List.drop_of_length_le (by rw [ha]; omega), ha, List.nil_append, show j * sz + fo + (vs.map AV.d).length - j * sz = fo + vs.length from by rw [List.length_map]; omega, List.drop_append_of_le_length (by omega),
  List.set_eq_take_append_cons_drop, if_pos hj, ZfM, Zcg, he]
 simp only [List.map_append, List.map_take, List.map_drop, List.append_assoc]
end Go.Eng
