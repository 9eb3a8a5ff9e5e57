import Derived.Test.YtchkcemlglpobaaGreatCl13
import Derived.Test.YtchkcemlglpobaaGreatCl00
namespace Go.Eng
set_option linter.all false
open Go Go.RowKit
def Zjo : Nat → List Blk → List (Key × Blk)
 | _, [] => []
 | i, b :: bs => ((0, i), b) :: Zjo (i + 1) bs
abbrev Cl := (Key → Prop) → Nat → Hp → (Nat → AV) → Prop
structure KO (P : Program) (f : FuncId) (os : Nat) (ys : List AV) (bi : List Blk) (Θ : Cl) {γ : Type} (M : Option γ) (e : γ → AV) (bs : γ → List Blk) : Prop where
 k : ∀ l H (ks : List Key) (gs : List Nat) (θ : Nat → AV), ks.length = os → ZuD l ks → ks.Nodup → HOk H (rOf l ks gs θ H) (Zjo 0 bi) 0 ks → Θ (fun k => k ∈ ks) l H θ → ∀ y, M = some y →
  ZbY P f l (Zan (rOf l ks gs θ H) ys) H (fun z H' => z = ren (rOf l ks gs θ H) (e y) ∧ H' = ZiQ H ks (Zda (rOf l ks gs θ H) 0 (bs y)))
mutual
def kno (os : Nat) : AV → Bool
 | .ref k _ _ _ => Nat.beq k.1 0 && Nat.ble (k.2 + 1) os
 | .ptr k _ _ => Nat.beq k.1 0 && Nat.ble (k.2 + 1) os
 | .mp k _ => Nat.beq k.1 0 && Nat.ble (k.2 + 1) os
 | .fn f xs ys => (match f with | .yield _ => false | _ => true) && ZuX os xs && ZuX os ys
 | .agg xs => ZuX os xs
 | .tup xs => ZuX os xs
 | .top => true
 | .d _ => true
 | .e0 => true
 | .p _ => true
 | .iptr _ _ => true
 | .ifc _ _ _ => true
def ZuX (os : Nat) : List AV → Bool
 | [] => true
 | x :: xs => kno os x && ZuX os xs
end
def ZlM (os : Nat) (r r' : Ren) : Prop := ∀ q, q < os → r.κ (0, q) = r'.κ (0, q) ∧ r.γ (0, q) = r'.γ (0, q)
theorem ZjB {os : Nat} {r r' : Ren} (hs : ZlM os r r') {k : Key} (h : (Nat.beq k.1 0 && Nat.ble (k.2 + 1) os) = true) : r.κ k = r'.κ k ∧ r.γ k = r'.γ k := by
 simp only [Bool.and_eq_true] at h
 obtain ⟨a, b⟩ := k
 have h1 := Ya h.1
 have h2 := Yc h.2
 simp only at h1 h2
 subst h1
 exact hs b h2
mutual
theorem Zj5 {os : Nat} {r r' : Ren} (hs : ZlM os r r') : ∀ x : AV, kno os x = true → ren r x = ren r' x
 | .ref k g off n, h => by obtain ⟨e1, e2⟩ := ZjB hs h; simp only [ren, e1, e2]
 | .ptr k g off, h => by obtain ⟨e1, e2⟩ := ZjB hs h; simp only [ren, e1, e2]
 | .mp k g, h => by obtain ⟨e1, e2⟩ := ZjB hs h; simp only [ren, e1, e2]
 | .fn f xs ys, h => by
  simp only [kno, Bool.and_eq_true] at h
  have e1 := Zeb hs xs h.1.2
  have e2 := Zeb hs ys h.2
  cases f <;> first | (simp only [ren, e1, e2]; done) | (simp at h)
 | .agg xs, h => by simp only [kno] at h; simp only [ren, Zeb hs xs h]
 | .tup xs, h => by simp only [kno] at h; simp only [ren, Zeb hs xs h]
 | .top, _ => by simp [ren]
 | .d _, _ => by simp [ren]
 | .e0, _ => by simp [ren]
 | .p _, _ => by simp [ren]
 | .iptr _ _, _ => by simp [ren]
 | .ifc _ _ _, _ => by simp [ren]
theorem Zeb {os : Nat} {r r' : Ren} (hs : ZlM os r r') : ∀ xs : List AV, ZuX os xs = true → Zan r xs = Zan r' xs
 | [], _ => by simp [Zan]
 | x :: xs, h => by
  simp only [ZuX, Bool.and_eq_true] at h
  simp only [Zan, Zj5 hs x h.1, Zeb hs xs h.2]
end
def Zrn (os : Nat) : List Blk → Prop
 | [] => True
 | b :: bs => (ZfG b.cells ∨ ZuX os b.cells = true) ∧ b.live = true ∧ Zrn os bs
theorem Zrn.ren {os : Nat} {r r' : Ren} (hs : ZlM os r r') : ∀ (bs : List Blk) (i : Nat), i + bs.length ≤ os → Zrn os bs → Zda r i bs = Zda r' i bs
 | [], _, _, _ => rfl
 | b :: bs, i, hl, h => by
  simp only [YZ] at hl
  have e1 : Zan r b.cells = Zan r' b.cells := by
   rcases h.1 with hf | hk
   ·rw [Zb1 hf, Zb1 hf]
   ·exact Zeb hs _ hk
  simp only [Zda, Zrn.ren hs bs (i + 1) (by omega) h.2.2, ZaZ, e1, (hs i (by omega)).2]
theorem Zrn.live {os : Nat} : ∀ {bs : List Blk}, Zrn os bs → ∀ b ∈ bs, b.live = true
 | c :: bs, h, b, hb => by
  rcases Ys.1 hb with rfl | hb
  ·exact h.2.1
  ·exact Zrn.live h.2.2 b hb
theorem ZlJ : ZfG [] := fun x hx => by cases hx
theorem ko1 {P : Program} {T : Nat → Option TI} {n : Nat} {f : FuncId} {fn : Func} {ys : List AV} {bi : List Blk} {Θ : Cl} {γ : Type} {M : Option γ} {e : γ → AV} {bs : γ → List Blk} (hf : P.funcs[f]? = some fn) (hn : fn.ntmps = n) (hT : TOk P T) (rs : List ResultVar) (os : Nat)
  (h : ∀ C : Cx, CO C os → Θ C.no C.l C.H0 C.θ → ∀ y, M = some y → ∀ Post : AV → List Blk → Prop, HL (fun y => Post (e y) (bs y)) y → LW P n C (pa [] (Zai fn)) (mkS (Zjn 0 ys) (Zjo 0 bi)) (FQ T rs os Post))
  (he : ∀ y, kno os (e y) = true := by intro y; kernel_rfl) (hB : ∀ y, Zrn os (bs y) := by intro y; repeat (first | exact trivial | refine ⟨.inl (Zag _ _), rfl, ?_⟩ | refine ⟨.inl ZlJ, rfl, ?_⟩ | refine ⟨.inr (by kernel_rfl), rfl, ?_⟩)) (hl : ∀ y, (bs y).length = os := by intro y; rfl) (hin : ZvH os (Zjo 0 bi) = true := by kernel_rfl)
  (hb : fn.body = some (Zai fn) := by kernel_rfl) (hname : (fn.name == "runtime.NumGoroutine") = false := by kernel_rfl) (hr : fn.results.toList = rs := by kernel_rfl) (hx : Nat.ble ys.length n = true := by kernel_rfl) : KO P f os ys bi Θ M e bs :=
 ⟨fun l H ks gs θ hks hlow hnd hH hΘ y hy => by
  have hN : ∀ r, NmO l ks gs r → ZlM os r (rOf l ks gs θ H) := fun r hr q hq => by
   obtain ⟨h1, h2⟩ := hr
   exact ⟨congrFun h1 _, h2 q (by omega)⟩
  refine Zkc rs (Zai fn) ks gs os θ ys (Zjo 0 bi) (e y) (bs y) (Y' := ren (rOf l ks gs θ H) (e y)) (bs' := Zda (rOf l ks gs θ H) 0 (bs y)) hf hb hname hn hr (by rw [ZaB]; exact Yc hx) hT hks hlow hnd hin hH rfl (hl y) (hB y).live
   (fun r hr => Zj5 (hN r hr) _ (he y)) (fun r hr => Zrn.ren (hN r hr) _ _ (by rw [hl]; omega) (hB y)) (fun C hC hO hF hl' hH0 hθ hκ hno => ?_) ⟨rfl, rfl⟩
  refine h C ⟨hC, hO, hF, fun q hq => ?_⟩ (by rw [hno, hl', hH0, hθ]; exact hΘ) y hy (fun z b => z = e y ∧ b = bs y) ⟨rfl, rfl⟩
  rw [hno, hκ]
  show (match nth ks q with | some k => k | none => (0, 0)) ∈ ks
  rw [Zby, Yb (by omega)]
  exact Yan _⟩
def Zlx (r : Ren) : List (Key × Blk) → List Nat
 | [] => []
 | (k, b) :: r' => (r.γ k + b.g) :: Zlx r r'
def BE (r r' : Ren) : Nat → List Blk → List (Key × Blk) → Prop
 | i, b :: bs, (k, c) :: cs => (b.live = true → c.live = true ∧ ZaZ r (0, i) b = ZaZ r' k c) ∧ r.γ (0, i) + b.g = r'.γ k + c.g ∧ BE r r' (i + 1) bs cs
 | _, [], [] => True
 | _, _, _ => False
def ZeB : List Key → Bool
 | [] => true
 | k :: ks => !(ks.any (ZdW k)) && ZeB ks
theorem Zdo {κ : Key → Key} {os : Nat} (hinj : ∀ q k : Key, okK os q = true → okK os k = true → q ≠ k → κ q ≠ κ k) : ∀ (ks : List Key), ZeB ks = true → ks.all (okK os) = true → (ks.map κ).Nodup
 | [], _, _ => List.nodup_nil
 | k :: ks, h, ho => by
  simp only [ZeB, Bool.and_eq_true, Bool.not_eq_true'] at h
  simp only [Yaj, Bool.and_eq_true] at ho
  rw [YE, Ybd]
  refine ⟨fun hm => ?_, Zdo hinj ks h.2 ho.2⟩
  obtain ⟨q, hq, e⟩ := Yy.1 hm
  have hne : q ≠ k := fun e' => ZhM h.1 (e' ▸ hq)
  grind
section
variable {P : Program} {f : FuncId} {os os' : Nat} {ys : List AV} {bi : List Blk} {Θ : Cl} {γ : Type} {M : Option γ} {e : γ → AV} {bs : γ → List Blk} {C : Cx} {r : Ren} {xs : List AV} {x : AV} {y : γ}
theorem ZkL {fx : List Nat} (co : COx C os' fx) (g : Gd C r) : ∀ q k : Key, okK os' q = true → okK os' k = true → q ≠ k → r.κ q ≠ r.κ k := by
 intro q k hq hk hne he
 rw [g.κ] at he
 rcases Zd5 hq with h1 | ⟨h1, h2⟩ <;> rcases Zd5 hk with j1 | ⟨j1, j2⟩
 ·obtain ⟨a, b⟩ := q
  obtain ⟨c, d⟩ := k
  simp only at h1 j1
  subst h1; subst j1
  rw [co.ok.own, co.ok.own] at he
  grind
 ·obtain ⟨a, b⟩ := q
  obtain ⟨c, d⟩ := k
  simp only at h1 j1 j2
  subst h1; subst j1
  rw [co.ok.own] at he
  have := co.ok.out d (by rw [co.O]; exact j2)
  grind
 ·obtain ⟨a, b⟩ := q
  obtain ⟨c, d⟩ := k
  simp only at h1 h2 j1
  subst h1; subst j1
  rw [co.ok.own] at he
  have := co.ok.out b (by rw [co.O]; exact h2)
  grind
 ·obtain ⟨a, b⟩ := q
  obtain ⟨c, d⟩ := k
  simp only at h1 h2 j1 j2
  subst h1; subst j1
  have := co.ok.inj b d (by rw [co.O]; exact h2) (by rw [co.O]; exact j2) he
  grind
theorem ZgN {fx : List Nat} (co : COx C os' fx) (g : Gd C r) : ∀ (ks : List Key), ks.all (okK os') = true → ZuD (C.l + 1) (ks.map r.κ)
 | [], _ => trivial
 | k :: ks, h => by
  simp only [Yaj, Bool.and_eq_true] at h
  refine ⟨?_, ZgN co g ks h.2⟩
  rw [g.κ]
  obtain ⟨a, b⟩ := k
  rcases Zd5 h.1 with h1 | ⟨h1, h2⟩
  ·simp only at h1; subst h1; rw [co.ok.own]; exact Yd _
  ·simp only at h1 h2; subst h1; exact YaY (co.ok.out b (by rw [co.O]; exact h2))
theorem Zgq : ∀ (bi : List Blk) (i j : Nat), lkH (Zjo i bi) (0, i + j) = (bi[j]?).getD ZlH
 | [], i, j => by simp [Zjo, lkH]
 | b :: bi, i, 0 => by simp [Zjo, lkH, ZdW]
 | b :: bi, i, j + 1 => by
  have ih := Zgq bi (i + 1) j
  simp only [Zjo, lkH]
  have : ZdW (0, i) (0, i + (j + 1)) = false := by
   simp only [ZdW, Bool.and_eq_false_iff]
   right
   cases h : Nat.beq i (i + (j + 1)) with
   | false => rfl
   | true => have := Ya h; omega
  grind
theorem Zi0 {r' : Ren} {H' : Hp} : ∀ (bi : List Blk) (cb : List (Key × Blk)) (i : Nat) (B : List Blk), (∀ j, lkH (Zjo 0 B) (0, i + j) = (bi[j]?).getD ZlH) → BE r' r i bi cb →
  (∀ p ∈ cb, (H' (r.κ p.1)).g = r.γ p.1 + p.2.g ∧ (p.2.live = true → H' (r.κ p.1) = ZaZ r p.1 p.2)) → HOk H' r' (Zjo 0 B) i ((cb.map (·.1)).map r.κ)
 | [], [], i, B, _, _, _ => trivial
 | b :: bi, (k, c) :: cb, i, B, hB, h, hH => by
  have h0 := hB 0
  simp only [YG, YV, Yae] at h0
  obtain ⟨h1, h2, h3⟩ := h
  refine ⟨?_, Zi0 bi cb (i + 1) B (fun j => ?_) h3 fun p hp => hH p (Yq _ hp)⟩
  ·rw [h0]
   have hc := hH _ (Yw ..)
   grind
  ·have := hB (j + 1)
   grind
 | [], _ :: _, _, _, _, h, _ => h.elim
 | _ :: _, [], _, _, _, h, _ => h.elim
theorem Zn3 {H : Hp} {k : Key} : updH H k (H k) = H := by
 funext q
 by_cases h : q = k
 ·subst h; exact Zab ..
 ·exact Zac _ _ h
theorem Zgr {r' : Ren} {H' : Hp} : ∀ (bi : List Blk) (cb : List (Key × Blk)) (i : Nat), BE r' r i bi cb → (∀ b ∈ bi, b.live = true) → (∀ p ∈ cb, p.2.live = true → H' (r.κ p.1) = ZaZ r p.1 p.2) → ZiQ H' ((cb.map (·.1)).map r.κ) (Zda r' i bi) = H'
 | [], [], _, _, _, _ => rfl
 | b :: bi, (k, c) :: cb, i, h, hl, hH => by
  obtain ⟨h1, h2, h3⟩ := h
  have e := h1 (hl b (Yw ..))
  have e2 := hH _ (Yw ..) e.1
  simp only [YE, ZiQ, Zda]
  rw [e.2, ← e2, Zn3]
  exact Zgr bi cb (i + 1) h3 (fun b hb => hl b (Yq _ hb)) fun p hp => hH p (Yq _ hp)
 | [], _ :: _, _, h, _, _ => h.elim
 | _ :: _, [], _, h, _, _ => h.elim
theorem ZhH {r' : Ren} : ∀ (bo : List Blk) (cb cb2 : List (Key × Blk)) (i : Nat) (H' : Hp), BE r' r i bo cb2 → (∀ b ∈ bo, b.live = true) → cb.map (·.1) = cb2.map (·.1) → ZiQ H' ((cb.map (·.1)).map r.κ) (Zda r' i bo) = ZdN r cb2 H'
 | [], [], [], _, _, _, _, _ => rfl
 | [], _ :: _, [], _, _, _, _, h => by cases h
 | b :: bo, [], _ :: _, _, _, _, _, h => by cases h
 | b :: bo, (k, c) :: cb, (k2, c2) :: cb2, i, H', h, hl, he => by
  obtain ⟨h1, h2, h3⟩ := h
  simp only [YE, List.cons.injEq] at he
  obtain ⟨rfl, he⟩ := he
  have e := h1 (hl b (Yw ..))
  simp only [YE, ZiQ, Zda, ZdN]
  rw [e.2]
  exact ZhH bo cb cb2 (i + 1) _ h3 (fun b hb => hl b (Yq _ hb)) he
 | _ :: _, _, [], _, _, h, _, _ => h.elim
 | [], _, _ :: _, _, _, h, _, _ => h.elim
def rC (C : Cx) (r : Ren) (cb : List (Key × Blk)) (θ : Nat → AV) (H : Hp) : Ren := rOf (C.l + 1) ((cb.map (·.1)).map r.κ) (Zlx r cb) θ H
def Th (Θ : Cl) (C : Cx) (r : Ren) (cb hb : List (Key × Blk)) (θ : Nat → AV) : Prop :=
 ∀ H', (∀ p ∈ hb, (H' (r.κ p.1)).g = r.γ p.1 + p.2.g ∧ (p.2.live = true → H' (r.κ p.1) = ZaZ r p.1 p.2)) → (∀ k : Key, k.1 ≤ C.l → ¬ r.no k → H' k = r.H0 k) → Θ (fun k => k ∈ (cb.map (·.1)).map r.κ) (C.l + 1) H' θ
theorem Zb3 (K : KO P f os ys bi Θ M e bs) (hy : M = some y) {fx : List Nat} (co : COx C os' fx) (g : Gd C r) (cb cc : List (Key × Blk)) (θ : Nat → AV) (hΘ : Th Θ C r cb (cb ++ cc) θ) (hBE : ∀ H, BE (rC C r cb θ H) r 0 bi cb) (hro : bs y = bi := by rfl) (hlv' : bi.all Blk.live = true := by kernel_rfl) (hlv2' : (cb ++ cc).all (fun p => p.2.live) = true := by kernel_rfl) (hx : ∀ H, Zan (rC C r cb θ H) ys = Zan r xs := by intro H; kernel_rfl) (hy2 : ∀ H, ren (rC C r cb θ H) (e y) = ren r x := by intro H; kernel_rfl)
  (hk : ((cb.map (·.1)).all (okK os') && ZeB (cb.map (·.1)) && Nat.beq cb.length os) = true := by kernel_rfl) : Zhs P C.l r f xs (cb ++ cc) x := by
 intro H' h1 h2
 have hlv : ∀ b ∈ bi, b.live = true := fun b hb => Yh.1 hlv' b hb
 have hlv2 : ∀ p ∈ cb ++ cc, p.2.live = true := fun p hp => Yh.1 hlv2' p hp
 have hsub : ∀ p ∈ cb, p ∈ cb ++ cc := fun p hp => Y6 _ hp
 simp only [Bool.and_eq_true] at hk
 have hg : ∀ p ∈ cb ++ cc, (H' (r.κ p.1)).g = r.γ p.1 + p.2.g ∧ (p.2.live = true → H' (r.κ p.1) = ZaZ r p.1 p.2) := fun p hp => ⟨by rw [h1 p hp (hlv2 p hp)]; rfl, h1 p hp⟩
 have := K.k (C.l + 1) H' ((cb.map (fun p : Key × Blk => p.1)).map r.κ) (Zlx r cb) θ (by rw [Yu, Yu]; exact Ya hk.2) (ZgN co g _ hk.1.1) (Zdo (ZkL co g) _ hk.1.2 hk.1.1)
  (Zi0 bi cb 0 bi (fun j => by have := Zgq bi 0 j; rwa [Yz] at this ⊢) (hBE H') fun p hp => hg p (hsub p hp)) (hΘ H' hg h2) y hy
 rw [← hx H']
 refine this.mono fun z H'' ⟨e1, e2⟩ => ⟨e1.trans (hy2 H'), e2.trans ?_⟩
 rw [hro]
 exact Zgr bi cb 0 (hBE H') hlv fun p hp hl => (hg p (hsub p hp)).2 hl
theorem Zbt (K : KO P f os ys bi Θ M e bs) (hy : M = some y) {fx : List Nat} (co : COx C os' fx) (g : Gd C r) (cb cc cb2 : List (Key × Blk)) (θ : Nat → AV) (hΘ : Th Θ C r cb (cb ++ cc) θ)
  (hBE : ∀ H, BE (rC C r cb θ H) r 0 bi cb) (hBE2 : ∀ H, BE (rC C r cb θ H) r 0 (bs y) cb2) (hlv' : (bs y).all Blk.live = true := by kernel_rfl) (hx : ∀ H, Zan (rC C r cb θ H) ys = Zan r xs := by intro H; kernel_rfl) (hy2 : ∀ H, ren (rC C r cb θ H) (e y) = ren r x := by intro H; kernel_rfl)
  (hk : ((cb.map (·.1)).all (okK os') && ZeB (cb.map (·.1)) && Nat.beq cb.length os) = true := by kernel_rfl) (he : cb.map (·.1) = cb2.map (·.1) := by rfl) : ZhJ P C.l r f xs (cb ++ cc) x cb2 [] := by
 have hlv : ∀ b ∈ bs y, b.live = true := fun b hb => Yh.1 hlv' b hb
 have hsub : ∀ p ∈ cb, p ∈ cb ++ cc := fun p hp => Y6 _ hp
 refine ZtN rfl rfl fun H' hg h2 => ?_
 simp only [Bool.and_eq_true] at hk
 have := K.k (C.l + 1) H' ((cb.map (fun p : Key × Blk => p.1)).map r.κ) (Zlx r cb) θ (by rw [Yu, Yu]; exact Ya hk.2) (ZgN co g _ hk.1.1) (Zdo (ZkL co g) _ hk.1.2 hk.1.1)
  (Zi0 bi cb 0 bi (fun j => by have := Zgq bi 0 j; rwa [Yz] at this ⊢) (hBE H') fun p hp => hg p (hsub p hp)) (hΘ H' hg h2) y hy
 rw [← hx H']
 exact this.mono fun z H'' ⟨e1, e2⟩ => ⟨e1.trans (hy2 H'), e2.trans (ZhH (bs y) cb cb2 0 H' (hBE2 H') hlv he)⟩
end
structure CloM (P : Program) (C : Cx) (i : Nat) (xs : List AV) {γ : Type} (M : Option γ) (e : γ → AV) : Prop where
 k : ∀ y, M = some y → Zil P C.l C.no C.H0 (C.θ i) xs (e y)
 x : ∀ r, Zan r xs = xs
 e : ∀ r y, ren r (e y) = e y
section
variable {os : Nat} {β γ : Type} [Inhabited γ]
theorem CloM.callF {P : Program} {i : Nat} {xs : List AV} {M : Option γ} {e : γ → AV} (E : Ev os β) (h : CloM P E.C i xs M e) {y : γ} (hy : M = some y) : Zp2 P E.E.l E.E.r i xs [] (e y) :=
 ZsG (congrFun E.g.θ i) (by rw [E.hl, E.g.no, E.g.H]; exact h.k y hy) (h.x _) (h.e _ _)
@[reducible] def cf (P : Program) (i : Nat) (xs : List AV) (M : Option γ) (e : γ → AV) (k : γ → PT os β) : PT os β :=
 ⟨.call (e (M.getD default)) [] (k (M.getD default)).a, fun E => Zp2 P E.l E.r i xs [] (e (M.getD default)) ∧ (k (M.getD default)).q E, M.bind fun y => (k y).m, fun E => CloM P E.C i xs M e ∧ ∀ y, (k y).n E, fun E hn y hm hL => by
  obtain ⟨x, h1, h2⟩ := bind_some hm
  have h3 : M.getD default = x := by rw [h1]; rfl
  rw [h3]
  exact ⟨hn.1.callF E h1, (k x).ok E (hn.2 x) y h2 hL⟩⟩
@[reducible] def cs (P : Program) (f : FuncId) (xs : List AV) (ks : List Key) (hb : List (Key × Blk)) (M : Option γ) (e : γ → AV) (k : γ → PT os β) : PT os β :=
 ⟨.call (e (M.getD default)) ks (k (M.getD default)).a, fun E => Zhs P E.l E.r f xs hb (e (M.getD default)) ∧ (k (M.getD default)).q E, M.bind fun y => (k y).m, fun E => (∀ y, M = some y → Zhs P E.C.l E.E.r f xs hb (e y)) ∧ ∀ y, (k y).n E, fun E hn y hm hL => by
  obtain ⟨x, h1, h2⟩ := bind_some hm
  have h3 : M.getD default = x := by rw [h1]; rfl
  rw [h3]
  exact ⟨by rw [E.hl]; exact hn.1 x h1, (k x).ok E (hn.2 x) y h2 hL⟩⟩
@[reducible] def csg (b : Bool) (P : Program) (f : FuncId) (xs : List AV) (ks : List Key) (hb : List (Key × Blk)) (M : Option γ) (e : γ → AV) (k : γ → PT os β) : PT os β :=
 ⟨.call (e (M.getD default)) ks (k (M.getD default)).a, fun E => (b = true → Zhs P E.l E.r f xs hb (e (M.getD default))) ∧ (k (M.getD default)).q E, if (b = true → M.isSome = true) then (k (M.getD default)).m else none, fun E => (∀ y, M = some y → Zhs P E.C.l E.E.r f xs hb (e y)) ∧ ∀ y, (k y).n E, fun E hn y hm hL => by
  obtain ⟨h0, hm⟩ := Zaw hm
  refine ⟨fun hb => ?_, (k _).ok E (hn.2 _) y hm hL⟩
  obtain ⟨x, h1⟩ := YI.1 (h0 hb)
  have h3 : M.getD default = x := by rw [h1]; rfl
  rw [h3, E.hl]; exact hn.1 x h1⟩
@[reducible] def mv {α : Type} [Rw α] (d q : Nat) (xs : List α) (k : PT os β) (hq : Nat.ble (q + 1) os = true := by kernel_rfl) : PT os β :=
 ⟨.mv d q k.a, fun E => Zd0 (Zad Rw.e xs) ∧ (q < os ∧ E.r.no (E.r.κ (0, q))) ∧ k.q E, k.m, k.n, fun E hn y hm hL =>
  ⟨ZgJ _ _, ⟨Yc hq, by rw [E.g.no, E.g.κ]; exact E.co.W q (Yc hq)⟩, k.ok E hn y hm hL⟩⟩
@[reducible] def mvc {α : Type} [Rw α] (d q e i : Nat) (xs : List α) (k : PT os β) (hq : Nat.ble (q + 1) os = true := by kernel_rfl) : PT os β :=
 ⟨.mvc d q e i k.a, fun E => Zd0 (Zad Rw.e xs) ∧ (q < os ∧ E.r.no (E.r.κ (0, q))) ∧ k.q E, k.m, k.n, fun E hn y hm hL =>
  ⟨ZgJ _ _, ⟨Yc hq, by rw [E.g.no, E.g.κ]; exact E.co.W q (Yc hq)⟩, k.ok E hn y hm hL⟩⟩
end
section
variable {P : Program} {os os' : Nat} {ys : List AV} {bi : List Blk} {Θ : Cl} {γ : Type} {M : Option γ} {e : γ → AV} {bs : γ → List Blk} {C : Cx} {r : Ren} {y : γ}
theorem Zey {f : FuncId} (K : KO P f os ys bi Θ M e bs) (hy : M = some y) {fx : List Nat} (co : COx C os' fx) (g : Gd C r) (cb cb0 : List (Key × Blk)) {hb : List (Key × Blk)} {H' : Hp} (hg : ∀ p ∈ hb, (H' (r.κ p.1)).g = r.γ p.1 + p.2.g ∧ (p.2.live = true → H' (r.κ p.1) = ZaZ r p.1 p.2)) (hsub : ∀ p ∈ cb, p ∈ hb)
  {zs caps : List AV} (θ : Nat → AV) (hΘ : ∀ l' H'', Θ (fun k => k ∈ (cb.map (·.1)).map r.κ) l' H'' θ) (hBE : ∀ l H, BE (rOf l ((cb.map (·.1)).map r.κ) (Zlx r cb) θ H) r 0 bi cb) (hro : bs y = bi := by rfl) (hlv' : bi.all Blk.live = true := by kernel_rfl)
  (hx : ∀ l H, Zan (rOf l ((cb.map (·.1)).map r.κ) (Zlx r cb) θ H) ys = zs ++ caps := by intro l H; kernel_rfl) (hy2 : ∀ l H, ren (rOf l ((cb.map (·.1)).map r.κ) (Zlx r cb) θ H) (e y) = e y := by intro l H; kernel_rfl)
  (hk : (((cb ++ cb0).map (·.1)).all (okK os') && ZeB ((cb ++ cb0).map (·.1)) && Nat.beq cb.length os) = true := by kernel_rfl) : Zil P (C.l + 1) (fun k => k ∈ (cb0.map (·.1)).map r.κ) H' (.fn (.func f) [] caps) zs (e y) := by
 have hlv : ∀ b ∈ bi, b.live = true := fun b hb => Yh.1 hlv' b hb
 refine ⟨f, [], caps, rfl, fun l' H'' hl ho => ?_⟩
 simp only [Bool.and_eq_true, YaN, List.all_append] at hk
 obtain ⟨⟨⟨k1, k2⟩, k3⟩, k4⟩ := hk
 have hnd := Zdo (ZkL co g) _ k3 (by rw [List.all_append, k1, k2]; rfl)
 rw [YaN, List.nodup_append] at hnd
 have hat : ∀ p ∈ cb, H'' (r.κ p.1) = H' (r.κ p.1) := fun p hp => by
  have hm : r.κ p.1 ∈ (cb.map (·.1)).map r.κ := Yao (Yao hp)
  exact ho _ (Zhg (ZgN co g _ k1) _ hm) fun h => hnd.2.2 _ hm _ h rfl
 have hg2 : ∀ p ∈ cb, (H'' (r.κ p.1)).g = r.γ p.1 + p.2.g ∧ (p.2.live = true → H'' (r.κ p.1) = ZaZ r p.1 p.2) := fun p hp => by rw [hat p hp]; exact hg p (hsub p hp)
 have hlow : ZuD l' ((cb.map (·.1)).map r.κ) := by
  have := ZgN co g (cb.map (·.1)) k1
  generalize (cb.map (·.1)).map r.κ = ks at this
  induction ks with
  | nil => trivial
  | cons k ks ih => exact ⟨Y9 this.1 hl, ih this.2⟩
 have := K.k l' H'' ((cb.map (fun p : Key × Blk => p.1)).map r.κ) (Zlx r cb) θ (by rw [Yu, Yu]; exact Ya k4) hlow hnd.1
  (Zi0 bi cb 0 bi (fun j => by have := Zgq bi 0 j; rwa [Yz] at this ⊢) (hBE l' H'') hg2) (hΘ l' H'') y hy
 rw [Yag, ← hx l' H'']
 refine this.mono fun z H3 ⟨e1, e2⟩ => ⟨e1.trans (hy2 l' H''), e2.trans ?_⟩
 rw [hro]
 exact Zgr bi cb 0 (hBE l' H'') hlv fun p hp hl => (hg2 p hp).2 hl
end
theorem ZnW {C : Cx} {r : Ren} {os' : Nat} {P : Program} {i : Nat} {xs : List AV} {y : AV} {fx : List Nat} (co : COx C os' fx) (g : Gd C r) (cb : List (Key × Blk)) {H' : Hp} (ho : ∀ k : Key, k.1 ≤ C.l → ¬ r.no k → H' k = r.H0 k) (h : Zil P C.l C.no C.H0 (C.θ i) xs y)
  (hk : ((cb.map (·.1)).all (okK os')) = true := by kernel_rfl) : Zil P (C.l + 1) (fun k => k ∈ (cb.map (·.1)).map r.κ) H' (r.θ i) xs y := by
 rw [g.θ]
 refine Zx0 h (Nat.le_succ _) (fun q hq hn hm => ?_) fun q hq hn => ?_
 ·obtain ⟨k, hk', e⟩ := Yy.1 hm
  rw [g.κ] at e
  obtain ⟨a, b⟩ := k
  rcases Zd5 (Yh.1 hk _ hk') with h1 | ⟨h1, h2⟩
  ·simp only at h1; subst h1; rw [co.ok.own] at e; rw [← e] at hq; simp only at hq; omega
  ·simp only at h1 h2; subst h1; rw [← e] at hn; exact hn (co.W b h2)
 ·rw [← g.H]; exact ho q hq (by rw [g.no]; exact hn)
theorem Zav {r r' : Ren} {k k' : Key} {g g' : Nat} {e : EK} {sz : Nat} {cs : List AV} (h : ZfG cs) (hg : r.γ k + g = r'.γ k' + g') : ZaZ r k ⟨g, true, e, sz, cs⟩ = ZaZ r' k' ⟨g', true, e, sz, cs⟩ := by
 simp only [ZaZ, Zb1 h, hg]
section
variable {P : Program} {T : Nat → Option TI} {n : Nat} {C : Cx} {τ : St} {Q : Exit → St → Prop} {os k : Nat} {c : Code} {β : Type} {L : β → Prop} {y : β}
theorem ZdU {fx : List Nat} (co : COx C os fx) (hT : TOk P T) (m : Nat) (v : PT os β) (lf : Lf) (hv : v.m = some y) (hL : HL L y) (hn : ∀ r (g : Gd C r), v.n ⟨⟨C.l, r, fun _ τ' => LO P n C c (k + m) τ' Q, fun _ _ => False⟩, L, C, _, co, g, rfl⟩)
  (hq : ∀ l r Q Post, Zdk r os v.a τ (fun τ a => ZrH P T l n r ((Zcz c).toList.map (·.dst)) (Ziu m (Zio k (Zcz c).toList)) [] a (fun τ' env a' => Zdk r os a' (ZjR env τ') (fun τ _ => Zfk fx lf τ (Q .normal))) τ) = v.q ⟨l, r, Q, Post⟩ := by intro l r Q P; kernel_rfl) : LO P n C c k τ Q :=
 ZBw co.ok hT co.O co.F m v.a lf (fun r Φ => v.q ⟨C.l, r, fun _ => Φ, fun _ _ => False⟩) (fun r Φ => hq _ r (fun _ => Φ) _) fun r h1 h2 h3 h4 => v.ok _ (hn r ⟨h1, h2, h3, h4⟩) y hv hL
theorem ZcO {fx : List Nat} (co : COx C os fx) (hT : TOk P T) (v : PT os β) (lf : Lf) (hv : v.m = some y) (hL : HL L y) (hn : ∀ r (g : Gd C r), v.n ⟨⟨C.l, r, Q, fun _ _ => False⟩, L, C, _, co, g, rfl⟩)
  (hq : ∀ l r Q Post, Zdk r os v.a τ (fun τ a => ZrH P T l n r ((Zcz c).toList.map (·.dst)) (Zio k (Zcz c).toList) [] a (fun τ' env a' => Zdk r os a' (ZjR env τ') (fun τ _ => Zfk fx lf τ (Q .normal))) τ) = v.q ⟨l, r, Q, Post⟩ := by intro l r Q P; kernel_rfl) : LO P n C c k τ Q :=
 ZBC co.ok hT co.O co.F v.a lf (fun r Q => v.q ⟨C.l, r, Q, fun _ _ => False⟩) (fun r Q => hq _ r Q _) fun r h1 h2 h3 h4 => v.ok _ (hn r ⟨h1, h2, h3, h4⟩) y hv hL
theorem Zhk {γ : Type} {M : Option γ} {kk : γ → Option β} {ss : List (Nat × AV)} {hs : List (Key × Blk)} {fx : List Nat} (co : COx C os fx) (hm : M.bind kk = some y) (f : FuncId) (xs : List AV) (ks : List Key) (hb : List (Key × Blk)) (e : γ → AV) (hb2 : γ → List (Key × Blk)) (fl : List Key)
  (hwr : ∀ z, wrL C (hb2 z)) (hfl : flL (lkH hs) fl) (hcall : ∀ z, M = some z → ∀ r, Gd C r → ZhJ P C.l r f xs hb (e z) (hb2 z) [])
  (h : ∀ z, kk z = some y → LO P n C c (k + 1) (mkS (ZrM (Zfn c k) (e z) (Zes [] ss)) (hb2 z ++ Zdx ((hb2 z).map (·.1)) [] fl hs)) Q)
  (hop : Zek c k = some (Zfn c k, callF c k, Zgx c k) := by kernel_rfl) (hf : ev (lkS ss) (callF c k) = .fn (.func f) [] [] := by kernel_rfl) (hxs : [] ++ (Zgx c k).map (ev (lkS ss)) ++ [] = xs := by kernel_rfl) (hhb : (ks.map fun k => (k, lkH hs k)) = hb := by kernel_rfl)
  (hok : ∀ z, (Zjd os (hb2 z) && ZA5 [] (hb2 z) && Zhd [] fx && ZhW hs && Zme n (Zfn c k) && ks.all (okK os)) = true := by intro z; kernel_rfl) : LO P n C c k (mkS ss hs) Q := by
 obtain ⟨z, e1, e2⟩ := bind_some hm
 exact Zkm co.ok co.O co.F f [] [] xs hop hf hxs ks hb hhb (e z) (hb2 z) [] fl (hok z) (hwr z) hfl (fun r h1 h2 h3 h4 => hcall z e1 r ⟨h1, h2, h3, h4⟩) (h z e2)
theorem c6 {γ : Type} {M : Option γ} {kk : γ → Option β} {ss : List (Nat × AV)} {hs : List (Key × Blk)} {f : FuncId} {os' : Nat} {ys : List AV} {bi : List Blk} {Θ : Cl} {e0 : γ → AV} {bs : γ → List Blk} {fx : List Nat} (co : COx C os fx) (hm : M.bind kk = some y) (K : KO P f os' ys bi Θ M e0 bs)
  (cb cc : List (Key × Blk)) (e : γ → AV) (hb2 : γ → List (Key × Blk)) (fl : List Key)
  (h : ∀ z, kk z = some y → LO P n C c (k + 1) (mkS (ZrM (Zfn c k) (e z) (Zes [] ss)) (hb2 z ++ Zdx ((hb2 z).map (·.1)) [] fl hs)) Q)
  (θ : Ren → Nat → AV := fun _ => lkS []) (hΘ : ∀ r, Gd C r → Th Θ C r cb (cb ++ cc) (θ r) := by intro r g; exact fun _ _ _ => trivial) (xs : List AV := [] ++ (Zgx c k).map (ev (lkS ss)) ++ [])
  (hwr : ∀ z, wrL C (hb2 z) := by intro z; repeat (first | exact trivial | refine ⟨COx.W ‹_› _ (by decide), ?_⟩))
  (hfl : flL (lkH hs) fl := by repeat (first | exact trivial | refine ⟨Zag _ _, ?_⟩))
  (hBE : ∀ r H, BE (rC C r cb (θ r) H) r 0 bi cb := by
   intro r H
   repeat (first | exact trivial | refine ⟨fun _ => ⟨rfl, Zav (Zag _ _) (by kernel_rfl)⟩, by kernel_rfl, ?_⟩ | refine ⟨fun _ => ⟨rfl, Zav ZlJ (by kernel_rfl)⟩, by kernel_rfl, ?_⟩ | refine ⟨fun _ => ⟨rfl, by kernel_rfl⟩, by kernel_rfl, ?_⟩ | refine ⟨(fun h => nomatch h), by kernel_rfl, ?_⟩))
  (hBE2 : ∀ z r H, BE (rC C r cb (θ r) H) r 0 (bs z) (hb2 z) := by
   intro z r H
   repeat (first | exact trivial | refine ⟨fun _ => ⟨rfl, Zav (Zag _ _) (by kernel_rfl)⟩, by kernel_rfl, ?_⟩ | refine ⟨fun _ => ⟨rfl, Zav ZlJ (by kernel_rfl)⟩, by kernel_rfl, ?_⟩ | refine ⟨fun _ => ⟨rfl, by kernel_rfl⟩, by kernel_rfl, ?_⟩))
  (hx : ∀ r H, Zan (rC C r cb (θ r) H) ys = Zan r xs := by intro r H; kernel_rfl) (hxs : [] ++ (Zgx c k).map (ev (lkS ss)) ++ [] = xs := by kernel_rfl) (hy2 : ∀ z r H, ren (rC C r cb (θ r) H) (e0 z) = ren r (e z) := by intro z r H; kernel_rfl)
  (hop : Zek c k = some (Zfn c k, callF c k, Zgx c k) := by kernel_rfl) (hf : ev (lkS ss) (callF c k) = .fn (.func f) [] [] := by kernel_rfl)
  (hhb : (((cb ++ cc).map (·.1)).map fun k => (k, lkH hs k)) = cb ++ cc := by kernel_rfl) (hlv : ∀ z, (bs z).all Blk.live = true := by intro z; kernel_rfl) (he : ∀ z, cb.map (·.1) = (hb2 z).map (·.1) := by intro z; rfl)
  (hk : ((cb.map (·.1)).all (okK os) && ZeB (cb.map (·.1)) && Nat.beq cb.length os') = true := by kernel_rfl)
  (hok : ∀ z, (Zjd os (hb2 z) && ZA5 [] (hb2 z) && Zhd [] fx && ZhW hs && Zme n (Zfn c k) && ((cb ++ cc).map (·.1)).all (okK os)) = true := by intro z; kernel_rfl) : LO P n C c k (mkS ss hs) Q :=
 Zhk co hm f xs _ (cb ++ cc) e hb2 fl hwr hfl (fun z hz r g => Zbt K hz co g cb cc (hb2 z) (θ r) (hΘ r g) (fun H => hBE r H) (fun H => hBE2 z r H) (hlv z) (fun H => hx r H) (fun H => hy2 z r H) hk (he z)) h hop hf hxs hhb hok
theorem ZrL {fx : List Nat} (co : COx C os fx) (v : PT os β) (lf : Lf) (hv : v.m = some y) (hL : HL L y) (hn : ∀ r (g : Gd C r), v.n ⟨⟨C.l, r, fun _ τ' => LW P n C c τ' Q, fun _ _ => False⟩, L, C, _, co, g, rfl⟩)
  (hq : ∀ l r Q Post, Zdk r os v.a τ (fun τ _ => Zfk fx lf τ (Q .normal)) = v.q ⟨l, r, Q, Post⟩ := by intro l r Q P; kernel_rfl) : LW P n C c τ Q :=
 Zzx co.ok co.O co.F v.a lf (fun r Φ => v.q ⟨C.l, r, fun _ => Φ, fun _ _ => False⟩) (fun r Φ => hq _ r (fun _ => Φ) _) fun r h1 h2 h3 h4 => v.ok _ (hn r ⟨h1, h2, h3, h4⟩) y hv hL
theorem rg {c : Code} (h : LO P n C c 0 τ Q) (hs : ZCW c = true := by kernel_rfl) : LW P n C c τ Q := ZlA hs h
end
end Go.Eng
namespace Go.Eng
set_option linter.all false
open Go Go.RowKit
section
variable {α β : Type} (P : Program)
def Vp (s : Sem α) : Prop := ∀ w r w1, s.run P w = .ok r w1 → w1 = w ∧ ∀ w2, s.run P w2 = .ok r w2
def Rd (s : Sem α) : Prop := ∀ w r w1, s.run P w = .ok r w1 → w1 = w
variable {P}
theorem Vp.rd {s : Sem α} (h : Vp P s) : Rd P s := fun w r w1 e => (h w r w1 e).1
theorem Vp.pure (a : α) : Vp P (Pure.pure a : Sem α) := fun w r w1 e => by cases e; exact ⟨rfl, fun _ => rfl⟩
theorem Vp.halt (h : Halt) : Vp P (.halt h : Sem α) := fun w r w1 e => by cases e
theorem Vp.program : Vp P Go.program := fun w r w1 e => by cases e; exact ⟨rfl, fun _ => rfl⟩
theorem Vp.bind {s : Sem α} {f : α → Sem β} (h : Vp P s) (k : ∀ a, Vp P (f a)) : Vp P (s >>= f) := fun w r w1 e => by
 rw [Sem.run_bind] at e
 cases hs : s.run P w with
 | halt x w' => rw [hs] at e; cases e
 | ok a w' =>
  rw [hs] at e
  obtain ⟨rfl, h2⟩ := h w a w' hs
  obtain ⟨h3, h4⟩ := k a _ _ _ e
  exact ⟨h3, fun w2 => by rw [Sem.run_bind, h2 w2]; exact h4 w2⟩
theorem Rd.bind {s : Sem α} {f : α → Sem β} (h : Rd P s) (k : ∀ a, Rd P (f a)) : Rd P (s >>= f) := fun w r w1 e => by
 rw [Sem.run_bind] at e
 cases hs : s.run P w with
 | halt x w' => rw [hs] at e; cases e
 | ok a w' =>
  rw [hs] at e
  have h1 := h w a w' hs
  subst h1
  exact k a _ _ _ e
theorem Zev (t : TypeId) : Vp P (typeInfo t) := by
 unfold typeInfo
 refine Vp.program.bind fun p => ?_
 split
 ·exact .pure _
 ·exact .halt _
theorem Za1 (t : TypeId) : Vp P (underlying t) := by
 unfold underlying
 refine Vp.program.bind fun p => ?_
 split
 ·exact .pure _
 ·exact .halt _
theorem Zbf (t : TypeId) : Vp P (sizeOf t) := by unfold sizeOf; exact (Zev t).bind fun _ => .pure _
theorem Zd9 (t : TypeId) : Vp P (isAgg t) := by
 unfold isAgg
 refine (Za1 t).bind fun d => ?_
 split <;> exact .pure _
theorem ZyV (t : TypeId) (cs : Array Value) (o : Nat) : Vp P (part t cs o) := by
 unfold part
 refine (Zd9 t).bind fun b => ?_
 cases b with
 | true => exact (Zbf t).bind fun _ => .pure _
 | false =>
  show Vp P (match cs[o]? with | some v => _ | none => _)
  split
  ·exact .pure _
  ·exact .halt _
theorem Zcs : ∀ (l : List FieldStep) (t : TypeId) (x : Option Value), Vp P (followBlind l t x)
 | [], t, x => .pure _
 | s :: rest, t, x => by
  unfold followBlind
  refine (Za1 _).bind fun d => ?_
  split
  ·split
   ·split
    ·exact .pure _
    ·exact Zcs rest _ _
    ·exact .halt _
    ·exact .pure _
    ·exact (ZyV _ _ _).bind fun _ => Zcs rest _ _
    ·exact .halt _
    ·exact Zcs rest _ _
   ·exact .halt _
  ·exact .halt _
theorem Zf5 : ∀ (n : Nat) (t : TypeId) (v : Value) (s : String), Vp P (nilAhead n t v s)
 | 0, t, v, s => .pure _
 | n + 1, t, v, s => by
  unfold nilAhead
  refine (Zev _).bind fun i => ?_
  split
  ·refine (Zcs _ _ _).bind fun r => ?_
   split
   ·exact .pure _
   ·split
    ·exact Zf5 n _ _ _
    ·exact .pure _
    ·exact .halt _
    ·exact .pure _
    ·exact .pure _
    ·refine (Za1 _).bind fun d => ?_
     split <;> exact .pure _
  ·exact .halt _
def VV (P : Program) (s : Sem Next) : Prop := ∀ w r w1, s.run P w = .ok r w1 → ∃ v, r = .value v
theorem VV.val {s : Sem Value} : VV P (s >>= fun x => Pure.pure (Next.value x) : Sem Next) := fun w r w1 e => by
 rw [Sem.run_bind] at e
 cases hs : s.run P w with
 | halt x w' => rw [hs] at e; cases e
 | ok a w' => rw [hs] at e; cases e; exact ⟨a, rfl⟩
theorem Vp.val {s : Sem Value} (h : Vp P s) : Vp P (s >>= fun x => Pure.pure (Next.value x) : Sem Next) := h.bind fun _ => .pure _
theorem Rd.val {s : Sem Value} (h : Rd P s) : Rd P (s >>= fun x => Pure.pure (Next.value x) : Sem Next) := h.bind fun _ => (Vp.pure _).rd
end
theorem Zd4 {P : Program} (t : TypeId) : Vp P (zeroValue t) := by
 unfold zeroValue
 refine (Zev t).bind fun i => ?_
 split
 ·exact .pure _
 ·exact .halt _
theorem ZrC {α β : Type} {P : Program} {f : α → Sem β} (h : ∀ x, Vp P (f x)) : ∀ l : List α, Vp P (l.mapM f)
 | [] => by rw [List.mapM_nil]; exact .pure _
 | x :: l => by rw [YaQ]; exact (h x).bind fun _ => (ZrC h l).bind fun _ => .pure _
theorem ZxA {α β : Type} {P : Program} {f : α → Sem β} (h : ∀ x, Vp P (f x)) (l : Array α) : Vp P (l.mapM f) := by
 rw [Ya0]
 exact (ZrC h _).bind fun _ => .pure _
theorem ZrW {P : Program} (t : TypeId) (ps : Array (Nat × Value)) : Vp P (Instr.build t ps) := by
 unfold Instr.build
 refine (Zd4 t).bind fun z => (Za1 t).bind fun d => ?_
 split
 ·refine (ZxA (fun f => (Zbf _).bind fun _ => .pure _) _).bind fun pl => ?_
  split
  ·exact .pure _
  ·exact .halt _
 ·refine (Zbf _).bind fun n => ?_
  split
  ·exact .pure _
  ·exact .halt _
 ·exact .halt _
def Nv {α : Type} (P : Program) (s : Sem α) : Prop := ∀ w r w1, s.run P w ≠ .ok r w1
theorem Nv.vp {α : Type} {P : Program} {s : Sem α} (h : Nv P s) : Vp P s := fun w r w1 e => absurd e (h w r w1)
theorem Zje {α : Type} {P : Program} (k : IntKind) (x y : Int) (c : BoundsCode) : Nv P (boundsPanic k x y c : Sem α) := fun w r w1 e => by
 unfold boundsPanic at e
 dsimp only at e
 have h2 : ∀ (s : Bool) w r w1, (runtimePanic (.bounds (IntKind.i64.wrap x) y s c) : Sem α).run P w ≠ .ok r w1 := fun s w r w1 e => by
  unfold runtimePanic at e
  simp only [Sem.run_bind, run_program, Result.andThen_ok] at e
  repeat (first | (cases e; done) | split at e | (simp [goPanic, stuck, unsupported, Sem.run] at e; done))
 split at e
 all_goals
  rw [Sem.run_bind] at e
  generalize hs : Sem.run P _ w = q at e
  cases q with
  | halt x w' => cases e
  | ok a w' => exact h2 _ _ _ _ e
theorem ZDa {α : Type} {P : Program} : Nv P (runtimePanic .nilDeref : Sem α) := fun w r w1 e => by
 unfold runtimePanic at e
 simp only [Sem.run_bind, run_program, Result.andThen_ok] at e
 repeat (first | (cases e; done) | split at e | (simp [goPanic, stuck, unsupported, Sem.run] at e; done))
theorem ZgO {P : Program} (v : Value) : Vp P (asIntOf v) := by
 unfold asIntOf
 split
 ·exact .pure _
 ·exact .halt _
 ·exact .halt _
theorem Zok {P : Program} (v : Value) : Vp P (Instr.sureAddr v) := by
 unfold Instr.sureAddr
 split
 ·exact .pure _
 ·exact .halt _
theorem ZnN {P : Program} (v : Value) : Vp P (asAddr v) := by
 unfold asAddr
 split
 ·exact .pure _
 ·first | exact ZDa.vp | exact .halt _
 ·exact .halt _
theorem Zh1 {P : Program} (x : Value) (y : Nat) (c : BoundsCode) : Vp P (Instr.sliceBound x y c) := by
 unfold Instr.sliceBound
 refine (ZgO _).bind fun p => ?_
 dsimp only
 split
 ·exact .pure _
 ·exact (Zje _ _ _ _).vp
theorem Zel {P : Program} (b : Bool) (n m : Nat) (lo hi mx : Option Value) : Vp P (Instr.sliceBounds b n m lo hi mx) := by
 unfold Instr.sliceBounds
 dsimp only
 repeat' (first | exact Vp.pure _ | exact Zh1 _ _ _ | exact Vp.halt _ | refine Vp.bind ?_ fun _ => ?_ | split)
theorem ZrQ {P : Program} (t : TypeId) (x : Value) (lo hi mx : Option Value) : Vp P (Instr.slice t x lo hi mx) := by
 unfold Instr.slice
 dsimp only
 repeat' (first | exact Vp.pure _ | exact Zel _ _ _ _ _ _ | exact Za1 _ | exact Zbf _ | exact ZnN _ | exact Vp.halt _ | refine Vp.bind ?_ fun _ => ?_ | split)
theorem ZlX {P : Program} (t : TypeId) (x : Value) (lo hi mx : Option Value) : Vp P (Instr.sliceAt t x lo hi mx) := by
 unfold Instr.sliceAt
 repeat' (first | exact Vp.pure _ | exact Zel _ _ _ _ _ _ | exact Za1 _ | exact Zbf _ | exact Zok _ | exact ZrQ _ _ _ _ _ | exact Vp.halt _ | refine Vp.bind ?_ fun _ => ?_ | split)
theorem ZlV {P : Program} (t : TypeId) (x i : Value) : Vp P (Instr.indexAt t x i) := by
 unfold Instr.indexAt
 dsimp only
 repeat' (first | exact Vp.pure _ | exact ZgO _ | exact Za1 _ | exact Zbf _ | exact Zok _ | exact (Zje _ _ _ _).vp | exact Vp.halt _ | refine Vp.bind ?_ fun _ => ?_ | split)
theorem Zl8 {P : Program} (v : Value) (i : Nat) : Vp P (Instr.extract v i) := by
 unfold Instr.extract
 split
 ·split
  ·exact .pure _
  ·exact .halt _
 ·exact .halt _
def ZKB (P : Program) (c : Call) : Bool := match c.callee, c.args.toList, c.argTypes.toList with
 | .builtin .len, [_], [t] => (match P.underlying t with | some (.slice _) => true | some .string => true | _ => false)
 | _, _, _ => false
theorem ZED {P : Program} {t : TypeId} {ty : TypeId} (x : Value) (h : (match P.underlying t with | some (.slice _) => true | some .string => true | _ => false) = true) : Vp P (Builtin.len_ #[t] ty #[x]) := by
 unfold Builtin.len_
 simp only [Ybh, YG]
 intro w r w1 e
 have hu : ∃ d, P.underlying t = some d ∧ ((∃ q, d = .slice q) ∨ d = .string) := by
  grind
 obtain ⟨d, hu, hd⟩ := hu
 simp only [Sem.run_bind, run_underlying hu, Result.andThen_ok] at e ⊢
 rcases hd with ⟨q, rfl⟩ | rfl
 ·cases x <;> first | (cases e; exact ⟨rfl, fun _ => rfl⟩) | (cases e; done)
 ·cases x <;> first | (cases e; exact ⟨rfl, fun _ => rfl⟩) | (cases e; done)
def vpO (P : Program) (o : Oper) : Bool := match o.op with
 | .build _ _ => true
 | .extract _ _ => true
 | .indexAddr _ _ _ => true
 | .slice _ _ _ _ _ => true
 | .makeFunc _ _ _ => true
 | .call c => ZKB P c
 | .move _ => true
 | .assign _ => true
 | .nilCheck _ => true
 | .fieldAddr t _ i => (match P.underlying t with | some (.struct fs) => (match fs[i]? with | some f => !(Nat.beq (P.cellsOf f.type) 0) | none => false) | _ => false)
 | _ => false
def rdO (P : Program) (o : Oper) : Bool := vpO P o || match o.op with | .load _ _ => true | _ => false
section
variable {P : Program} {ρ : Operand → Value} {o : Oper}
theorem Zhf (h : vpO P o = true) : Vp P (execOp ρ o) ∧ VV P (execOp ρ o) := by
 obtain ⟨dst, op, type, pos, after, guard⟩ := o
 cases op <;> simp only [vpO] at h <;> first | (cases h; done) | skip
 case move x => exact ⟨.pure _, fun w r w1 e => by cases e; exact ⟨_, rfl⟩⟩
 case assign x => exact ⟨.pure _, fun w r w1 e => by cases e; exact ⟨_, rfl⟩⟩
 case build t ps => exact ⟨(ZrW _ _).val, VV.val⟩
 case makeFunc f a b => exact ⟨(Vp.pure _).val, VV.val⟩
 case extract x i => exact ⟨(Zl8 _ _).val, VV.val⟩
 case indexAddr t x i => exact ⟨(ZlV _ _ _).val, VV.val⟩
 case slice t x a b c => exact ⟨(ZlX _ _ _ _ _).val, VV.val⟩
 case call c =>
  unfold ZKB at h
  split at h
  ·rename_i x t hc ha ht
   obtain ⟨cal, az, ts⟩ := c
   simp only at hc ha ht
   subst hc
   have e1 : az = #[x] := YS (by simpa using ha)
   have e2 : ts = #[t] := YS (by simpa using ht)
   subst e1; subst e2
   have : execOp ρ ⟨dst, .call ⟨.builtin .len, #[x], #[t]⟩, type, pos, after, guard⟩ = (Builtin.len_ #[t] type #[ρ x] >>= fun v => (Pure.pure (Next.value v) : Sem Next)) := by
    simp [execOp, resolve, invoke, Go.builtin]
   rw [this]
   exact ⟨(ZED _ h).val, VV.val⟩
  ·cases h
 case nilCheck x =>
  have hp : ∀ v : Value, Vp P (pure (.value v) : Sem Next) ∧ VV P (pure (.value v) : Sem Next) := fun v => ⟨.pure _, fun w r w1 e => by cases e; exact ⟨_, rfl⟩⟩
  have hr : Vp P (runtimePanic .nilDeref : Sem Next) ∧ VV P (runtimePanic .nilDeref : Sem Next) := by
   have : ∀ w r w1, (runtimePanic .nilDeref : Sem Next).run P w ≠ .ok r w1 := fun w r w1 e => by
    unfold runtimePanic at e
    simp only [Sem.run_bind, run_program, Result.andThen_ok] at e
    repeat (first | (cases e; done) | split at e | (simp [goPanic, stuck, unsupported, Sem.run] at e; done))
   exact ⟨fun w r w1 e => absurd e (this w r w1), fun w r w1 e => absurd e (this w r w1)⟩
  show Vp P (execOp ρ _) ∧ _
  simp only [execOp]
  split
  ·exact hr
  ·exact hr
  ·exact hr
  ·split
   ·exact hr
   ·refine ⟨Vp.program.bind fun p => (Zf5 _ _ _ _).bind fun b => ?_, fun w r w1 e => ?_⟩
    ·split
     ·exact .halt _
     grind
    ·simp only [Sem.run_bind, run_program, Result.andThen_ok] at e
     cases hs : (nilAhead _ _ _ _).run P w with
     | halt x w' => rw [hs] at e; cases e
     | ok a w' =>
      rw [hs] at e
      simp only [Result.andThen_ok] at e
      split at e
      ·cases e
      ·cases e; exact ⟨_, rfl⟩
   grind
  ·grind
 case fieldAddr t x i =>
  refine ⟨Vp.val ?_, VV.val⟩
  unfold Instr.fieldAt
  intro w r w1 e
  split at h
  ·rename_i fs hu
   split at h
   ·rename_i f hf
    have hz : P.cellsOf f.type ≠ 0 := fun h0 => by rw [h0] at h; cases h
    have run : ∀ (ad : Addr) (w : World), (Instr.fieldAt t (.pointer (some ad)) i).run P w = .ok (.pointer (some (ad.add f.offset))) w := fun ad w => by
     simp [Instr.fieldAt, run_underlying hu, hf, Instr.sureAddr, fieldPlace, ZbQ hz, hz]
    have bad : ∀ v : Value, (∀ ad, v ≠ .pointer (some ad)) → (Instr.fieldAt t v i).run P w ≠ .ok r w1 := fun v hv e => by
     have hs : Instr.sureAddr v = .halt (.stuck "an address expected (no nilCheck in front?)") := by
      unfold Instr.sureAddr
      split
      ·grind
      ·rfl
     simp only [Instr.fieldAt, Sem.run_bind, run_underlying hu, Result.andThen_ok, hf, hs] at e
     cases e
    change (Instr.fieldAt t (ρ x) i).run P w = .ok r w1 at e
    show w1 = w ∧ ∀ w2, (Instr.fieldAt t (ρ x) i).run P w2 = .ok r w2
    grind
   ·cases h
  ·cases h
theorem ZhS (a : Addr) : Rd P (load a) := fun w r w1 e => by
 unfold load at e
 simp only [Sem.run] at e
 grind
theorem ZcZ (a : Addr) : ∀ (n i : Nat) (acc : Array Value), Rd P (loadCellsFrom a i n acc)
 | 0, i, acc => (Vp.pure _).rd
 | n + 1, i, acc => by unfold loadCellsFrom; exact (ZhS _).bind fun v => ZcZ a n (i + 1) _
theorem Ze2 (t : TypeId) (a : Addr) : Rd P (loadVar t a) := by
 unfold loadVar
 refine (Zd9 t).rd.bind fun b => ?_
 cases b with
 | true => exact (Zbf t).rd.bind fun n => (ZcZ a n 0 _).bind fun _ => (Vp.pure _).rd
 | false => exact ZhS a
theorem ZfY (h : rdO P o = true) : Rd P (execOp ρ o) ∧ VV P (execOp ρ o) := by
 unfold rdO at h
 rw [Bool.or_eq_true] at h
 rcases h with h | h
 ·obtain ⟨h1, h2⟩ := Zhf (ρ := ρ) h
  exact ⟨h1.rd, h2⟩
 ·obtain ⟨dst, op, type, pos, after, guard⟩ := o
  cases op <;> simp only at h <;> first | (cases h; done) | skip
  refine ⟨Rd.val ?_, VV.val⟩
  unfold Instr.loadAt
  refine Rd.bind ?_ fun a => Ze2 _ _
  unfold Instr.sureAddr
  split
  ·exact (Vp.pure _).rd
  ·exact (Vp.halt _).rd
def Zm5 (w w1 : World) : Prop := ∀ (k : Nat) (o : Obj), w.heap[k]? = some o → w1.heap[k]? = some o
theorem Zm5.refl (w : World) : Zm5 w w := fun _ _ h => h
theorem Zm5.cell {w w1 : World} {a : Addr} {v : Value} (h : Zm5 w w1) (hc : w.cell? a = some v) : w1.cell? a = some v := by
 unfold World.cell? at hc ⊢
 cases hb : w.heap[a.block]? with
 | none => rw [hb] at hc; cases hc
 | some o => rw [hb] at hc; rw [h _ _ hb]; exact hc
theorem Zm5.seen {w w1 : World} {p : Program} {at_ : Addr} {u : TypeId} {k : Addr} {b : Bool} (h : Zm5 w w1) {r} (hc : w.seen p at_ u k b = .ok r) : w1.seen p at_ u k b = .ok r := by
 cases hb : w.heap[at_.block]? with
 | none =>
  exfalso
  unfold World.seen at hc
  rw [hb] at hc
  have T : ∀ (α : Type) (e : String), (MonadExcept.throw e : Except String α) = .error e := fun _ _ => rfl
  simp only [bind, Except.bind, pure, Except.pure, throw, throwThe, T] at hc
  grind
 | some o =>
  unfold World.seen at hc ⊢
  rw [h _ _ hb]
  grind
theorem Zm5.far {w w1 : World} {p : Program} {a : Addr} {b : Bool} (h : Zm5 w w1) {r} (hc : w.farLoad p a b = .ok r) : w1.farLoad p a b = .ok r := by
 unfold World.farLoad at hc ⊢
 cases hb : w.heap[a.block]? with
 | none => rw [hb] at hc; cases hc
 | some o =>
  rw [hb] at hc
  rw [h _ _ hb]
  cases o <;> simp only at hc ⊢ <;> first | (cases hc; done) | skip
  rename_i at_ u
  cases hv : w.viewLoad p at_ u a b with
  | error e => rw [hv] at hc; cases hc
  | ok q =>
   rw [hv] at hc
   have : w1.viewLoad p at_ u a b = .ok q := by
    unfold World.viewLoad at hv ⊢
    cases hs : w.seen p at_ u a b with
    | error e => rw [hs] at hv; cases hv
    | ok z => rw [hs] at hv; rw [h.seen hs]; exact hv
   grind
variable {α β : Type}
def Sta (P : Program) (s : Sem α) : Prop := ∀ w r w1 w2, s.run P w = .ok r w1 → Zm5 w w2 → s.run P w2 = .ok r w2
theorem Vp.sta {s : Sem α} (h : Vp P s) : Sta P s := fun w r w1 w2 e _ => (h w r w1 e).2 w2
theorem Sta.bind {s : Sem α} {f : α → Sem β} (hr : Rd P s) (h : Sta P s) (k : ∀ a, Sta P (f a)) : Sta P (s >>= f) := fun w r w1 w2 e hx => by
 rw [Sem.run_bind] at e ⊢
 cases hs : s.run P w with
 | halt x w' => rw [hs] at e; cases e
 | ok a w' =>
  rw [hs] at e
  have h1 := hr w a w' hs
  subst h1
  rw [h _ _ _ _ hs hx]
  exact k a _ _ _ _ e hx
theorem Zkg (a : Addr) : Sta P (load a) := fun w r w1 w2 e hx => by
 unfold load at e ⊢
 simp only [Sem.run] at e ⊢
 cases hc : w.cell? a with
 | some v => rw [hc] at e; rw [hx.cell hc]; cases e; rfl
 | none =>
  rw [hc] at e
  cases hf : w.farLoad P a (Mode.plain == Mode.atomic) with
  | error x => rw [hf] at e; cases e
  | ok q =>
   have e2 : w2.cell? a = none := by
    unfold World.farLoad at hf
    unfold World.cell?
    cases hb : w.heap[a.block]? with
    | none => rw [hb] at hf; cases hf
    | some o =>
     rw [hb] at hf
     rw [hx _ _ hb]
     grind
   rw [hf] at e
   rw [e2, hx.far hf]
   grind
theorem ZeJ (a : Addr) : ∀ (n i : Nat) (acc : Array Value), Sta P (loadCellsFrom a i n acc)
 | 0, i, acc => (Vp.pure _).sta
 | n + 1, i, acc => by unfold loadCellsFrom; exact .bind (ZhS _) (Zkg _) fun v => ZeJ a n (i + 1) _
theorem Zj0 (t : TypeId) (a : Addr) : Sta P (loadVar t a) := by
 unfold loadVar
 refine .bind (Zd9 t).rd (Zd9 t).sta fun b => ?_
 cases b with
 | true => exact .bind (Zbf t).rd (Zbf t).sta fun n => .bind (ZcZ a n 0 _) (ZeJ a n 0 _) fun _ => (Vp.pure _).sta
 | false => exact Zkg a
theorem Zsm (h : rdO P o = true) : Sta P (execOp ρ o) := by
 unfold rdO at h
 rw [Bool.or_eq_true] at h
 rcases h with h | h
 ·exact (Zhf (ρ := ρ) h).1.sta
 ·obtain ⟨dst, op, type, pos, after, guard⟩ := o
  cases op <;> simp only at h <;> first | (cases h; done) | skip
  have hs : ∀ v : Value, Rd P (Instr.sureAddr v) ∧ Sta P (Instr.sureAddr v) := fun v => by
   unfold Instr.sureAddr
   split
   ·exact ⟨(Vp.pure _).rd, (Vp.pure _).sta⟩
   ·exact ⟨(Vp.halt _).rd, (Vp.halt _).sta⟩
  refine Sta.bind (s := Instr.loadAt _ _) (Rd.bind (hs _).1 fun a => Ze2 _ _) (.bind (hs _).1 (hs _).2 fun a => Zj0 _ _) fun _ => (Vp.pure _).sta
def grO (o : Oper) : Bool := match o.op with | .buildSlice _ _ _ => true | .alloc _ => true | _ => false
theorem Zsg {w : World} {o : Obj} : Zm5 w { w with heap := w.heap.push o } := fun k o' h => by
 grind
def Gr (P : Program) (s : Sem α) : Prop := ∀ w r w1, s.run P w = .ok r w1 → Zm5 w w1
theorem Rd.gr {s : Sem α} (h : Rd P s) : Gr P s := fun w r w1 e => by rw [h w r w1 e]; exact .refl _
theorem Gr.bind {s : Sem α} {f : α → Sem β} (h : Gr P s) (k : ∀ a, Gr P (f a)) : Gr P (s >>= f) := fun w r w1 e => by
 rw [Sem.run_bind] at e
 cases hs : s.run P w with
 | halt x w' => rw [hs] at e; cases e
 | ok a w' =>
  rw [hs] at e
  exact fun q o hq => k a _ _ _ e _ _ (h _ _ _ hs _ _ hq)
theorem Zgt (t : TypeId) (cs : Array Value) : Gr P (newRow t cs) := fun w r w1 e => by
 unfold newRow newObj at e
 cases e
 exact Zsg
theorem Zh7 (t : TypeId) (n : Nat) (ps : Array (Nat × Value)) : Gr P (Instr.buildSlice t n ps) := by
 unfold Instr.buildSlice
 refine (Za1 t).rd.gr.bind fun d => ?_
 split
 ·refine (Zbf _).rd.gr.bind fun size => ?_
  by_cases h1 : n * size > 2 ^ 24
  ·rw [if_pos h1]
   intro w r w1 e
   cases e
  ·rw [if_neg h1]
   by_cases h2 : n * size = 0
   ·rw [if_pos h2]
    refine Gr.bind (s := Pure.pure _) (Vp.pure _).rd.gr fun z => ?_
    dsimp only
    split
    ·exact (Zgt _ _).bind fun _ => (Vp.pure _).rd.gr
    ·exact (Vp.halt _).rd.gr
   ·rw [if_neg h2]
    refine (Zd4 _).rd.gr.bind fun z => Gr.bind (s := Pure.pure _) (Vp.pure _).rd.gr fun z => ?_
    dsimp only
    split
    ·exact (Zgt _ _).bind fun _ => (Vp.pure _).rd.gr
    ·exact (Vp.halt _).rd.gr
 ·exact (Vp.halt _).rd.gr
theorem ZzU (h : grO o = true) : Gr P (execOp ρ o) ∧ VV P (execOp ρ o) := by
 obtain ⟨dst, op, type, pos, after, guard⟩ := o
 cases op <;> simp only [grO] at h <;> first | (cases h; done) | skip
 case buildSlice => exact ⟨(Zh7 _ _ _).bind fun _ => (Vp.pure _).rd.gr, VV.val⟩
 case alloc t => exact ⟨Gr.bind (s := Instr.alloc _ _ _) ((Zd4 _).rd.gr.bind fun z => Gr.bind (s := newVar _ _) (Zgt _ _ |>.bind fun _ => (Vp.pure _).rd.gr) fun _ => (Vp.pure _).rd.gr) fun _ => (Vp.pure _).rd.gr, VV.val⟩
theorem ZnA (h : (rdO P o || grO o) = true) : Gr P (execOp ρ o) ∧ VV P (execOp ρ o) := by
 rw [Bool.or_eq_true] at h
 rcases h with h | h
 ·exact ⟨(ZfY h).1.gr, (ZfY h).2⟩
 ·exact ZzU h
end
def ZGi (P : Program) (L : List Oper) (listed : List Nat) (i : Nat) (oi : Oper) : Nat → List Oper → Bool
 | _, [] => true
 | j, oj :: r => (listed.any (Nat.beq j) || Nat.beq j i || ZiA L i L.length j || (oi.apart L.toArray oj && (vpO P oi || (rdO P oi && (rdO P oj || grO oj))))) && ZGi P L listed i oi (j + 1) r
def Zrd (P : Program) (L : List Oper) : List Nat → List Nat → Bool
 | listed, [] => (List.range L.length).all fun j => listed.any (Nat.beq j)
 | listed, i :: rest => (match nth L i with
  | some oi => !(listed.any (Nat.beq i)) && oi.after.toList.all (fun e => !Region.binds .any e || listed.any (Nat.beq e.on)) && (match vpO P oi with | true => chkV P L listed i oi 0 L | false => ZGi P L listed i oi 0 L)
  | none => false) && Zrd P L (i :: listed) rest
where chkV (P : Program) (L : List Oper) (listed : List Nat) (i : Nat) (oi : Oper) : Nat → List Oper → Bool
 | _, [] => true
 | j, oj :: r => (listed.any (Nat.beq j) || Nat.beq j i || oj.after.toList.any (fun e => Region.binds .any e && Nat.beq e.on i) || oi.apart L.toArray oj) && chkV P L listed i oi (j + 1) r
theorem ZcJ {l : List Nat} {j : Nat} : l.any (Nat.beq j) = true ↔ j ∈ l := by
 rw [YH]
 exact ⟨fun ⟨x, hx, h⟩ => Ya h ▸ hx, fun h => ⟨j, h, Ya4 j⟩⟩
theorem ZqJ {P : Program} {L : List Oper} {listed : List Nat} {i : Nat} {oi : Oper} : ∀ {r : List Oper} {j0 k : Nat} {oj : Oper}, ZGi P L listed i oi j0 r = true → r[k]? = some oj →
  (j0 + k) ∈ listed ∨ j0 + k = i ∨ Waits L.toArray (j0 + k) i ∨ (oi.apart L.toArray oj = true ∧ (vpO P oi = true ∨ rdO P oi = true ∧ (rdO P oj || grO oj) = true))
 | [], j0, k, oj, _, h => by simp at h
 | q :: r, j0, k, oj, hc, h => by
  unfold ZGi at hc
  rw [Bool.and_eq_true] at hc
  cases k with
  | zero =>
   simp only [YG, Ye] at h
   subst h
   have h1 := hc.1
   simp only [Bool.or_eq_true, Bool.and_eq_true] at h1
   rcases h1 with ((h1 | h1) | h1) | h1
   ·exact .inl (ZcJ.1 h1)
   ·exact .inr (.inl (Ya h1))
   ·exact .inr (.inr (.inl (Zep _ _ h1)))
   grind
  | succ k =>
   have := ZqJ (k := k) hc.2 (by simpa using h)
   grind
theorem Zm9 {P : Program} {L : List Oper} {listed : List Nat} {i : Nat} {oi : Oper} : ∀ {r : List Oper} {j0 k : Nat} {oj : Oper}, Zrd.chkV P L listed i oi j0 r = true → r[k]? = some oj →
  (j0 + k) ∈ listed ∨ j0 + k = i ∨ (∃ e ∈ oj.after, Region.binds .any e = true ∧ e.on = i) ∨ oi.apart L.toArray oj = true
 | [], j0, k, oj, _, h => by simp at h
 | q :: r, j0, k, oj, hc, h => by
  unfold Zrd.chkV at hc
  rw [Bool.and_eq_true] at hc
  cases k with
  | zero =>
   simp only [YG, Ye] at h
   subst h
   have h1 := hc.1
   simp only [Bool.or_eq_true] at h1
   rcases h1 with ((h1 | h1) | h1) | h1
   ·exact .inl (ZcJ.1 h1)
   ·exact .inr (.inl (Ya h1))
   ·obtain ⟨e, he, h2⟩ := YH.1 h1
    rw [Bool.and_eq_true] at h2
    exact .inr (.inr (.inl ⟨e, by simpa using he, h2.1, Ya h2.2⟩))
   grind
  | succ k =>
   have := Zm9 (k := k) hc.2 (by simpa using h)
   grind
def noG (o : Oper) : Bool := (match o.guard with | none => true | _ => false) && (match o.op with | .select _ _ => false | _ => true)
end Go.Eng
