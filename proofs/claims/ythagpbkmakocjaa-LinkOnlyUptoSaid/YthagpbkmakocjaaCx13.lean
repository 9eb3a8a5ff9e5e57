import Derived.Test.YthagpbkmakocjaaCx12
namespace Go.Eng
set_option linter.all false
open Go Go.RowKit
def Zn1 : Nat → List Blk → List (Key × Blk)
 | _, [] => []
 | i, b :: bs => ((0, i), b) :: Zn1 (i + 1) bs
abbrev Cl := (Key → Prop) → Nat → Hp → (Nat → AV) → Prop
structure KO (P : Program) (f : FuncId) (os : Nat) (ys : List AV) (bi : List Blk) (Θ : Cl) {γ : Type} (M : Option γ) (e : γ → AV) (bs : γ → List Blk) : Prop where
 k : ∀ l H (ks : List Key) (gs : List Nat) (θ : Nat → AV), ks.length = os → ZyQ l ks → ks.Nodup → HOk H (rOf l ks gs θ H) (Zn1 0 bi) 0 ks → Θ (fun k => k ∈ ks) l H θ → ∀ y, M = some y →
  ZbP P f l (Zap (rOf l ks gs θ H) ys) H (fun z H' => z = ren (rOf l ks gs θ H) (e y) ∧ H' = ZjN H ks (ZcX (rOf l ks gs θ H) 0 (bs y)))
mutual
def kno (os : Nat) : AV → Bool
 | .ref k _ _ _ => Nat.beq k.1 0 && Nat.ble (k.2 + 1) os
 | .ptr k _ _ => Nat.beq k.1 0 && Nat.ble (k.2 + 1) os
 | .mp k _ => Nat.beq k.1 0 && Nat.ble (k.2 + 1) os
 | .fn f xs ys => (match f with | .yield _ => false | _ => true) && ZuK os xs && ZuK os ys
 | .agg xs => ZuK os xs
 | .tup xs => ZuK os xs
 | .top => true
 | .d _ => true
 | .e0 => true
 | .p _ => true
 | .iptr _ _ => true
def ZuK (os : Nat) : List AV → Bool
 | [] => true
 | x :: xs => kno os x && ZuK os xs
end
def Zou (os : Nat) (r r' : Ren) : Prop := ∀ q, q < os → r.κ (0, q) = r'.κ (0, q) ∧ r.γ (0, q) = r'.γ (0, q)
theorem ZjQ {os : Nat} {r r' : Ren} (hs : Zou os r r') {k : Key} (h : (Nat.beq k.1 0 && Nat.ble (k.2 + 1) os) = true) : r.κ k = r'.κ k ∧ r.γ k = r'.γ k := by
 simp only [Bool.and_eq_true] at h
 obtain ⟨a, b⟩ := k
 have h1 := Nat.eq_of_beq_eq_true h.1
 have h2 := Nat.le_of_ble_eq_true h.2
 simp only at h1 h2
 subst h1
 exact hs b h2
mutual
theorem ZoF {os : Nat} {r r' : Ren} (hs : Zou os r r') : ∀ x : AV, kno os x = true → ren r x = ren r' x
 | .ref k g off n, h => by obtain ⟨e1, e2⟩ := ZjQ hs h; simp only [ren, e1, e2]
 | .ptr k g off, h => by obtain ⟨e1, e2⟩ := ZjQ hs h; simp only [ren, e1, e2]
 | .mp k g, h => by obtain ⟨e1, e2⟩ := ZjQ hs h; simp only [ren, e1, e2]
 | .fn f xs ys, h => by
  simp only [kno, Bool.and_eq_true] at h
  have e1 := Zdf hs xs h.1.2
  have e2 := Zdf hs ys h.2
  cases f <;> first | (simp only [ren, e1, e2]; done) | (simp at h)
 | .agg xs, h => by simp only [kno] at h; simp only [ren, Zdf hs xs h]
 | .tup xs, h => by simp only [kno] at h; simp only [ren, Zdf hs xs h]
 | .top, _ => by simp [ren]
 | .d _, _ => by simp [ren]
 | .e0, _ => by simp [ren]
 | .p _, _ => by simp [ren]
 | .iptr _ _, _ => by simp [ren]
theorem Zdf {os : Nat} {r r' : Ren} (hs : Zou os r r') : ∀ xs : List AV, ZuK os xs = true → Zap r xs = Zap r' xs
 | [], _ => by simp [Zap]
 | x :: xs, h => by
  simp only [ZuK, Bool.and_eq_true] at h
  simp only [Zap, ZoF hs x h.1, Zdf hs xs h.2]
end
def Zth (os : Nat) : List Blk → Prop
 | [] => True
 | b :: bs => (Zha b.cells ∨ ZuK os b.cells = true) ∧ b.live = true ∧ Zth os bs
theorem Zth.ren {os : Nat} {r r' : Ren} (hs : Zou os r r') : ∀ (bs : List Blk) (i : Nat), i + bs.length ≤ os → Zth os bs → ZcX r i bs = ZcX r' i bs
 | [], _, _, _ => rfl
 | b :: bs, i, hl, h => by
  simp only [List.length_cons] at hl
  have e1 : Zap r b.cells = Zap r' b.cells := by
   rcases h.1 with hf | hk
   ·rw [ZbQ hf, ZbQ hf]
   ·exact Zdf hs _ hk
  simp only [ZcX, Zth.ren hs bs (i + 1) (by omega) h.2.2, Za7, e1, (hs i (by omega)).2]
theorem Zth.live {os : Nat} : ∀ {bs : List Blk}, Zth os bs → ∀ b ∈ bs, b.live = true
 | c :: bs, h, b, hb => by
  rcases List.mem_cons.1 hb with rfl | hb
  ·exact h.2.1
  ·exact Zth.live h.2.2 b hb
theorem ko1 {P : Program} {T : Nat → Option TI} {n : Nat} {f : FuncId} {fn : Func} {ys : List AV} {bi : List Blk} {Θ : Cl} {γ : Type} {M : Option γ} {e : γ → AV} {bs : γ → List Blk} (hf : P.funcs[f]? = some fn) (hn : fn.ntmps = n) (hT : TOk P T) (rs : List ResultVar) (os : Nat)
  (h : ∀ C : Cx, CO C os → Θ C.no C.l C.H0 C.θ → ∀ y, M = some y → ∀ Post : AV → List Blk → Prop, HL (fun y => Post (e y) (bs y)) y → LW P n C (pa [] (Zac fn)) (mkS (ZmC 0 ys) (Zn1 0 bi)) (FQ T rs os Post))
  (he : ∀ y, kno os (e y) = true := by intro y; kernel_rfl) (hB : ∀ y, Zth os (bs y) := by intro y; exact trivial) (hl : ∀ y, (bs y).length = os := by intro y; rfl) (hin : Zwe os (Zn1 0 bi) = true := by kernel_rfl)
  (hb : fn.body = some (Zac fn) := by kernel_rfl) (hname : (fn.name == "runtime.NumGoroutine") = false := by kernel_rfl) (hr : fn.results.toList = rs := by kernel_rfl) (hx : Nat.ble ys.length n = true := by kernel_rfl) : KO P f os ys bi Θ M e bs :=
 ⟨fun l H ks gs θ hks hlow hnd hH hΘ y hy => by
  have hN : ∀ r, NmO l ks gs r → Zou os r (rOf l ks gs θ H) := fun r hr q hq => by
   obtain ⟨h1, h2⟩ := hr
   exact ⟨congrFun h1 _, h2 q (by omega)⟩
  refine ZjG rs (Zac fn) ks gs os θ ys (Zn1 0 bi) (e y) (bs y) (Y' := ren (rOf l ks gs θ H) (e y)) (bs' := ZcX (rOf l ks gs θ H) 0 (bs y)) hf hb hname hn hr (by rw [ZaO]; exact Nat.le_of_ble_eq_true hx) hT hks hlow hnd hin hH rfl (hl y) (hB y).live
   (fun r hr => ZoF (hN r hr) _ (he y)) (fun r hr => Zth.ren (hN r hr) _ _ (by rw [hl]; omega) (hB y)) (fun C hC hO hF hl' hH0 hθ hκ hno => ?_) ⟨rfl, rfl⟩
  refine h C ⟨hC, hO, hF, fun q hq => ?_⟩ (by rw [hno, hl', hH0, hθ]; exact hΘ) y hy (fun z b => z = e y ∧ b = bs y) ⟨rfl, rfl⟩
  rw [hno, hκ]
  show (match nth ks q with | some k => k | none => (0, 0)) ∈ ks
  rw [Zbh, List.getElem?_eq_getElem (by omega)]
  exact List.getElem_mem _⟩
def ZuT (r : Ren) : List (Key × Blk) → List Nat
 | [] => []
 | (k, b) :: r' => (r.γ k + b.g) :: ZuT r r'
def BE (r r' : Ren) : Nat → List Blk → List (Key × Blk) → Prop
 | i, b :: bs, (k, c) :: cs => (b.live = true → c.live = true ∧ Za7 r (0, i) b = Za7 r' k c) ∧ r.γ (0, i) + b.g = r'.γ k + c.g ∧ BE r r' (i + 1) bs cs
 | _, [], [] => True
 | _, _, _ => False
def Zgc : List Key → Bool
 | [] => true
 | k :: ks => !(ks.any (Zdp k)) && Zgc ks
theorem Zda {κ : Key → Key} {os : Nat} (hinj : ∀ q k : Key, okK os q = true → okK os k = true → q ≠ k → κ q ≠ κ k) : ∀ (ks : List Key), Zgc ks = true → ks.all (okK os) = true → (ks.map κ).Nodup
 | [], _, _ => List.nodup_nil
 | k :: ks, h, ho => by
  simp only [Zgc, Bool.and_eq_true, Bool.not_eq_true'] at h
  simp only [List.all_cons, Bool.and_eq_true] at ho
  rw [List.map_cons, List.nodup_cons]
  refine ⟨fun hm => ?_, Zda hinj ks h.2 ho.2⟩
  obtain ⟨q, hq, e⟩ := List.mem_map.1 hm
  have hne : q ≠ k := fun e' => ZgB h.1 (e' ▸ hq)
  exact hinj q k (List.all_eq_true.1 ho.2 q hq) ho.1 hne e
section
variable {P : Program} {f : FuncId} {os os' : Nat} {ys : List AV} {bi : List Blk} {Θ : Cl} {γ : Type} {M : Option γ} {e : γ → AV} {bs : γ → List Blk} {C : Cx} {r : Ren} {xs : List AV} {x : AV} {y : γ}
theorem Zql (co : CO C os') (g : Gd C r) : ∀ q k : Key, okK os' q = true → okK os' k = true → q ≠ k → r.κ q ≠ r.κ k := by
 intro q k hq hk hne he
 rw [g.κ] at he
 rcases Zc4 hq with h1 | ⟨h1, h2⟩ <;> rcases Zc4 hk with j1 | ⟨j1, j2⟩
 ·obtain ⟨a, b⟩ := q
  obtain ⟨c, d⟩ := k
  simp only at h1 j1
  subst h1; subst j1
  rw [co.ok.own, co.ok.own] at he
  simp only [Prod.mk.injEq, true_and] at he
  exact hne (by rw [he])
 ·obtain ⟨a, b⟩ := q
  obtain ⟨c, d⟩ := k
  simp only at h1 j1 j2
  subst h1; subst j1
  rw [co.ok.own] at he
  have := co.ok.out d (by rw [co.O]; exact j2)
  rw [← he] at this
  simp only at this
  omega
 ·obtain ⟨a, b⟩ := q
  obtain ⟨c, d⟩ := k
  simp only at h1 h2 j1
  subst h1; subst j1
  rw [co.ok.own] at he
  have := co.ok.out b (by rw [co.O]; exact h2)
  rw [he] at this
  simp only at this
  omega
 ·obtain ⟨a, b⟩ := q
  obtain ⟨c, d⟩ := k
  simp only at h1 h2 j1 j2
  subst h1; subst j1
  have := co.ok.inj b d (by rw [co.O]; exact h2) (by rw [co.O]; exact j2) he
  exact hne (by rw [this])
theorem Zh9 (co : CO C os') (g : Gd C r) : ∀ (ks : List Key), ks.all (okK os') = true → ZyQ (C.l + 1) (ks.map r.κ)
 | [], _ => trivial
 | k :: ks, h => by
  simp only [List.all_cons, Bool.and_eq_true] at h
  refine ⟨?_, Zh9 co g ks h.2⟩
  rw [g.κ]
  obtain ⟨a, b⟩ := k
  rcases Zc4 h.1 with h1 | ⟨h1, h2⟩
  ·simp only at h1; subst h1; rw [co.ok.own]; exact Nat.le_refl _
  ·simp only at h1 h2; subst h1; exact Nat.le_succ_of_le (co.ok.out b (by rw [co.O]; exact h2))
theorem Zgx : ∀ (bi : List Blk) (i j : Nat), lkH (Zn1 i bi) (0, i + j) = (bi[j]?).getD Zn3
 | [], i, j => by simp [Zn1, lkH]
 | b :: bi, i, 0 => by simp [Zn1, lkH, Zdp]
 | b :: bi, i, j + 1 => by
  have ih := Zgx bi (i + 1) j
  simp only [Zn1, lkH]
  have : Zdp (0, i) (0, i + (j + 1)) = false := by
   simp only [Zdp, Bool.and_eq_false_iff]
   right
   cases h : Nat.beq i (i + (j + 1)) with
   | false => rfl
   | true => have := Nat.eq_of_beq_eq_true h; omega
  rw [show Zdp (0, i) (0, i + (j + 1)) = false from this]
  rw [show i + (j + 1) = i + 1 + j from by omega, ih]
  simp
theorem Zlp {r' : Ren} {H' : Hp} : ∀ (bi : List Blk) (cb : List (Key × Blk)) (i : Nat) (B : List Blk), (∀ j, lkH (Zn1 0 B) (0, i + j) = (bi[j]?).getD Zn3) → BE r' r i bi cb →
  (∀ p ∈ cb, (H' (r.κ p.1)).g = r.γ p.1 + p.2.g ∧ (p.2.live = true → H' (r.κ p.1) = Za7 r p.1 p.2)) → HOk H' r' (Zn1 0 B) i ((cb.map (·.1)).map r.κ)
 | [], [], i, B, _, _, _ => trivial
 | b :: bi, (k, c) :: cb, i, B, hB, h, hH => by
  have h0 := hB 0
  simp only [List.getElem?_cons_zero, Option.getD_some, Nat.add_zero] at h0
  obtain ⟨h1, h2, h3⟩ := h
  refine ⟨?_, Zlp bi cb (i + 1) B (fun j => ?_) h3 fun p hp => hH p (List.mem_cons_of_mem _ hp)⟩
  ·rw [h0]
   have hc := hH _ (List.mem_cons_self ..)
   exact ⟨by rw [h2]; exact hc.1, fun hl => (hc.2 (h1 hl).1).trans (h1 hl).2.symm⟩
  ·have := hB (j + 1)
   rw [List.getElem?_cons_succ] at this
   rw [show i + 1 + j = i + (j + 1) from by omega]; exact this
 | [], _ :: _, _, _, _, h, _ => h.elim
 | _ :: _, [], _, _, _, h, _ => h.elim
theorem ZoX {H : Hp} {k : Key} : updH H k (H k) = H := by
 funext q
 by_cases h : q = k
 ·subst h; exact Zab ..
 ·exact Zad _ _ h
theorem Zfq {r' : Ren} {H' : Hp} : ∀ (bi : List Blk) (cb : List (Key × Blk)) (i : Nat), BE r' r i bi cb → (∀ b ∈ bi, b.live = true) → (∀ p ∈ cb, p.2.live = true → H' (r.κ p.1) = Za7 r p.1 p.2) → ZjN H' ((cb.map (·.1)).map r.κ) (ZcX r' i bi) = H'
 | [], [], _, _, _, _ => rfl
 | b :: bi, (k, c) :: cb, i, h, hl, hH => by
  obtain ⟨h1, h2, h3⟩ := h
  have e := h1 (hl b (List.mem_cons_self ..))
  have e2 := hH _ (List.mem_cons_self ..) e.1
  simp only [List.map_cons, ZjN, ZcX]
  rw [e.2, ← e2, ZoX]
  exact Zfq bi cb (i + 1) h3 (fun b hb => hl b (List.mem_cons_of_mem _ hb)) fun p hp => hH p (List.mem_cons_of_mem _ hp)
 | [], _ :: _, _, h, _, _ => h.elim
 | _ :: _, [], _, h, _, _ => h.elim
theorem Zkp {r' : Ren} : ∀ (bo : List Blk) (cb cb2 : List (Key × Blk)) (i : Nat) (H' : Hp), BE r' r i bo cb2 → (∀ b ∈ bo, b.live = true) → cb.map (·.1) = cb2.map (·.1) → ZjN H' ((cb.map (·.1)).map r.κ) (ZcX r' i bo) = ZcO r cb2 H'
 | [], [], [], _, _, _, _, _ => rfl
 | [], _ :: _, [], _, _, _, _, h => by cases h
 | b :: bo, [], _ :: _, _, _, _, _, h => by cases h
 | b :: bo, (k, c) :: cb, (k2, c2) :: cb2, i, H', h, hl, he => by
  obtain ⟨h1, h2, h3⟩ := h
  simp only [List.map_cons, List.cons.injEq] at he
  obtain ⟨rfl, he⟩ := he
  have e := h1 (hl b (List.mem_cons_self ..))
  simp only [List.map_cons, ZjN, ZcX, ZcO]
  rw [e.2]
  exact Zkp bo cb cb2 (i + 1) _ h3 (fun b hb => hl b (List.mem_cons_of_mem _ hb)) he
 | _ :: _, _, [], _, _, h, _, _ => h.elim
 | [], _, _ :: _, _, _, h, _, _ => h.elim
def rC (C : Cx) (r : Ren) (cb : List (Key × Blk)) (θ : Nat → AV) (H : Hp) : Ren := rOf (C.l + 1) ((cb.map (·.1)).map r.κ) (ZuT r cb) θ H
def Th (Θ : Cl) (C : Cx) (r : Ren) (cb hb : List (Key × Blk)) (θ : Nat → AV) : Prop :=
 ∀ H', (∀ p ∈ hb, (H' (r.κ p.1)).g = r.γ p.1 + p.2.g ∧ (p.2.live = true → H' (r.κ p.1) = Za7 r p.1 p.2)) → (∀ k : Key, k.1 ≤ C.l → ¬ r.no k → H' k = r.H0 k) → Θ (fun k => k ∈ (cb.map (·.1)).map r.κ) (C.l + 1) H' θ
theorem ZaB (K : KO P f os ys bi Θ M e bs) (hy : M = some y) (co : CO C os') (g : Gd C r) (cb cc : List (Key × Blk)) (θ : Nat → AV) (hΘ : Th Θ C r cb (cb ++ cc) θ) (hBE : ∀ H, BE (rC C r cb θ H) r 0 bi cb) (hro : bs y = bi := by rfl) (hlv' : bi.all Blk.live = true := by kernel_rfl) (hlv2' : (cb ++ cc).all (fun p => p.2.live) = true := by kernel_rfl) (hx : ∀ H, Zap (rC C r cb θ H) ys = Zap r xs := by intro H; kernel_rfl) (hy2 : ∀ H, ren (rC C r cb θ H) (e y) = ren r x := by intro H; kernel_rfl)
  (hk : ((cb.map (·.1)).all (okK os') && Zgc (cb.map (·.1)) && Nat.beq cb.length os) = true := by kernel_rfl) : ZgP P C.l r f xs (cb ++ cc) x := by
 intro H' h1 h2
 have hlv : ∀ b ∈ bi, b.live = true := fun b hb => List.all_eq_true.1 hlv' b hb
 have hlv2 : ∀ p ∈ cb ++ cc, p.2.live = true := fun p hp => List.all_eq_true.1 hlv2' p hp
 have hsub : ∀ p ∈ cb, p ∈ cb ++ cc := fun p hp => List.mem_append_left _ hp
 simp only [Bool.and_eq_true] at hk
 have hg : ∀ p ∈ cb ++ cc, (H' (r.κ p.1)).g = r.γ p.1 + p.2.g ∧ (p.2.live = true → H' (r.κ p.1) = Za7 r p.1 p.2) := fun p hp => ⟨by rw [h1 p hp (hlv2 p hp)]; rfl, h1 p hp⟩
 have := K.k (C.l + 1) H' ((cb.map (fun p : Key × Blk => p.1)).map r.κ) (ZuT r cb) θ (by rw [List.length_map, List.length_map]; exact Nat.eq_of_beq_eq_true hk.2) (Zh9 co g _ hk.1.1) (Zda (Zql co g) _ hk.1.2 hk.1.1)
  (Zlp bi cb 0 bi (fun j => by have := Zgx bi 0 j; rwa [Nat.zero_add] at this ⊢) (hBE H') fun p hp => hg p (hsub p hp)) (hΘ H' hg h2) y hy
 rw [← hx H']
 refine this.mono fun z H'' ⟨e1, e2⟩ => ⟨e1.trans (hy2 H'), e2.trans ?_⟩
 rw [hro]
 exact Zfq bi cb 0 (hBE H') hlv fun p hp hl => (hg p (hsub p hp)).2 hl
theorem Zaf (K : KO P f os ys bi Θ M e bs) (hy : M = some y) (co : CO C os') (g : Gd C r) (cb cc cb2 : List (Key × Blk)) (θ : Nat → AV) (hΘ : Th Θ C r cb (cb ++ cc) θ)
  (hBE : ∀ H, BE (rC C r cb θ H) r 0 bi cb) (hBE2 : ∀ H, BE (rC C r cb θ H) r 0 (bs y) cb2) (hlv' : (bs y).all Blk.live = true := by kernel_rfl) (hx : ∀ H, Zap (rC C r cb θ H) ys = Zap r xs := by intro H; kernel_rfl) (hy2 : ∀ H, ren (rC C r cb θ H) (e y) = ren r x := by intro H; kernel_rfl)
  (hk : ((cb.map (·.1)).all (okK os') && Zgc (cb.map (·.1)) && Nat.beq cb.length os) = true := by kernel_rfl) (he : cb.map (·.1) = cb2.map (·.1) := by rfl) : ZiB P C.l r f xs (cb ++ cc) x cb2 [] := by
 have hlv : ∀ b ∈ bs y, b.live = true := fun b hb => List.all_eq_true.1 hlv' b hb
 have hsub : ∀ p ∈ cb, p ∈ cb ++ cc := fun p hp => List.mem_append_left _ hp
 refine ZtL rfl rfl fun H' hg h2 => ?_
 simp only [Bool.and_eq_true] at hk
 have := K.k (C.l + 1) H' ((cb.map (fun p : Key × Blk => p.1)).map r.κ) (ZuT r cb) θ (by rw [List.length_map, List.length_map]; exact Nat.eq_of_beq_eq_true hk.2) (Zh9 co g _ hk.1.1) (Zda (Zql co g) _ hk.1.2 hk.1.1)
  (Zlp bi cb 0 bi (fun j => by have := Zgx bi 0 j; rwa [Nat.zero_add] at this ⊢) (hBE H') fun p hp => hg p (hsub p hp)) (hΘ H' hg h2) y hy
 rw [← hx H']
 exact this.mono fun z H'' ⟨e1, e2⟩ => ⟨e1.trans (hy2 H'), e2.trans (Zkp (bs y) cb cb2 0 H' (hBE2 H') hlv he)⟩
end
structure CloM (P : Program) (C : Cx) (i : Nat) (xs : List AV) {γ : Type} (M : Option γ) (e : γ → AV) : Prop where
 k : ∀ y, M = some y → Ze5 P C.l C.no C.H0 (C.θ i) xs (e y)
 x : ∀ r, Zap r xs = xs
 e : ∀ r y, ren r (e y) = e y
section
variable {os : Nat} {β γ : Type} [Inhabited γ]
theorem CloM.callF {P : Program} {i : Nat} {xs : List AV} {M : Option γ} {e : γ → AV} (E : Ev os β) (h : CloM P E.C i xs M e) {y : γ} (hy : M = some y) : ZmS P E.E.l E.E.r i xs [] (e y) :=
 Zso (congrFun E.g.θ i) (by rw [E.hl, E.g.no, E.g.H]; exact h.k y hy) (h.x _) (h.e _ _)
@[reducible] def cf (P : Program) (i : Nat) (xs : List AV) (M : Option γ) (e : γ → AV) (k : γ → PT os β) : PT os β :=
 ⟨.call (e (M.getD default)) [] (k (M.getD default)).a, fun E => ZmS P E.l E.r i xs [] (e (M.getD default)) ∧ (k (M.getD default)).q E, M.bind fun y => (k y).m, fun E => CloM P E.C i xs M e ∧ ∀ y, (k y).n E, fun E hn y hm hL => by
  obtain ⟨x, h1, h2⟩ := bind_some hm
  have h3 : M.getD default = x := by rw [h1]; rfl
  rw [h3]
  exact ⟨hn.1.callF E h1, (k x).ok E (hn.2 x) y h2 hL⟩⟩
@[reducible] def cfg (b : Bool) (P : Program) (i : Nat) (xs : List AV) (M : Option γ) (e : γ → AV) (k : γ → PT os β) : PT os β :=
 ⟨.call (e (M.getD default)) [] (k (M.getD default)).a, fun E => (b = true → ZmS P E.l E.r i xs [] (e (M.getD default))) ∧ (k (M.getD default)).q E, if (b = true → M.isSome = true) then (k (M.getD default)).m else none, fun E => CloM P E.C i xs M e ∧ ∀ y, (k y).n E, fun E hn y hm hL => by
  obtain ⟨h0, hm⟩ := Zar hm
  refine ⟨fun hb => ?_, (k _).ok E (hn.2 _) y hm hL⟩
  obtain ⟨x, h1⟩ := Option.isSome_iff_exists.1 (h0 hb)
  have h3 : M.getD default = x := by rw [h1]; rfl
  rw [h3]; exact hn.1.callF E h1⟩
@[reducible] def cs (P : Program) (f : FuncId) (xs : List AV) (ks : List Key) (hb : List (Key × Blk)) (M : Option γ) (e : γ → AV) (k : γ → PT os β) : PT os β :=
 ⟨.call (e (M.getD default)) ks (k (M.getD default)).a, fun E => ZgP P E.l E.r f xs hb (e (M.getD default)) ∧ (k (M.getD default)).q E, M.bind fun y => (k y).m, fun E => (∀ y, M = some y → ZgP P E.C.l E.E.r f xs hb (e y)) ∧ ∀ y, (k y).n E, fun E hn y hm hL => by
  obtain ⟨x, h1, h2⟩ := bind_some hm
  have h3 : M.getD default = x := by rw [h1]; rfl
  rw [h3]
  exact ⟨by rw [E.hl]; exact hn.1 x h1, (k x).ok E (hn.2 x) y h2 hL⟩⟩
@[reducible] def csg (b : Bool) (P : Program) (f : FuncId) (xs : List AV) (ks : List Key) (hb : List (Key × Blk)) (M : Option γ) (e : γ → AV) (k : γ → PT os β) : PT os β :=
 ⟨.call (e (M.getD default)) ks (k (M.getD default)).a, fun E => (b = true → ZgP P E.l E.r f xs hb (e (M.getD default))) ∧ (k (M.getD default)).q E, if (b = true → M.isSome = true) then (k (M.getD default)).m else none, fun E => (∀ y, M = some y → ZgP P E.C.l E.E.r f xs hb (e y)) ∧ ∀ y, (k y).n E, fun E hn y hm hL => by
  obtain ⟨h0, hm⟩ := Zar hm
  refine ⟨fun hb => ?_, (k _).ok E (hn.2 _) y hm hL⟩
  obtain ⟨x, h1⟩ := Option.isSome_iff_exists.1 (h0 hb)
  have h3 : M.getD default = x := by rw [h1]; rfl
  rw [h3, E.hl]; exact hn.1 x h1⟩
@[reducible] def mv {α : Type} [Rw α] (d q : Nat) (xs : List α) (k : PT os β) (hq : Nat.ble (q + 1) os = true := by kernel_rfl) : PT os β :=
 ⟨.mv d q k.a, fun E => Ze9 (Zaa Rw.e xs) ∧ (q < os ∧ E.r.no (E.r.κ (0, q))) ∧ k.q E, k.m, k.n, fun E hn y hm hL =>
  ⟨Zmz _ _, ⟨Nat.le_of_ble_eq_true hq, by rw [E.g.no, E.g.κ]; exact E.co.W q (Nat.le_of_ble_eq_true hq)⟩, k.ok E hn y hm hL⟩⟩
end
section
variable {P : Program} {os os' : Nat} {ys : List AV} {bi : List Blk} {Θ : Cl} {γ : Type} {M : Option γ} {e : γ → AV} {bs : γ → List Blk} {C : Cx} {r : Ren} {y : γ}
theorem Zfh {f : FuncId} (K : KO P f os ys bi Θ M e bs) (hy : M = some y) (co : CO C os') (g : Gd C r) (cb cb0 : List (Key × Blk)) {hb : List (Key × Blk)} {H' : Hp} (hg : ∀ p ∈ hb, (H' (r.κ p.1)).g = r.γ p.1 + p.2.g ∧ (p.2.live = true → H' (r.κ p.1) = Za7 r p.1 p.2)) (hsub : ∀ p ∈ cb, p ∈ hb)
  {zs caps : List AV} (θ : Nat → AV) (hΘ : ∀ l' H'', Θ (fun k => k ∈ (cb.map (·.1)).map r.κ) l' H'' θ) (hBE : ∀ l H, BE (rOf l ((cb.map (·.1)).map r.κ) (ZuT r cb) θ H) r 0 bi cb) (hro : bs y = bi := by rfl) (hlv' : bi.all Blk.live = true := by kernel_rfl)
  (hx : ∀ l H, Zap (rOf l ((cb.map (·.1)).map r.κ) (ZuT r cb) θ H) ys = zs ++ caps := by intro l H; kernel_rfl) (hy2 : ∀ l H, ren (rOf l ((cb.map (·.1)).map r.κ) (ZuT r cb) θ H) (e y) = e y := by intro l H; kernel_rfl)
  (hk : (((cb ++ cb0).map (·.1)).all (okK os') && Zgc ((cb ++ cb0).map (·.1)) && Nat.beq cb.length os) = true := by kernel_rfl) : Ze5 P (C.l + 1) (fun k => k ∈ (cb0.map (·.1)).map r.κ) H' (.fn (.func f) [] caps) zs (e y) := by
 have hlv : ∀ b ∈ bi, b.live = true := fun b hb => List.all_eq_true.1 hlv' b hb
 refine ⟨f, [], caps, rfl, fun l' H'' hl ho => ?_⟩
 simp only [Bool.and_eq_true, List.map_append, List.all_append] at hk
 obtain ⟨⟨⟨k1, k2⟩, k3⟩, k4⟩ := hk
 have hnd := Zda (Zql co g) _ k3 (by rw [List.all_append, k1, k2]; rfl)
 rw [List.map_append, List.nodup_append] at hnd
 have hat : ∀ p ∈ cb, H'' (r.κ p.1) = H' (r.κ p.1) := fun p hp => by
  have hm : r.κ p.1 ∈ (cb.map (·.1)).map r.κ := List.mem_map_of_mem (List.mem_map_of_mem hp)
  exact ho _ (Zjg (Zh9 co g _ k1) _ hm) fun h => hnd.2.2 _ hm _ h rfl
 have hg2 : ∀ p ∈ cb, (H'' (r.κ p.1)).g = r.γ p.1 + p.2.g ∧ (p.2.live = true → H'' (r.κ p.1) = Za7 r p.1 p.2) := fun p hp => by rw [hat p hp]; exact hg p (hsub p hp)
 have hlow : ZyQ l' ((cb.map (·.1)).map r.κ) := by
  have := Zh9 co g (cb.map (·.1)) k1
  generalize (cb.map (·.1)).map r.κ = ks at this
  induction ks with
  | nil => trivial
  | cons k ks ih => exact ⟨Nat.le_trans this.1 hl, ih this.2⟩
 have := K.k l' H'' ((cb.map (fun p : Key × Blk => p.1)).map r.κ) (ZuT r cb) θ (by rw [List.length_map, List.length_map]; exact Nat.eq_of_beq_eq_true k4) hlow hnd.1
  (Zlp bi cb 0 bi (fun j => by have := Zgx bi 0 j; rwa [Nat.zero_add] at this ⊢) (hBE l' H'') hg2) (hΘ l' H'') y hy
 rw [List.nil_append, ← hx l' H'']
 refine this.mono fun z H3 ⟨e1, e2⟩ => ⟨e1.trans (hy2 l' H''), e2.trans ?_⟩
 rw [hro]
 exact Zfq bi cb 0 (hBE l' H'') hlv fun p hp hl => (hg2 p hp).2 hl
theorem Zqj {f : FuncId} {xs : List AV} (K : KC P f xs M e) (hy : M = some y) {l : Nat} {no : Key → Prop} {H : Hp} : Ze5 P l no H (.fn (.func f) [] []) xs (e y) := Ztq fun l' H' => K.k l' H' y hy
end
theorem ZaF {C : Cx} {r : Ren} {os' : Nat} {P : Program} {i : Nat} {xs : List AV} {y : AV} (co : CO C os') (g : Gd C r) (cb : List (Key × Blk)) {H' : Hp} (ho : ∀ k : Key, k.1 ≤ C.l → ¬ r.no k → H' k = r.H0 k) (h : Ze5 P C.l C.no C.H0 (C.θ i) xs y)
  (hk : ((cb.map (·.1)).all (okK os')) = true := by kernel_rfl) : Ze5 P (C.l + 1) (fun k => k ∈ (cb.map (·.1)).map r.κ) H' (r.θ i) xs y := by
 rw [g.θ]
 refine ZwU h (Nat.le_succ _) (fun q hq hn hm => ?_) fun q hq hn => ?_
 ·obtain ⟨k, hk', e⟩ := List.mem_map.1 hm
  rw [g.κ] at e
  obtain ⟨a, b⟩ := k
  rcases Zc4 (List.all_eq_true.1 hk _ hk') with h1 | ⟨h1, h2⟩
  ·simp only at h1; subst h1; rw [co.ok.own] at e; rw [← e] at hq; simp only at hq; omega
  ·simp only at h1 h2; subst h1; rw [← e] at hn; exact hn (co.W b h2)
 ·rw [← g.H]; exact ho q hq (by rw [g.no]; exact hn)
theorem ZoU {r r' : Ren} {k k' : Key} {g g' : Nat} {e : EK} {sz : Nat} {cs : List AV} (h : Zha cs) (hg : r.γ k + g = r'.γ k' + g') : Za7 r k ⟨g, true, e, sz, cs⟩ = Za7 r' k' ⟨g', true, e, sz, cs⟩ := by
 simp only [Za7, ZbQ h, hg]
section
variable {P : Program} {T : Nat → Option TI} {n : Nat} {C : Cx} {τ : St} {Q : Exit → St → Prop} {os k : Nat} {c : Code} {β : Type} {L : β → Prop} {y : β}
theorem ZbL (co : CO C os) (hT : TOk P T) (m : Nat) (v : PT os β) (lf : Lf) (hv : v.m = some y) (hL : HL L y) (hn : ∀ r (g : Gd C r), v.n ⟨⟨C.l, r, fun _ τ' => LO P n C c (k + m) τ' Q, fun _ _ => False⟩, L, C, co, g, rfl⟩)
  (hq : ∀ l r Q Post, Zc7 r os v.a τ (fun τ a => Zi8 P T l n r ((Zb7 c).toList.map (·.dst)) (Znh m (ZiP k (Zb7 c).toList)) [] a (fun τ' env a' => Zc7 r os a' (ZmD env τ') (fun τ _ => ZfS (ZhU os) lf τ (Q .normal))) τ) = v.q ⟨l, r, Q, Post⟩ := by intro l r Q P; kernel_rfl) : LO P n C c k τ Q :=
 ZFw co.ok hT co.O co.F m v.a lf (fun r Φ => v.q ⟨C.l, r, fun _ => Φ, fun _ _ => False⟩) (fun r Φ => hq _ r (fun _ => Φ) _) fun r h1 h2 h3 h4 => v.ok _ (hn r ⟨h1, h2, h3, h4⟩) y hv hL
theorem Zby (co : CO C os) (hT : TOk P T) (v : PT os β) (lf : Lf) (hv : v.m = some y) (hL : HL L y) (hn : ∀ r (g : Gd C r), v.n ⟨⟨C.l, r, Q, fun _ _ => False⟩, L, C, co, g, rfl⟩)
  (hq : ∀ l r Q Post, Zc7 r os v.a τ (fun τ a => Zi8 P T l n r ((Zb7 c).toList.map (·.dst)) (ZiP k (Zb7 c).toList) [] a (fun τ' env a' => Zc7 r os a' (ZmD env τ') (fun τ _ => ZfS (ZhU os) lf τ (Q .normal))) τ) = v.q ⟨l, r, Q, Post⟩ := by intro l r Q P; kernel_rfl) : LO P n C c k τ Q :=
 ZES co.ok hT co.O co.F v.a lf (fun r Q => v.q ⟨C.l, r, Q, fun _ _ => False⟩) (fun r Q => hq _ r Q _) fun r h1 h2 h3 h4 => v.ok _ (hn r ⟨h1, h2, h3, h4⟩) y hv hL
theorem ZaE {γ : Type} {M : Option γ} {kk : γ → Option β} {ss : List (Nat × AV)} {hs : List (Key × Blk)} (co : CO C os) (hm : M.bind kk = some y) (f : FuncId) (xs : List AV) (ks : List Key) (hb : List (Key × Blk)) (e : γ → AV) (hb2 : γ → List (Key × Blk)) (fl : List Key)
  (hwr : ∀ z, wrL C (hb2 z)) (hfl : flL (lkH hs) fl) (hcall : ∀ z, M = some z → ∀ r, Gd C r → ZiB P C.l r f xs hb (e z) (hb2 z) [])
  (h : ∀ z, kk z = some y → LO P n C c (k + 1) (mkS (Zus (Zm2 c k) (e z) (Zex [] ss)) (hb2 z ++ ZcW ((hb2 z).map (·.1)) [] fl hs)) Q)
  (hop : Zey c k = some (Zm2 c k, callF c k, ZsW c k) := by kernel_rfl) (hf : ev (lkS ss) (callF c k) = .fn (.func f) [] [] := by kernel_rfl) (hxs : [] ++ (ZsW c k).map (ev (lkS ss)) ++ [] = xs := by kernel_rfl) (hhb : (ks.map fun k => (k, lkH hs k)) = hb := by kernel_rfl)
  (hok : ∀ z, (ZjI os (hb2 z) && ZGv [] (hb2 z) && ZlL [] (ZhU os) && ZjL hs && ZqK n (Zm2 c k) && ks.all (okK os)) = true := by intro z; kernel_rfl) : LO P n C c k (mkS ss hs) Q := by
 obtain ⟨z, e1, e2⟩ := bind_some hm
 exact Zsn co.ok co.O co.F f [] [] xs hop hf hxs ks hb hhb (e z) (hb2 z) [] fl (hok z) (hwr z) hfl (fun r h1 h2 h3 h4 => hcall z e1 r ⟨h1, h2, h3, h4⟩) (h z e2)
theorem Zi4 (co : CO C os) (v : PT os β) (lf : Lf) (hv : v.m = some y) (hL : HL L y) (hn : ∀ r (g : Gd C r), v.n ⟨⟨C.l, r, fun _ τ' => LW P n C c τ' Q, fun _ _ => False⟩, L, C, co, g, rfl⟩)
  (hq : ∀ l r Q Post, Zc7 r os v.a τ (fun τ _ => ZfS (ZhU os) lf τ (Q .normal)) = v.q ⟨l, r, Q, Post⟩ := by intro l r Q P; kernel_rfl) : LW P n C c τ Q :=
 ZzV co.ok co.O co.F v.a lf (fun r Φ => v.q ⟨C.l, r, fun _ => Φ, fun _ _ => False⟩) (fun r Φ => hq _ r (fun _ => Φ) _) fun r h1 h2 h3 h4 => v.ok _ (hn r ⟨h1, h2, h3, h4⟩) y hv hL
theorem Zdn {q : Prop} [Decidable q] {m : Option β} {G : Prop} (hm : (if q then m else none) = some y) (h : q → m = some y → G) : G := h (Zar hm).1 (Zar hm).2
theorem rg {c : Code} (h : LO P n C c 0 τ Q) (hs : ZDA c = true := by kernel_rfl) : LW P n C c τ Q := ZmI hs h
end
end Go.Eng
