import Derived.Test.YthagpbkmakocjaaGreatCy12
namespace Go.Eng
set_option linter.all false
open Go Go.RowKit
def Zon : Nat → List Blk → List (Key × Blk)
 | _, [] => []
 | i, b :: bs => ((0, i), b) :: Zon (i + 1) bs
abbrev Cl := (Key → Prop) → Nat → Hp → (Nat → AV) → Prop
structure KO (P : Program) (f : FuncId) (os : Nat) (ys : List AV) (bi : List Blk) (Θ : Cl) {γ : Type} (M : Option γ) (e : γ → AV) (bs : γ → List Blk) : Prop where
 k : ∀ l H (ks : List Key) (gs : List Nat) (θ : Nat → AV), ks.length = os → ZxA l ks → ks.Nodup → HOk H (rOf l ks gs θ H) (Zon 0 bi) 0 ks → Θ (fun k => k ∈ ks) l H θ → ∀ y, M = some y →
  Zcw P f l (Zas (rOf l ks gs θ H) ys) H (fun z H' => z = ren (rOf l ks gs θ H) (e y) ∧ H' = Zkq H ks (ZdN (rOf l ks gs θ H) 0 (bs y)))
mutual
def kno (os : Nat) : AV → Bool
 | .ref k _ _ _ => Nat.beq k.1 0 && Nat.ble (k.2 + 1) os
 | .ptr k _ _ => Nat.beq k.1 0 && Nat.ble (k.2 + 1) os
 | .mp k _ => Nat.beq k.1 0 && Nat.ble (k.2 + 1) os
 | .fn f xs ys => (match f with | .yield _ => false | _ => true) && Zv3 os xs && Zv3 os ys
 | .agg xs => Zv3 os xs
 | .tup xs => Zv3 os xs
 | .top => true
 | .d _ => true
 | .e0 => true
 | .p _ => true
 | .iptr _ _ => true
def Zv3 (os : Nat) : List AV → Bool
 | [] => true
 | x :: xs => kno os x && Zv3 os xs
end
def Zpp (os : Nat) (r r' : Ren) : Prop := ∀ q, q < os → r.κ (0, q) = r'.κ (0, q) ∧ r.γ (0, q) = r'.γ (0, q)
theorem Zkt {os : Nat} {r r' : Ren} (hs : Zpp os r r') {k : Key} (h : (Nat.beq k.1 0 && Nat.ble (k.2 + 1) os) = true) : r.κ k = r'.κ k ∧ r.γ k = r'.γ k := by
 simp only [Bool.and_eq_true] at h
 obtain ⟨a, b⟩ := k
 have h1 := Nat.eq_of_beq_eq_true h.1
 have h2 := Nat.le_of_ble_eq_true h.2
 simp only at h1 h2
 subst h1
 exact hs b h2
mutual
theorem Zqu {os : Nat} {r r' : Ren} (hs : Zpp os r r') : ∀ x : AV, kno os x = true → ren r x = ren r' x
 | .ref k g off n, h => by obtain ⟨e1, e2⟩ := Zkt hs h; simp only [ren, e1, e2]
 | .ptr k g off, h => by obtain ⟨e1, e2⟩ := Zkt hs h; simp only [ren, e1, e2]
 | .mp k g, h => by obtain ⟨e1, e2⟩ := Zkt hs h; simp only [ren, e1, e2]
 | .fn f xs ys, h => by
  simp only [kno, Bool.and_eq_true] at h
  have e1 := Zei hs xs h.1.2
  have e2 := Zei hs ys h.2
  cases f <;> first | (simp only [ren, e1, e2]; done) | (simp at h)
 | .agg xs, h => by simp only [kno] at h; simp only [ren, Zei hs xs h]
 | .tup xs, h => by simp only [kno] at h; simp only [ren, Zei hs xs h]
 | .top, _ => by simp [ren]
 | .d _, _ => by simp [ren]
 | .e0, _ => by simp [ren]
 | .p _, _ => by simp [ren]
 | .iptr _ _, _ => by simp [ren]
theorem Zei {os : Nat} {r r' : Ren} (hs : Zpp os r r') : ∀ xs : List AV, Zv3 os xs = true → Zas r xs = Zas r' xs
 | [], _ => by simp [Zas]
 | x :: xs, h => by
  simp only [Zv3, Bool.and_eq_true] at h
  simp only [Zas, Zqu hs x h.1, Zei hs xs h.2]
end
def Zrs (os : Nat) : List Blk → Prop
 | [] => True
 | b :: bs => (ZjZ b.cells ∨ Zv3 os b.cells = true) ∧ b.live = true ∧ Zrs os bs
theorem Zrs.ren {os : Nat} {r r' : Ren} (hs : Zpp os r r') : ∀ (bs : List Blk) (i : Nat), i + bs.length ≤ os → Zrs os bs → ZdN r i bs = ZdN r' i bs
 | [], _, _, _ => rfl
 | b :: bs, i, hl, h => by
  simp only [List.length_cons] at hl
  have e1 : Zas r b.cells = Zas r' b.cells := by
   rcases h.1 with hf | hk
   ·rw [Zct hf, Zct hf]
   ·exact Zei hs _ hk
  simp only [ZdN, Zrs.ren hs bs (i + 1) (by omega) h.2.2, ZbG, e1, (hs i (by omega)).2]
theorem Zrs.live {os : Nat} : ∀ {bs : List Blk}, Zrs os bs → ∀ b ∈ bs, b.live = true
 | c :: bs, h, b, hb => by
  rcases List.mem_cons.1 hb with rfl | hb
  ·exact h.2.1
  ·exact Zrs.live h.2.2 b hb
theorem ko1 {P : Program} {T : Nat → Option TI} {n : Nat} {f : FuncId} {fn : Func} {ys : List AV} {bi : List Blk} {Θ : Cl} {γ : Type} {M : Option γ} {e : γ → AV} {bs : γ → List Blk} (hf : P.funcs[f]? = some fn) (hn : fn.ntmps = n) (hT : TOk P T) (rs : List ResultVar) (os : Nat)
  (h : ∀ C : Cx, CO C os → Θ C.no C.l C.H0 C.θ → ∀ y, M = some y → ∀ Post : AV → List Blk → Prop, HL (fun y => Post (e y) (bs y)) y → LW P n C (pa [] (Zaf fn)) (mkS (Zm1 0 ys) (Zon 0 bi)) (FQ T rs os Post))
  (he : ∀ y, kno os (e y) = true := by intro y; kernel_rfl) (hB : ∀ y, Zrs os (bs y) := by intro y; exact trivial) (hl : ∀ y, (bs y).length = os := by intro y; rfl) (hin : ZBQ os (Zon 0 bi) = true := by kernel_rfl)
  (hb : fn.body = some (Zaf fn) := by kernel_rfl) (hname : (fn.name == "runtime.NumGoroutine") = false := by kernel_rfl) (hr : fn.results.toList = rs := by kernel_rfl) (hx : Nat.ble ys.length n = true := by kernel_rfl) : KO P f os ys bi Θ M e bs :=
 ⟨fun l H ks gs θ hks hlow hnd hH hΘ y hy => by
  have hN : ∀ r, NmO l ks gs r → Zpp os r (rOf l ks gs θ H) := fun r hr q hq => by
   obtain ⟨h1, h2⟩ := hr
   exact ⟨congrFun h1 _, h2 q (by omega)⟩
  refine ZkL rs (Zaf fn) ks gs os θ ys (Zon 0 bi) (e y) (bs y) (Y' := ren (rOf l ks gs θ H) (e y)) (bs' := ZdN (rOf l ks gs θ H) 0 (bs y)) hf hb hname hn hr (by rw [Za2]; exact Nat.le_of_ble_eq_true hx) hT hks hlow hnd hin hH rfl (hl y) (hB y).live
   (fun r hr => Zqu (hN r hr) _ (he y)) (fun r hr => Zrs.ren (hN r hr) _ _ (by rw [hl]; omega) (hB y)) (fun C hC hO hF hl' hH0 hθ hκ hno => ?_) ⟨rfl, rfl⟩
  refine h C ⟨hC, hO, hF, fun q hq => ?_⟩ (by rw [hno, hl', hH0, hθ]; exact hΘ) y hy (fun z b => z = e y ∧ b = bs y) ⟨rfl, rfl⟩
  rw [hno, hκ]
  show (match nth ks q with | some k => k | none => (0, 0)) ∈ ks
  rw [Zb1, List.getElem?_eq_getElem (by omega)]
  exact List.getElem_mem _⟩
def Zvi (r : Ren) : List (Key × Blk) → List Nat
 | [] => []
 | (k, b) :: r' => (r.γ k + b.g) :: Zvi r r'
def BE (r r' : Ren) : Nat → List Blk → List (Key × Blk) → Prop
 | i, b :: bs, (k, c) :: cs => (b.live = true → c.live = true ∧ ZbG r (0, i) b = ZbG r' k c) ∧ r.γ (0, i) + b.g = r'.γ k + c.g ∧ BE r r' (i + 1) bs cs
 | _, [], [] => True
 | _, _, _ => False
def ZhG : List Key → Bool
 | [] => true
 | k :: ks => !(ks.any (Zeu k)) && ZhG ks
theorem Zem {κ : Key → Key} {os : Nat} (hinj : ∀ q k : Key, okK os q = true → okK os k = true → q ≠ k → κ q ≠ κ k) : ∀ (ks : List Key), ZhG ks = true → ks.all (okK os) = true → (ks.map κ).Nodup
 | [], _, _ => List.nodup_nil
 | k :: ks, h, ho => by
  simp only [ZhG, Bool.and_eq_true, Bool.not_eq_true'] at h
  simp only [List.all_cons, Bool.and_eq_true] at ho
  rw [List.map_cons, List.nodup_cons]
  refine ⟨fun hm => ?_, Zem hinj ks h.2 ho.2⟩
  obtain ⟨q, hq, e⟩ := List.mem_map.1 hm
  have hne : q ≠ k := fun e' => ZiC h.1 (e' ▸ hq)
  exact hinj q k (List.all_eq_true.1 ho.2 q hq) ho.1 hne e
section
variable {P : Program} {f : FuncId} {os os' : Nat} {ys : List AV} {bi : List Blk} {Θ : Cl} {γ : Type} {M : Option γ} {e : γ → AV} {bs : γ → List Blk} {C : Cx} {r : Ren} {xs : List AV} {x : AV} {y : γ}
theorem ZpP (co : CO C os') (g : Gd C r) : ∀ q k : Key, okK os' q = true → okK os' k = true → q ≠ k → r.κ q ≠ r.κ k := by
 intro q k hq hk hne he
 rw [g.κ] at he
 rcases ZdZ hq with h1 | ⟨h1, h2⟩ <;> rcases ZdZ hk with j1 | ⟨j1, j2⟩
 ·obtain ⟨a, b⟩ := q
  obtain ⟨c, d⟩ := k
  simp only at h1 j1
  subst h1; subst j1
  rw [co.ok.own, co.ok.own] at he
  simp only [Prod.mk.injEq, true_and] at he
  exact hne (by rw [he])
 ·obtain ⟨a, b⟩ := q
  obtain ⟨c, d⟩ := k
  simp only at h1 j1 j2
  subst h1; subst j1
  rw [co.ok.own] at he
  have := co.ok.out d (by rw [co.O]; exact j2)
  rw [← he] at this
  simp only at this
  omega
 ·obtain ⟨a, b⟩ := q
  obtain ⟨c, d⟩ := k
  simp only at h1 h2 j1
  subst h1; subst j1
  rw [co.ok.own] at he
  have := co.ok.out b (by rw [co.O]; exact h2)
  rw [he] at this
  simp only at this
  omega
 ·obtain ⟨a, b⟩ := q
  obtain ⟨c, d⟩ := k
  simp only at h1 h2 j1 j2
  subst h1; subst j1
  have := co.ok.inj b d (by rw [co.O]; exact h2) (by rw [co.O]; exact j2) he
  exact hne (by rw [this])
theorem ZjK (co : CO C os') (g : Gd C r) : ∀ (ks : List Key), ks.all (okK os') = true → ZxA (C.l + 1) (ks.map r.κ)
 | [], _ => trivial
 | k :: ks, h => by
  simp only [List.all_cons, Bool.and_eq_true] at h
  refine ⟨?_, ZjK co g ks h.2⟩
  rw [g.κ]
  obtain ⟨a, b⟩ := k
  rcases ZdZ h.1 with h1 | ⟨h1, h2⟩
  ·simp only at h1; subst h1; rw [co.ok.own]; exact Nat.le_refl _
  ·simp only at h1 h2; subst h1; exact Nat.le_succ_of_le (co.ok.out b (by rw [co.O]; exact h2))
theorem Zik : ∀ (bi : List Blk) (i j : Nat), lkH (Zon i bi) (0, i + j) = (bi[j]?).getD Zom
 | [], i, j => by simp [Zon, lkH]
 | b :: bi, i, 0 => by simp [Zon, lkH, Zeu]
 | b :: bi, i, j + 1 => by
  have ih := Zik bi (i + 1) j
  simp only [Zon, lkH]
  have : Zeu (0, i) (0, i + (j + 1)) = false := by
   simp only [Zeu, Bool.and_eq_false_iff]
   right
   cases h : Nat.beq i (i + (j + 1)) with
   | false => rfl
   | true => have := Nat.eq_of_beq_eq_true h; omega
  rw [show Zeu (0, i) (0, i + (j + 1)) = false from this]
  rw [show i + (j + 1) = i + 1 + j from by omega, ih]
  simp
theorem Zmr {r' : Ren} {H' : Hp} : ∀ (bi : List Blk) (cb : List (Key × Blk)) (i : Nat) (B : List Blk), (∀ j, lkH (Zon 0 B) (0, i + j) = (bi[j]?).getD Zom) → BE r' r i bi cb →
  (∀ p ∈ cb, (H' (r.κ p.1)).g = r.γ p.1 + p.2.g ∧ (p.2.live = true → H' (r.κ p.1) = ZbG r p.1 p.2)) → HOk H' r' (Zon 0 B) i ((cb.map (·.1)).map r.κ)
 | [], [], i, B, _, _, _ => trivial
 | b :: bi, (k, c) :: cb, i, B, hB, h, hH => by
  have h0 := hB 0
  simp only [List.getElem?_cons_zero, Option.getD_some, Nat.add_zero] at h0
  obtain ⟨h1, h2, h3⟩ := h
  refine ⟨?_, Zmr bi cb (i + 1) B (fun j => ?_) h3 fun p hp => hH p (List.mem_cons_of_mem _ hp)⟩
  ·rw [h0]
   have hc := hH _ (List.mem_cons_self ..)
   exact ⟨by rw [h2]; exact hc.1, fun hl => (hc.2 (h1 hl).1).trans (h1 hl).2.symm⟩
  ·have := hB (j + 1)
   rw [List.getElem?_cons_succ] at this
   rw [show i + 1 + j = i + (j + 1) from by omega]; exact this
 | [], _ :: _, _, _, _, h, _ => h.elim
 | _ :: _, [], _, _, _, h, _ => h.elim
theorem Zrc {H : Hp} {k : Key} : updH H k (H k) = H := by
 funext q
 by_cases h : q = k
 ·subst h; exact Zab ..
 ·exact Zae _ _ h
theorem ZfS {r' : Ren} {H' : Hp} : ∀ (bi : List Blk) (cb : List (Key × Blk)) (i : Nat), BE r' r i bi cb → (∀ b ∈ bi, b.live = true) → (∀ p ∈ cb, p.2.live = true → H' (r.κ p.1) = ZbG r p.1 p.2) → Zkq H' ((cb.map (·.1)).map r.κ) (ZdN r' i bi) = H'
 | [], [], _, _, _, _ => rfl
 | b :: bi, (k, c) :: cb, i, h, hl, hH => by
  obtain ⟨h1, h2, h3⟩ := h
  have e := h1 (hl b (List.mem_cons_self ..))
  have e2 := hH _ (List.mem_cons_self ..) e.1
  simp only [List.map_cons, Zkq, ZdN]
  rw [e.2, ← e2, Zrc]
  exact ZfS bi cb (i + 1) h3 (fun b hb => hl b (List.mem_cons_of_mem _ hb)) fun p hp => hH p (List.mem_cons_of_mem _ hp)
 | [], _ :: _, _, h, _, _ => h.elim
 | _ :: _, [], _, h, _, _ => h.elim
theorem Zk5 {r' : Ren} : ∀ (bo : List Blk) (cb cb2 : List (Key × Blk)) (i : Nat) (H' : Hp), BE r' r i bo cb2 → (∀ b ∈ bo, b.live = true) → cb.map (·.1) = cb2.map (·.1) → Zkq H' ((cb.map (·.1)).map r.κ) (ZdN r' i bo) = ZdH r cb2 H'
 | [], [], [], _, _, _, _, _ => rfl
 | [], _ :: _, [], _, _, _, _, h => by cases h
 | b :: bo, [], _ :: _, _, _, _, _, h => by cases h
 | b :: bo, (k, c) :: cb, (k2, c2) :: cb2, i, H', h, hl, he => by
  obtain ⟨h1, h2, h3⟩ := h
  simp only [List.map_cons, List.cons.injEq] at he
  obtain ⟨rfl, he⟩ := he
  have e := h1 (hl b (List.mem_cons_self ..))
  simp only [List.map_cons, Zkq, ZdN, ZdH]
  rw [e.2]
  exact Zk5 bo cb cb2 (i + 1) _ h3 (fun b hb => hl b (List.mem_cons_of_mem _ hb)) he
 | _ :: _, _, [], _, _, h, _, _ => h.elim
 | [], _, _ :: _, _, _, h, _, _ => h.elim
def rC (C : Cx) (r : Ren) (cb : List (Key × Blk)) (θ : Nat → AV) (H : Hp) : Ren := rOf (C.l + 1) ((cb.map (·.1)).map r.κ) (Zvi r cb) θ H
def Th (Θ : Cl) (C : Cx) (r : Ren) (cb hb : List (Key × Blk)) (θ : Nat → AV) : Prop :=
 ∀ H', (∀ p ∈ hb, (H' (r.κ p.1)).g = r.γ p.1 + p.2.g ∧ (p.2.live = true → H' (r.κ p.1) = ZbG r p.1 p.2)) → (∀ k : Key, k.1 ≤ C.l → ¬ r.no k → H' k = r.H0 k) → Θ (fun k => k ∈ (cb.map (·.1)).map r.κ) (C.l + 1) H' θ
theorem ZaG (K : KO P f os ys bi Θ M e bs) (hy : M = some y) (co : CO C os') (g : Gd C r) (cb cc : List (Key × Blk)) (θ : Nat → AV) (hΘ : Th Θ C r cb (cb ++ cc) θ) (hBE : ∀ H, BE (rC C r cb θ H) r 0 bi cb) (hro : bs y = bi := by rfl) (hlv' : bi.all Blk.live = true := by kernel_rfl) (hlv2' : (cb ++ cc).all (fun p => p.2.live) = true := by kernel_rfl) (hx : ∀ H, Zas (rC C r cb θ H) ys = Zas r xs := by intro H; kernel_rfl) (hy2 : ∀ H, ren (rC C r cb θ H) (e y) = ren r x := by intro H; kernel_rfl)
  (hk : ((cb.map (·.1)).all (okK os') && ZhG (cb.map (·.1)) && Nat.beq cb.length os) = true := by kernel_rfl) : Zie P C.l r f xs (cb ++ cc) x := by
 intro H' h1 h2
 have hlv : ∀ b ∈ bi, b.live = true := fun b hb => List.all_eq_true.1 hlv' b hb
 have hlv2 : ∀ p ∈ cb ++ cc, p.2.live = true := fun p hp => List.all_eq_true.1 hlv2' p hp
 have hsub : ∀ p ∈ cb, p ∈ cb ++ cc := fun p hp => List.mem_append_left _ hp
 simp only [Bool.and_eq_true] at hk
 have hg : ∀ p ∈ cb ++ cc, (H' (r.κ p.1)).g = r.γ p.1 + p.2.g ∧ (p.2.live = true → H' (r.κ p.1) = ZbG r p.1 p.2) := fun p hp => ⟨by rw [h1 p hp (hlv2 p hp)]; rfl, h1 p hp⟩
 have := K.k (C.l + 1) H' ((cb.map (fun p : Key × Blk => p.1)).map r.κ) (Zvi r cb) θ (by rw [List.length_map, List.length_map]; exact Nat.eq_of_beq_eq_true hk.2) (ZjK co g _ hk.1.1) (Zem (ZpP co g) _ hk.1.2 hk.1.1)
  (Zmr bi cb 0 bi (fun j => by have := Zik bi 0 j; rwa [Nat.zero_add] at this ⊢) (hBE H') fun p hp => hg p (hsub p hp)) (hΘ H' hg h2) y hy
 rw [← hx H']
 refine this.mono fun z H'' ⟨e1, e2⟩ => ⟨e1.trans (hy2 H'), e2.trans ?_⟩
 rw [hro]
 exact ZfS bi cb 0 (hBE H') hlv fun p hp hl => (hg p (hsub p hp)).2 hl
theorem Zai (K : KO P f os ys bi Θ M e bs) (hy : M = some y) (co : CO C os') (g : Gd C r) (cb cc cb2 : List (Key × Blk)) (θ : Nat → AV) (hΘ : Th Θ C r cb (cb ++ cc) θ)
  (hBE : ∀ H, BE (rC C r cb θ H) r 0 bi cb) (hBE2 : ∀ H, BE (rC C r cb θ H) r 0 (bs y) cb2) (hlv' : (bs y).all Blk.live = true := by kernel_rfl) (hx : ∀ H, Zas (rC C r cb θ H) ys = Zas r xs := by intro H; kernel_rfl) (hy2 : ∀ H, ren (rC C r cb θ H) (e y) = ren r x := by intro H; kernel_rfl)
  (hk : ((cb.map (·.1)).all (okK os') && ZhG (cb.map (·.1)) && Nat.beq cb.length os) = true := by kernel_rfl) (he : cb.map (·.1) = cb2.map (·.1) := by rfl) : Zjk P C.l r f xs (cb ++ cc) x cb2 [] := by
 have hlv : ∀ b ∈ bs y, b.live = true := fun b hb => List.all_eq_true.1 hlv' b hb
 have hsub : ∀ p ∈ cb, p ∈ cb ++ cc := fun p hp => List.mem_append_left _ hp
 refine Zud rfl rfl fun H' hg h2 => ?_
 simp only [Bool.and_eq_true] at hk
 have := K.k (C.l + 1) H' ((cb.map (fun p : Key × Blk => p.1)).map r.κ) (Zvi r cb) θ (by rw [List.length_map, List.length_map]; exact Nat.eq_of_beq_eq_true hk.2) (ZjK co g _ hk.1.1) (Zem (ZpP co g) _ hk.1.2 hk.1.1)
  (Zmr bi cb 0 bi (fun j => by have := Zik bi 0 j; rwa [Nat.zero_add] at this ⊢) (hBE H') fun p hp => hg p (hsub p hp)) (hΘ H' hg h2) y hy
 rw [← hx H']
 exact this.mono fun z H'' ⟨e1, e2⟩ => ⟨e1.trans (hy2 H'), e2.trans (Zk5 (bs y) cb cb2 0 H' (hBE2 H') hlv he)⟩
end
structure CloM (P : Program) (C : Cx) (i : Nat) (xs : List AV) {γ : Type} (M : Option γ) (e : γ → AV) : Prop where
 k : ∀ y, M = some y → ZfO P C.l C.no C.H0 (C.θ i) xs (e y)
 x : ∀ r, Zas r xs = xs
 e : ∀ r y, ren r (e y) = e y
section
variable {os : Nat} {β γ : Type} [Inhabited γ]
theorem CloM.callF {P : Program} {i : Nat} {xs : List AV} {M : Option γ} {e : γ → AV} (E : Ev os β) (h : CloM P E.C i xs M e) {y : γ} (hy : M = some y) : ZnO P E.E.l E.E.r i xs [] (e y) :=
 ZsP (congrFun E.g.θ i) (by rw [E.hl, E.g.no, E.g.H]; exact h.k y hy) (h.x _) (h.e _ _)
@[reducible] def cf (P : Program) (i : Nat) (xs : List AV) (M : Option γ) (e : γ → AV) (k : γ → PT os β) : PT os β :=
 ⟨.call (e (M.getD default)) [] (k (M.getD default)).a, fun E => ZnO P E.l E.r i xs [] (e (M.getD default)) ∧ (k (M.getD default)).q E, M.bind fun y => (k y).m, fun E => CloM P E.C i xs M e ∧ ∀ y, (k y).n E, fun E hn y hm hL => by
  obtain ⟨x, h1, h2⟩ := bind_some hm
  have h3 : M.getD default = x := by rw [h1]; rfl
  rw [h3]
  exact ⟨hn.1.callF E h1, (k x).ok E (hn.2 x) y h2 hL⟩⟩
@[reducible] def cfg (b : Bool) (P : Program) (i : Nat) (xs : List AV) (M : Option γ) (e : γ → AV) (k : γ → PT os β) : PT os β :=
 ⟨.call (e (M.getD default)) [] (k (M.getD default)).a, fun E => (b = true → ZnO P E.l E.r i xs [] (e (M.getD default))) ∧ (k (M.getD default)).q E, if (b = true → M.isSome = true) then (k (M.getD default)).m else none, fun E => CloM P E.C i xs M e ∧ ∀ y, (k y).n E, fun E hn y hm hL => by
  obtain ⟨h0, hm⟩ := Zax hm
  refine ⟨fun hb => ?_, (k _).ok E (hn.2 _) y hm hL⟩
  obtain ⟨x, h1⟩ := Option.isSome_iff_exists.1 (h0 hb)
  have h3 : M.getD default = x := by rw [h1]; rfl
  rw [h3]; exact hn.1.callF E h1⟩
@[reducible] def cs (P : Program) (f : FuncId) (xs : List AV) (ks : List Key) (hb : List (Key × Blk)) (M : Option γ) (e : γ → AV) (k : γ → PT os β) : PT os β :=
 ⟨.call (e (M.getD default)) ks (k (M.getD default)).a, fun E => Zie P E.l E.r f xs hb (e (M.getD default)) ∧ (k (M.getD default)).q E, M.bind fun y => (k y).m, fun E => (∀ y, M = some y → Zie P E.C.l E.E.r f xs hb (e y)) ∧ ∀ y, (k y).n E, fun E hn y hm hL => by
  obtain ⟨x, h1, h2⟩ := bind_some hm
  have h3 : M.getD default = x := by rw [h1]; rfl
  rw [h3]
  exact ⟨by rw [E.hl]; exact hn.1 x h1, (k x).ok E (hn.2 x) y h2 hL⟩⟩
@[reducible] def csg (b : Bool) (P : Program) (f : FuncId) (xs : List AV) (ks : List Key) (hb : List (Key × Blk)) (M : Option γ) (e : γ → AV) (k : γ → PT os β) : PT os β :=
 ⟨.call (e (M.getD default)) ks (k (M.getD default)).a, fun E => (b = true → Zie P E.l E.r f xs hb (e (M.getD default))) ∧ (k (M.getD default)).q E, if (b = true → M.isSome = true) then (k (M.getD default)).m else none, fun E => (∀ y, M = some y → Zie P E.C.l E.E.r f xs hb (e y)) ∧ ∀ y, (k y).n E, fun E hn y hm hL => by
  obtain ⟨h0, hm⟩ := Zax hm
  refine ⟨fun hb => ?_, (k _).ok E (hn.2 _) y hm hL⟩
  obtain ⟨x, h1⟩ := Option.isSome_iff_exists.1 (h0 hb)
  have h3 : M.getD default = x := by rw [h1]; rfl
  rw [h3, E.hl]; exact hn.1 x h1⟩
@[reducible] def mv {α : Type} [Rw α] (d q : Nat) (xs : List α) (k : PT os β) (hq : Nat.ble (q + 1) os = true := by kernel_rfl) : PT os β :=
 ⟨.mv d q k.a, fun E => Zhb (Zaa Rw.e xs) ∧ (q < os ∧ E.r.no (E.r.κ (0, q))) ∧ k.q E, k.m, k.n, fun E hn y hm hL =>
  ⟨Zm2 _ _, ⟨Nat.le_of_ble_eq_true hq, by rw [E.g.no, E.g.κ]; exact E.co.W q (Nat.le_of_ble_eq_true hq)⟩, k.ok E hn y hm hL⟩⟩
end
section
variable {P : Program} {os os' : Nat} {ys : List AV} {bi : List Blk} {Θ : Cl} {γ : Type} {M : Option γ} {e : γ → AV} {bs : γ → List Blk} {C : Cx} {r : Ren} {y : γ}
theorem ZgP {f : FuncId} (K : KO P f os ys bi Θ M e bs) (hy : M = some y) (co : CO C os') (g : Gd C r) (cb cb0 : List (Key × Blk)) {hb : List (Key × Blk)} {H' : Hp} (hg : ∀ p ∈ hb, (H' (r.κ p.1)).g = r.γ p.1 + p.2.g ∧ (p.2.live = true → H' (r.κ p.1) = ZbG r p.1 p.2)) (hsub : ∀ p ∈ cb, p ∈ hb)
  {zs caps : List AV} (θ : Nat → AV) (hΘ : ∀ l' H'', Θ (fun k => k ∈ (cb.map (·.1)).map r.κ) l' H'' θ) (hBE : ∀ l H, BE (rOf l ((cb.map (·.1)).map r.κ) (Zvi r cb) θ H) r 0 bi cb) (hro : bs y = bi := by rfl) (hlv' : bi.all Blk.live = true := by kernel_rfl)
  (hx : ∀ l H, Zas (rOf l ((cb.map (·.1)).map r.κ) (Zvi r cb) θ H) ys = zs ++ caps := by intro l H; kernel_rfl) (hy2 : ∀ l H, ren (rOf l ((cb.map (·.1)).map r.κ) (Zvi r cb) θ H) (e y) = e y := by intro l H; kernel_rfl)
  (hk : (((cb ++ cb0).map (·.1)).all (okK os') && ZhG ((cb ++ cb0).map (·.1)) && Nat.beq cb.length os) = true := by kernel_rfl) : ZfO P (C.l + 1) (fun k => k ∈ (cb0.map (·.1)).map r.κ) H' (.fn (.func f) [] caps) zs (e y) := by
 have hlv : ∀ b ∈ bi, b.live = true := fun b hb => List.all_eq_true.1 hlv' b hb
 refine ⟨f, [], caps, rfl, fun l' H'' hl ho => ?_⟩
 simp only [Bool.and_eq_true, List.map_append, List.all_append] at hk
 obtain ⟨⟨⟨k1, k2⟩, k3⟩, k4⟩ := hk
 have hnd := Zem (ZpP co g) _ k3 (by rw [List.all_append, k1, k2]; rfl)
 rw [List.map_append, List.nodup_append] at hnd
 have hat : ∀ p ∈ cb, H'' (r.κ p.1) = H' (r.κ p.1) := fun p hp => by
  have hm : r.κ p.1 ∈ (cb.map (·.1)).map r.κ := List.mem_map_of_mem (List.mem_map_of_mem hp)
  exact ho _ (Zku (ZjK co g _ k1) _ hm) fun h => hnd.2.2 _ hm _ h rfl
 have hg2 : ∀ p ∈ cb, (H'' (r.κ p.1)).g = r.γ p.1 + p.2.g ∧ (p.2.live = true → H'' (r.κ p.1) = ZbG r p.1 p.2) := fun p hp => by rw [hat p hp]; exact hg p (hsub p hp)
 have hlow : ZxA l' ((cb.map (·.1)).map r.κ) := by
  have := ZjK co g (cb.map (·.1)) k1
  generalize (cb.map (·.1)).map r.κ = ks at this
  induction ks with
  | nil => trivial
  | cons k ks ih => exact ⟨Nat.le_trans this.1 hl, ih this.2⟩
 have := K.k l' H'' ((cb.map (fun p : Key × Blk => p.1)).map r.κ) (Zvi r cb) θ (by rw [List.length_map, List.length_map]; exact Nat.eq_of_beq_eq_true k4) hlow hnd.1
  (Zmr bi cb 0 bi (fun j => by have := Zik bi 0 j; rwa [Nat.zero_add] at this ⊢) (hBE l' H'') hg2) (hΘ l' H'') y hy
 rw [List.nil_append, ← hx l' H'']
 refine this.mono fun z H3 ⟨e1, e2⟩ => ⟨e1.trans (hy2 l' H''), e2.trans ?_⟩
 rw [hro]
 exact ZfS bi cb 0 (hBE l' H'') hlv fun p hp hl => (hg2 p hp).2 hl
theorem Zgk {f : FuncId} {xs : List AV} (K : KC P f xs M e) (hy : M = some y) {l : Nat} {no : Key → Prop} {H : Hp} : ZfO P l no H (.fn (.func f) [] []) xs (e y) := ZuO fun l' H' => K.k l' H' y hy
end
theorem ZaV {C : Cx} {r : Ren} {os' : Nat} {P : Program} {i : Nat} {xs : List AV} {y : AV} (co : CO C os') (g : Gd C r) (cb : List (Key × Blk)) {H' : Hp} (ho : ∀ k : Key, k.1 ≤ C.l → ¬ r.no k → H' k = r.H0 k) (h : ZfO P C.l C.no C.H0 (C.θ i) xs y)
  (hk : ((cb.map (·.1)).all (okK os')) = true := by kernel_rfl) : ZfO P (C.l + 1) (fun k => k ∈ (cb.map (·.1)).map r.κ) H' (r.θ i) xs y := by
 rw [g.θ]
 refine ZA3 h (Nat.le_succ _) (fun q hq hn hm => ?_) fun q hq hn => ?_
 ·obtain ⟨k, hk', e⟩ := List.mem_map.1 hm
  rw [g.κ] at e
  obtain ⟨a, b⟩ := k
  rcases ZdZ (List.all_eq_true.1 hk _ hk') with h1 | ⟨h1, h2⟩
  ·simp only at h1; subst h1; rw [co.ok.own] at e; rw [← e] at hq; simp only at hq; omega
  ·simp only at h1 h2; subst h1; rw [← e] at hn; exact hn (co.W b h2)
 ·rw [← g.H]; exact ho q hq (by rw [g.no]; exact hn)
theorem ZyV {r r' : Ren} {k k' : Key} {g g' : Nat} {e : EK} {sz : Nat} {cs : List AV} (h : ZjZ cs) (hg : r.γ k + g = r'.γ k' + g') : ZbG r k ⟨g, true, e, sz, cs⟩ = ZbG r' k' ⟨g', true, e, sz, cs⟩ := by
 simp only [ZbG, Zct h, hg]
section
variable {P : Program} {T : Nat → Option TI} {n : Nat} {C : Cx} {τ : St} {Q : Exit → St → Prop} {os k : Nat} {c : Code} {β : Type} {L : β → Prop} {y : β}
theorem Zb8 (co : CO C os) (hT : TOk P T) (m : Nat) (v : PT os β) (lf : Lf) (hv : v.m = some y) (hL : HL L y) (hn : ∀ r (g : Gd C r), v.n ⟨⟨C.l, r, fun _ τ' => LO P n C c (k + m) τ' Q, fun _ _ => False⟩, L, C, co, g, rfl⟩)
  (hq : ∀ l r Q Post, Zd6 r os v.a τ (fun τ a => Zkd P T l n r ((Zc2 c).toList.map (·.dst)) (ZmG m (Zjb k (Zc2 c).toList)) [] a (fun τ' env a' => Zd6 r os a' (ZmF env τ') (fun τ _ => Zhq (ZiP os) lf τ (Q .normal))) τ) = v.q ⟨l, r, Q, Post⟩ := by intro l r Q P; kernel_rfl) : LO P n C c k τ Q :=
 ZD0 co.ok hT co.O co.F m v.a lf (fun r Φ => v.q ⟨C.l, r, fun _ => Φ, fun _ _ => False⟩) (fun r Φ => hq _ r (fun _ => Φ) _) fun r h1 h2 h3 h4 => v.ok _ (hn r ⟨h1, h2, h3, h4⟩) y hv hL
theorem Zca (co : CO C os) (hT : TOk P T) (v : PT os β) (lf : Lf) (hv : v.m = some y) (hL : HL L y) (hn : ∀ r (g : Gd C r), v.n ⟨⟨C.l, r, Q, fun _ _ => False⟩, L, C, co, g, rfl⟩)
  (hq : ∀ l r Q Post, Zd6 r os v.a τ (fun τ a => Zkd P T l n r ((Zc2 c).toList.map (·.dst)) (Zjb k (Zc2 c).toList) [] a (fun τ' env a' => Zd6 r os a' (ZmF env τ') (fun τ _ => Zhq (ZiP os) lf τ (Q .normal))) τ) = v.q ⟨l, r, Q, Post⟩ := by intro l r Q P; kernel_rfl) : LO P n C c k τ Q :=
 ZHB co.ok hT co.O co.F v.a lf (fun r Q => v.q ⟨C.l, r, Q, fun _ _ => False⟩) (fun r Q => hq _ r Q _) fun r h1 h2 h3 h4 => v.ok _ (hn r ⟨h1, h2, h3, h4⟩) y hv hL
theorem ZaJ {γ : Type} {M : Option γ} {kk : γ → Option β} {ss : List (Nat × AV)} {hs : List (Key × Blk)} (co : CO C os) (hm : M.bind kk = some y) (f : FuncId) (xs : List AV) (ks : List Key) (hb : List (Key × Blk)) (e : γ → AV) (hb2 : γ → List (Key × Blk)) (fl : List Key)
  (hwr : ∀ z, wrL C (hb2 z)) (hfl : flL (lkH hs) fl) (hcall : ∀ z, M = some z → ∀ r, Gd C r → Zjk P C.l r f xs hb (e z) (hb2 z) [])
  (h : ∀ z, kk z = some y → LO P n C c (k + 1) (mkS (Zwx (ZnX c k) (e z) (Zfe [] ss)) (hb2 z ++ ZdO ((hb2 z).map (·.1)) [] fl hs)) Q)
  (hop : Zfq c k = some (ZnX c k, callF c k, ZuR c k) := by kernel_rfl) (hf : ev (lkS ss) (callF c k) = .fn (.func f) [] [] := by kernel_rfl) (hxs : [] ++ (ZuR c k).map (ev (lkS ss)) ++ [] = xs := by kernel_rfl) (hhb : (ks.map fun k => (k, lkH hs k)) = hb := by kernel_rfl)
  (hok : ∀ z, (Zkk os (hb2 z) && ZJe [] (hb2 z) && Zmo [] (ZiP os) && ZkV hs && Ztk n (ZnX c k) && ks.all (okK os)) = true := by intro z; kernel_rfl) : LO P n C c k (mkS ss hs) Q := by
 obtain ⟨z, e1, e2⟩ := bind_some hm
 exact Zse co.ok co.O co.F f [] [] xs hop hf hxs ks hb hhb (e z) (hb2 z) [] fl (hok z) (hwr z) hfl (fun r h1 h2 h3 h4 => hcall z e1 r ⟨h1, h2, h3, h4⟩) (h z e2)
theorem Znw (co : CO C os) (v : PT os β) (lf : Lf) (hv : v.m = some y) (hL : HL L y) (hn : ∀ r (g : Gd C r), v.n ⟨⟨C.l, r, fun _ τ' => LW P n C c τ' Q, fun _ _ => False⟩, L, C, co, g, rfl⟩)
  (hq : ∀ l r Q Post, Zd6 r os v.a τ (fun τ _ => Zhq (ZiP os) lf τ (Q .normal)) = v.q ⟨l, r, Q, Post⟩ := by intro l r Q P; kernel_rfl) : LW P n C c τ Q :=
 ZBM co.ok co.O co.F v.a lf (fun r Φ => v.q ⟨C.l, r, fun _ => Φ, fun _ _ => False⟩) (fun r Φ => hq _ r (fun _ => Φ) _) fun r h1 h2 h3 h4 => v.ok _ (hn r ⟨h1, h2, h3, h4⟩) y hv hL
theorem Zep {q : Prop} [Decidable q] {m : Option β} {G : Prop} (hm : (if q then m else none) = some y) (h : q → m = some y → G) : G := h (Zax hm).1 (Zax hm).2
theorem rg {c : Code} (h : LO P n C c 0 τ Q) (hs : ZEq c = true := by kernel_rfl) : LW P n C c τ Q := Znp hs h
end
end Go.Eng
namespace Go.Eng
set_option linter.all false
open Go Go.RowKit
section
variable {α β : Type} (P : Program)
def Vp (s : Sem α) : Prop := ∀ w r w1, s.run P w = .ok r w1 → w1 = w ∧ ∀ w2, s.run P w2 = .ok r w2
def Rd (s : Sem α) : Prop := ∀ w r w1, s.run P w = .ok r w1 → w1 = w
variable {P}
theorem Vp.rd {s : Sem α} (h : Vp P s) : Rd P s := fun w r w1 e => (h w r w1 e).1
theorem Vp.pure (a : α) : Vp P (Pure.pure a : Sem α) := fun w r w1 e => by cases e; exact ⟨rfl, fun _ => rfl⟩
theorem Vp.halt (h : Halt) : Vp P (.halt h : Sem α) := fun w r w1 e => by cases e
theorem Vp.program : Vp P Go.program := fun w r w1 e => by cases e; exact ⟨rfl, fun _ => rfl⟩
theorem Vp.bind {s : Sem α} {f : α → Sem β} (h : Vp P s) (k : ∀ a, Vp P (f a)) : Vp P (s >>= f) := fun w r w1 e => by
 rw [Sem.run_bind] at e
 cases hs : s.run P w with
 | halt x w' => rw [hs] at e; cases e
 | ok a w' =>
  rw [hs] at e
  obtain ⟨rfl, h2⟩ := h w a w' hs
  obtain ⟨h3, h4⟩ := k a _ _ _ e
  exact ⟨h3, fun w2 => by rw [Sem.run_bind, h2 w2]; exact h4 w2⟩
theorem Rd.bind {s : Sem α} {f : α → Sem β} (h : Rd P s) (k : ∀ a, Rd P (f a)) : Rd P (s >>= f) := fun w r w1 e => by
 rw [Sem.run_bind] at e
 cases hs : s.run P w with
 | halt x w' => rw [hs] at e; cases e
 | ok a w' =>
  rw [hs] at e
  have h1 := h w a w' hs
  subst h1
  exact k a _ _ _ e
theorem ZeH (t : TypeId) : Vp P (typeInfo t) := by
 unfold typeInfo
 refine Vp.program.bind fun p => ?_
 split
 ·exact .pure _
 ·exact .halt _
theorem Zbi (t : TypeId) : Vp P (underlying t) := by
 unfold underlying
 refine Vp.program.bind fun p => ?_
 split
 ·exact .pure _
 ·exact .halt _
theorem Zbw (t : TypeId) : Vp P (sizeOf t) := by unfold sizeOf; exact (ZeH t).bind fun _ => .pure _
theorem Zeg (t : TypeId) : Vp P (isAgg t) := by
 unfold isAgg
 refine (Zbi t).bind fun d => ?_
 split <;> exact .pure _
theorem ZxT (t : TypeId) (cs : Array Value) (o : Nat) : Vp P (part t cs o) := by
 unfold part
 refine (Zeg t).bind fun b => ?_
 cases b with
 | true => exact (Zbw t).bind fun _ => .pure _
 | false =>
  show Vp P (match cs[o]? with | some v => _ | none => _)
  split
  ·exact .pure _
  ·exact .halt _
theorem Zcy : ∀ (l : List FieldStep) (t : TypeId) (x : Option Value), Vp P (followBlind l t x)
 | [], t, x => .pure _
 | s :: rest, t, x => by
  unfold followBlind
  refine (Zbi _).bind fun d => ?_
  split
  ·split
   ·split
    ·exact .pure _
    ·exact Zcy rest _ _
    ·exact .halt _
    ·exact .pure _
    ·exact (ZxT _ _ _).bind fun _ => Zcy rest _ _
    ·exact .halt _
    ·exact Zcy rest _ _
   ·exact .halt _
  ·exact .halt _
theorem Zgc : ∀ (n : Nat) (t : TypeId) (v : Value) (s : String), Vp P (nilAhead n t v s)
 | 0, t, v, s => .pure _
 | n + 1, t, v, s => by
  unfold nilAhead
  refine (ZeH _).bind fun i => ?_
  split
  ·refine (Zcy _ _ _).bind fun r => ?_
   split
   ·exact .pure _
   ·split
    ·exact Zgc n _ _ _
    ·exact .pure _
    ·exact .halt _
    ·exact .pure _
    ·exact .pure _
    ·refine (Zbi _).bind fun d => ?_
     split <;> exact .pure _
  ·exact .halt _
def VV (P : Program) (s : Sem Next) : Prop := ∀ w r w1, s.run P w = .ok r w1 → ∃ v, r = .value v
theorem VV.val {s : Sem Value} : VV P (s >>= fun x => Pure.pure (Next.value x) : Sem Next) := fun w r w1 e => by
 rw [Sem.run_bind] at e
 cases hs : s.run P w with
 | halt x w' => rw [hs] at e; cases e
 | ok a w' => rw [hs] at e; cases e; exact ⟨a, rfl⟩
theorem Vp.val {s : Sem Value} (h : Vp P s) : Vp P (s >>= fun x => Pure.pure (Next.value x) : Sem Next) := h.bind fun _ => .pure _
theorem Rd.val {s : Sem Value} (h : Rd P s) : Rd P (s >>= fun x => Pure.pure (Next.value x) : Sem Next) := h.bind fun _ => (Vp.pure _).rd
end
theorem Zd7 {P : Program} (t : TypeId) : Vp P (zeroValue t) := by
 unfold zeroValue
 refine (ZeH t).bind fun i => ?_
 split
 ·exact .pure _
 ·exact .halt _
theorem Zox {α β : Type} {P : Program} {f : α → Sem β} (h : ∀ x, Vp P (f x)) : ∀ l : List α, Vp P (l.mapM f)
 | [] => by rw [List.mapM_nil]; exact .pure _
 | x :: l => by rw [List.mapM_cons]; exact (h x).bind fun _ => (Zox h l).bind fun _ => .pure _
theorem ZBd {α β : Type} {P : Program} {f : α → Sem β} (h : ∀ x, Vp P (f x)) (l : Array α) : Vp P (l.mapM f) := by
 rw [Array.mapM_eq_mapM_toList]
 exact (Zox h _).bind fun _ => .pure _
theorem ZrA {P : Program} (t : TypeId) (ps : Array (Nat × Value)) : Vp P (Instr.build t ps) := by
 unfold Instr.build
 refine (Zd7 t).bind fun z => (Zbi t).bind fun d => ?_
 split
 ·refine (ZBd (fun f => (Zbw _).bind fun _ => .pure _) _).bind fun pl => ?_
  split
  ·exact .pure _
  ·exact .halt _
 ·refine (Zbw _).bind fun n => ?_
  split
  ·exact .pure _
  ·exact .halt _
 ·exact .halt _
def Nv {α : Type} (P : Program) (s : Sem α) : Prop := ∀ w r w1, s.run P w ≠ .ok r w1
theorem Nv.vp {α : Type} {P : Program} {s : Sem α} (h : Nv P s) : Vp P s := fun w r w1 e => absurd e (h w r w1)
theorem Zjr {α : Type} {P : Program} (k : IntKind) (x y : Int) (c : BoundsCode) : Nv P (boundsPanic k x y c : Sem α) := fun w r w1 e => by
 unfold boundsPanic at e
 dsimp only at e
 have h2 : ∀ (s : Bool) w r w1, (runtimePanic (.bounds (IntKind.i64.wrap x) y s c) : Sem α).run P w ≠ .ok r w1 := fun s w r w1 e => by
  unfold runtimePanic at e
  simp only [Sem.run_bind, run_program, Result.andThen_ok] at e
  repeat (first | (cases e; done) | split at e | (simp [goPanic, stuck, unsupported, Sem.run] at e; done))
 split at e
 all_goals
  rw [Sem.run_bind] at e
  generalize hs : Sem.run P _ w = q at e
  cases q with
  | halt x w' => cases e
  | ok a w' => exact h2 _ _ _ _ e
theorem ZFT {α : Type} {P : Program} : Nv P (runtimePanic .nilDeref : Sem α) := fun w r w1 e => by
 unfold runtimePanic at e
 simp only [Sem.run_bind, run_program, Result.andThen_ok] at e
 repeat (first | (cases e; done) | split at e | (simp [goPanic, stuck, unsupported, Sem.run] at e; done))
theorem Zh3 {P : Program} (v : Value) : Vp P (asIntOf v) := by
 unfold asIntOf
 split
 ·exact .pure _
 ·exact .halt _
 ·exact .halt _
theorem ZpV {P : Program} (v : Value) : Vp P (Instr.sureAddr v) := by
 unfold Instr.sureAddr
 split
 ·exact .pure _
 ·exact .halt _
theorem Zow {P : Program} (v : Value) : Vp P (asAddr v) := by
 unfold asAddr
 split
 ·exact .pure _
 ·first | exact ZFT.vp | exact .halt _
 ·exact .halt _
theorem Zis {P : Program} (x : Value) (y : Nat) (c : BoundsCode) : Vp P (Instr.sliceBound x y c) := by
 unfold Instr.sliceBound
 refine (Zh3 _).bind fun p => ?_
 dsimp only
 split
 ·exact .pure _
 ·exact (Zjr _ _ _ _).vp
theorem Zex {P : Program} (b : Bool) (n m : Nat) (lo hi mx : Option Value) : Vp P (Instr.sliceBounds b n m lo hi mx) := by
 unfold Instr.sliceBounds
 dsimp only
 repeat' (first | exact Vp.pure _ | exact Zis _ _ _ | exact Vp.halt _ | refine Vp.bind ?_ fun _ => ?_ | split)
theorem Zt3 {P : Program} (t : TypeId) (x : Value) (lo hi mx : Option Value) : Vp P (Instr.slice t x lo hi mx) := by
 unfold Instr.slice
 dsimp only
 repeat' (first | exact Vp.pure _ | exact Zex _ _ _ _ _ _ | exact Zbi _ | exact Zbw _ | exact Zow _ | exact Vp.halt _ | refine Vp.bind ?_ fun _ => ?_ | split)
theorem Znx {P : Program} (t : TypeId) (x : Value) (lo hi mx : Option Value) : Vp P (Instr.sliceAt t x lo hi mx) := by
 unfold Instr.sliceAt
 repeat' (first | exact Vp.pure _ | exact Zex _ _ _ _ _ _ | exact Zbi _ | exact Zbw _ | exact ZpV _ | exact Zt3 _ _ _ _ _ | exact Vp.halt _ | refine Vp.bind ?_ fun _ => ?_ | split)
theorem Zok {P : Program} (t : TypeId) (x i : Value) : Vp P (Instr.indexAt t x i) := by
 unfold Instr.indexAt
 dsimp only
 repeat' (first | exact Vp.pure _ | exact Zh3 _ | exact Zbi _ | exact Zbw _ | exact ZpV _ | exact (Zjr _ _ _ _).vp | exact Vp.halt _ | refine Vp.bind ?_ fun _ => ?_ | split)
theorem Znr {P : Program} (v : Value) (i : Nat) : Vp P (Instr.extract v i) := by
 unfold Instr.extract
 split
 ·split
  ·exact .pure _
  ·exact .halt _
 ·exact .halt _
def ZMk (P : Program) (c : Call) : Bool := match c.callee, c.args.toList, c.argTypes.toList with
 | .builtin .len, [_], [t] => (match P.underlying t with | some (.slice _) => true | some .string => true | _ => false)
 | _, _, _ => false
theorem ZH8 {P : Program} {t : TypeId} {ty : TypeId} (x : Value) (h : (match P.underlying t with | some (.slice _) => true | some .string => true | _ => false) = true) : Vp P (Builtin.len_ #[t] ty #[x]) := by
 unfold Builtin.len_
 simp only [List.getElem?_toArray, List.getElem?_cons_zero]
 intro w r w1 e
 have hu : ∃ d, P.underlying t = some d ∧ ((∃ q, d = .slice q) ∨ d = .string) := by
  split at h
  ·rename_i q hq; exact ⟨_, hq, .inl ⟨q, rfl⟩⟩
  ·rename_i hq; exact ⟨_, hq, .inr rfl⟩
  ·cases h
 obtain ⟨d, hu, hd⟩ := hu
 simp only [Sem.run_bind, run_underlying hu, Result.andThen_ok] at e ⊢
 rcases hd with ⟨q, rfl⟩ | rfl
 ·cases x <;> first | (cases e; exact ⟨rfl, fun _ => rfl⟩) | (cases e; done)
 ·cases x <;> first | (cases e; exact ⟨rfl, fun _ => rfl⟩) | (cases e; done)
def vpO (P : Program) (o : Oper) : Bool := match o.op with
 | .build _ _ => true
 | .extract _ _ => true
 | .indexAddr _ _ _ => true
 | .slice _ _ _ _ _ => true
 | .makeFunc _ _ _ => true
 | .call c => ZMk P c
 | .move _ => true
 | .assign _ => true
 | .nilCheck _ => true
 | .fieldAddr t _ i => (match P.underlying t with | some (.struct fs) => (match fs[i]? with | some f => !(Nat.beq (P.cellsOf f.type) 0) | none => false) | _ => false)
 | _ => false
def rdO (P : Program) (o : Oper) : Bool := vpO P o || match o.op with | .load _ _ => true | _ => false
section
variable {P : Program} {ρ : Operand → Value} {o : Oper}
theorem Zh8 (h : vpO P o = true) : Vp P (execOp ρ o) ∧ VV P (execOp ρ o) := by
 obtain ⟨dst, op, type, pos, after, guard⟩ := o
 cases op <;> simp only [vpO] at h <;> first | (cases h; done) | skip
 case move x => exact ⟨.pure _, fun w r w1 e => by cases e; exact ⟨_, rfl⟩⟩
 case assign x => exact ⟨.pure _, fun w r w1 e => by cases e; exact ⟨_, rfl⟩⟩
 case build t ps => exact ⟨(ZrA _ _).val, VV.val⟩
 case makeFunc f a b => exact ⟨(Vp.pure _).val, VV.val⟩
 case extract x i => exact ⟨(Znr _ _).val, VV.val⟩
 case indexAddr t x i => exact ⟨(Zok _ _ _).val, VV.val⟩
 case slice t x a b c => exact ⟨(Znx _ _ _ _ _).val, VV.val⟩
 case call c =>
  unfold ZMk at h
  split at h
  ·rename_i x t hc ha ht
   obtain ⟨cal, az, ts⟩ := c
   simp only at hc ha ht
   subst hc
   have e1 : az = #[x] := Array.ext' (by simpa using ha)
   have e2 : ts = #[t] := Array.ext' (by simpa using ht)
   subst e1; subst e2
   have : execOp ρ ⟨dst, .call ⟨.builtin .len, #[x], #[t]⟩, type, pos, after, guard⟩ = (Builtin.len_ #[t] type #[ρ x] >>= fun v => (Pure.pure (Next.value v) : Sem Next)) := by
    simp [execOp, resolve, invoke, Go.builtin]
   rw [this]
   exact ⟨(ZH8 _ h).val, VV.val⟩
  ·cases h
 case nilCheck x =>
  have hp : ∀ v : Value, Vp P (pure (.value v) : Sem Next) ∧ VV P (pure (.value v) : Sem Next) := fun v => ⟨.pure _, fun w r w1 e => by cases e; exact ⟨_, rfl⟩⟩
  have hr : Vp P (runtimePanic .nilDeref : Sem Next) ∧ VV P (runtimePanic .nilDeref : Sem Next) := by
   have : ∀ w r w1, (runtimePanic .nilDeref : Sem Next).run P w ≠ .ok r w1 := fun w r w1 e => by
    unfold runtimePanic at e
    simp only [Sem.run_bind, run_program, Result.andThen_ok] at e
    repeat (first | (cases e; done) | split at e | (simp [goPanic, stuck, unsupported, Sem.run] at e; done))
   exact ⟨fun w r w1 e => absurd e (this w r w1), fun w r w1 e => absurd e (this w r w1)⟩
  show Vp P (execOp ρ _) ∧ _
  simp only [execOp]
  split
  ·exact hr
  ·exact hr
  ·exact hr
  ·split
   ·exact hr
   ·refine ⟨Vp.program.bind fun p => (Zgc _ _ _ _).bind fun b => ?_, fun w r w1 e => ?_⟩
    ·split
     ·exact .halt _
     ·exact .pure _
    ·simp only [Sem.run_bind, run_program, Result.andThen_ok] at e
     cases hs : (nilAhead _ _ _ _).run P w with
     | halt x w' => rw [hs] at e; cases e
     | ok a w' =>
      rw [hs] at e
      simp only [Result.andThen_ok] at e
      split at e
      ·cases e
      ·cases e; exact ⟨_, rfl⟩
   ·exact hp _
  ·exact hp _
 case fieldAddr t x i =>
  refine ⟨Vp.val ?_, VV.val⟩
  unfold Instr.fieldAt
  intro w r w1 e
  split at h
  ·rename_i fs hu
   split at h
   ·rename_i f hf
    have hz : P.cellsOf f.type ≠ 0 := fun h0 => by rw [h0] at h; cases h
    have run : ∀ (ad : Addr) (w : World), (Instr.fieldAt t (.pointer (some ad)) i).run P w = .ok (.pointer (some (ad.add f.offset))) w := fun ad w => by
     simp [Instr.fieldAt, run_underlying hu, hf, Instr.sureAddr, fieldPlace, ZbP hz, hz]
    have bad : ∀ v : Value, (∀ ad, v ≠ .pointer (some ad)) → (Instr.fieldAt t v i).run P w ≠ .ok r w1 := fun v hv e => by
     have hs : Instr.sureAddr v = .halt (.stuck "an address expected (no nilCheck in front?)") := by
      unfold Instr.sureAddr
      split
      ·rename_i a; exact absurd rfl (hv a)
      ·rfl
     simp only [Instr.fieldAt, Sem.run_bind, run_underlying hu, Result.andThen_ok, hf, hs] at e
     cases e
    change (Instr.fieldAt t (ρ x) i).run P w = .ok r w1 at e
    show w1 = w ∧ ∀ w2, (Instr.fieldAt t (ρ x) i).run P w2 = .ok r w2
    generalize ρ x = v at e ⊢
    by_cases hv : ∃ ad, v = .pointer (some ad)
    ·obtain ⟨ad, rfl⟩ := hv
     rw [run] at e
     cases e
     exact ⟨rfl, fun w2 => run ad w2⟩
    ·exact absurd e (bad v fun ad h => hv ⟨ad, h⟩)
   ·cases h
  ·cases h
theorem Zia (a : Addr) : Rd P (load a) := fun w r w1 e => by
 unfold load at e
 simp only [Sem.run] at e
 split at e
 ·cases e; rfl
 ·split at e
  ·cases e; rfl
  ·cases e
theorem Zdb (a : Addr) : ∀ (n i : Nat) (acc : Array Value), Rd P (loadCellsFrom a i n acc)
 | 0, i, acc => (Vp.pure _).rd
 | n + 1, i, acc => by unfold loadCellsFrom; exact (Zia _).bind fun v => Zdb a n (i + 1) _
theorem Zfi (t : TypeId) (a : Addr) : Rd P (loadVar t a) := by
 unfold loadVar
 refine (Zeg t).rd.bind fun b => ?_
 cases b with
 | true => exact (Zbw t).rd.bind fun n => (Zdb a n 0 _).bind fun _ => (Vp.pure _).rd
 | false => exact Zia a
theorem Zgb (h : rdO P o = true) : Rd P (execOp ρ o) ∧ VV P (execOp ρ o) := by
 unfold rdO at h
 rw [Bool.or_eq_true] at h
 rcases h with h | h
 ·obtain ⟨h1, h2⟩ := Zh8 (ρ := ρ) h
  exact ⟨h1.rd, h2⟩
 ·obtain ⟨dst, op, type, pos, after, guard⟩ := o
  cases op <;> simp only at h <;> first | (cases h; done) | skip
  refine ⟨Rd.val ?_, VV.val⟩
  unfold Instr.loadAt
  refine Rd.bind ?_ fun a => Zfi _ _
  unfold Instr.sureAddr
  split
  ·exact (Vp.pure _).rd
  ·exact (Vp.halt _).rd
def ZqM (w w1 : World) : Prop := ∀ (k : Nat) (o : Obj), w.heap[k]? = some o → w1.heap[k]? = some o
theorem ZqM.refl (w : World) : ZqM w w := fun _ _ h => h
theorem ZqM.cell {w w1 : World} {a : Addr} {v : Value} (h : ZqM w w1) (hc : w.cell? a = some v) : w1.cell? a = some v := by
 unfold World.cell? at hc ⊢
 cases hb : w.heap[a.block]? with
 | none => rw [hb] at hc; cases hc
 | some o => rw [hb] at hc; rw [h _ _ hb]; exact hc
theorem ZqM.seen {w w1 : World} {p : Program} {at_ : Addr} {u : TypeId} {k : Addr} {b : Bool} (h : ZqM w w1) {r} (hc : w.seen p at_ u k b = .ok r) : w1.seen p at_ u k b = .ok r := by
 cases hb : w.heap[at_.block]? with
 | none =>
  exfalso
  unfold World.seen at hc
  rw [hb] at hc
  have T : ∀ (α : Type) (e : String), (MonadExcept.throw e : Except String α) = .error e := fun _ _ => rfl
  simp only [bind, Except.bind, pure, Except.pure, throw, throwThe, T] at hc
  repeat (first | (cases hc; done) | split at hc)
  all_goals (simp_all)
  all_goals (repeat (first | cases hc | split at hc))
 | some o =>
  unfold World.seen at hc ⊢
  rw [h _ _ hb]
  rw [hb] at hc
  exact hc
theorem ZqM.far {w w1 : World} {p : Program} {a : Addr} {b : Bool} (h : ZqM w w1) {r} (hc : w.farLoad p a b = .ok r) : w1.farLoad p a b = .ok r := by
 unfold World.farLoad at hc ⊢
 cases hb : w.heap[a.block]? with
 | none => rw [hb] at hc; cases hc
 | some o =>
  rw [hb] at hc
  rw [h _ _ hb]
  cases o <;> simp only at hc ⊢ <;> first | (cases hc; done) | skip
  rename_i at_ u
  cases hv : w.viewLoad p at_ u a b with
  | error e => rw [hv] at hc; cases hc
  | ok q =>
   rw [hv] at hc
   have : w1.viewLoad p at_ u a b = .ok q := by
    unfold World.viewLoad at hv ⊢
    cases hs : w.seen p at_ u a b with
    | error e => rw [hs] at hv; cases hv
    | ok z => rw [hs] at hv; rw [h.seen hs]; exact hv
   rw [this]
   exact hc
variable {α β : Type}
def Sta (P : Program) (s : Sem α) : Prop := ∀ w r w1 w2, s.run P w = .ok r w1 → ZqM w w2 → s.run P w2 = .ok r w2
theorem Vp.sta {s : Sem α} (h : Vp P s) : Sta P s := fun w r w1 w2 e _ => (h w r w1 e).2 w2
theorem Sta.bind {s : Sem α} {f : α → Sem β} (hr : Rd P s) (h : Sta P s) (k : ∀ a, Sta P (f a)) : Sta P (s >>= f) := fun w r w1 w2 e hx => by
 rw [Sem.run_bind] at e ⊢
 cases hs : s.run P w with
 | halt x w' => rw [hs] at e; cases e
 | ok a w' =>
  rw [hs] at e
  have h1 := hr w a w' hs
  subst h1
  rw [h _ _ _ _ hs hx]
  exact k a _ _ _ _ e hx
theorem Zme (a : Addr) : Sta P (load a) := fun w r w1 w2 e hx => by
 unfold load at e ⊢
 simp only [Sem.run] at e ⊢
 cases hc : w.cell? a with
 | some v => rw [hc] at e; rw [hx.cell hc]; cases e; rfl
 | none =>
  rw [hc] at e
  cases hf : w.farLoad P a (Mode.plain == Mode.atomic) with
  | error x => rw [hf] at e; cases e
  | ok q =>
   have e2 : w2.cell? a = none := by
    unfold World.farLoad at hf
    unfold World.cell?
    cases hb : w.heap[a.block]? with
    | none => rw [hb] at hf; cases hf
    | some o =>
     rw [hb] at hf
     rw [hx _ _ hb]
     cases o <;> first | rfl | (cases hf; done)
   rw [hf] at e
   rw [e2, hx.far hf]
   cases e
   rfl
theorem ZeM (a : Addr) : ∀ (n i : Nat) (acc : Array Value), Sta P (loadCellsFrom a i n acc)
 | 0, i, acc => (Vp.pure _).sta
 | n + 1, i, acc => by unfold loadCellsFrom; exact .bind (Zia _) (Zme _) fun v => ZeM a n (i + 1) _
theorem Zki (t : TypeId) (a : Addr) : Sta P (loadVar t a) := by
 unfold loadVar
 refine .bind (Zeg t).rd (Zeg t).sta fun b => ?_
 cases b with
 | true => exact .bind (Zbw t).rd (Zbw t).sta fun n => .bind (Zdb a n 0 _) (ZeM a n 0 _) fun _ => (Vp.pure _).sta
 | false => exact Zme a
theorem ZuA (h : rdO P o = true) : Sta P (execOp ρ o) := by
 unfold rdO at h
 rw [Bool.or_eq_true] at h
 rcases h with h | h
 ·exact (Zh8 (ρ := ρ) h).1.sta
 ·obtain ⟨dst, op, type, pos, after, guard⟩ := o
  cases op <;> simp only at h <;> first | (cases h; done) | skip
  have hs : ∀ v : Value, Rd P (Instr.sureAddr v) ∧ Sta P (Instr.sureAddr v) := fun v => by
   unfold Instr.sureAddr
   split
   ·exact ⟨(Vp.pure _).rd, (Vp.pure _).sta⟩
   ·exact ⟨(Vp.halt _).rd, (Vp.halt _).sta⟩
  refine Sta.bind (s := Instr.loadAt _ _) (Rd.bind (hs _).1 fun a => Zfi _ _) (.bind (hs _).1 (hs _).2 fun a => Zki _ _) fun _ => (Vp.pure _).sta
def grO (o : Oper) : Bool := match o.op with | .buildSlice _ _ _ => true | .alloc _ => true | _ => false
theorem ZsQ {w : World} {o : Obj} : ZqM w { w with heap := w.heap.push o } := fun k o' h => by
 show (w.heap.push o)[k]? = some o'
 rw [Array.getElem?_push]
 split
 ·rename_i e; subst e; simp at h
 ·exact h
def Gr (P : Program) (s : Sem α) : Prop := ∀ w r w1, s.run P w = .ok r w1 → ZqM w w1
theorem Rd.gr {s : Sem α} (h : Rd P s) : Gr P s := fun w r w1 e => by rw [h w r w1 e]; exact .refl _
theorem Gr.bind {s : Sem α} {f : α → Sem β} (h : Gr P s) (k : ∀ a, Gr P (f a)) : Gr P (s >>= f) := fun w r w1 e => by
 rw [Sem.run_bind] at e
 cases hs : s.run P w with
 | halt x w' => rw [hs] at e; cases e
 | ok a w' =>
  rw [hs] at e
  exact fun q o hq => k a _ _ _ e _ _ (h _ _ _ hs _ _ hq)
theorem Zg6 (t : TypeId) (cs : Array Value) : Gr P (newRow t cs) := fun w r w1 e => by
 unfold newRow newObj at e
 cases e
 exact ZsQ
theorem Zh9 (t : TypeId) (n : Nat) (ps : Array (Nat × Value)) : Gr P (Instr.buildSlice t n ps) := by
 unfold Instr.buildSlice
 refine (Zbi t).rd.gr.bind fun d => ?_
 split
 ·refine (Zbw _).rd.gr.bind fun size => ?_
  by_cases h1 : n * size > 2 ^ 24
  ·rw [if_pos h1]
   intro w r w1 e
   cases e
  ·rw [if_neg h1]
   by_cases h2 : n * size = 0
   ·rw [if_pos h2]
    refine Gr.bind (s := Pure.pure _) (Vp.pure _).rd.gr fun z => ?_
    dsimp only
    split
    ·exact (Zg6 _ _).bind fun _ => (Vp.pure _).rd.gr
    ·exact (Vp.halt _).rd.gr
   ·rw [if_neg h2]
    refine (Zd7 _).rd.gr.bind fun z => Gr.bind (s := Pure.pure _) (Vp.pure _).rd.gr fun z => ?_
    dsimp only
    split
    ·exact (Zg6 _ _).bind fun _ => (Vp.pure _).rd.gr
    ·exact (Vp.halt _).rd.gr
 ·exact (Vp.halt _).rd.gr
theorem ZA2 (h : grO o = true) : Gr P (execOp ρ o) ∧ VV P (execOp ρ o) := by
 obtain ⟨dst, op, type, pos, after, guard⟩ := o
 cases op <;> simp only [grO] at h <;> first | (cases h; done) | skip
 case buildSlice => exact ⟨(Zh9 _ _ _).bind fun _ => (Vp.pure _).rd.gr, VV.val⟩
 case alloc t => exact ⟨Gr.bind (s := Instr.alloc _ _ _) ((Zd7 _).rd.gr.bind fun z => Gr.bind (s := newVar _ _) (Zg6 _ _ |>.bind fun _ => (Vp.pure _).rd.gr) fun _ => (Vp.pure _).rd.gr) fun _ => (Vp.pure _).rd.gr, VV.val⟩
theorem Zpd (h : (rdO P o || grO o) = true) : Gr P (execOp ρ o) ∧ VV P (execOp ρ o) := by
 rw [Bool.or_eq_true] at h
 rcases h with h | h
 ·exact ⟨(Zgb h).1.gr, (Zgb h).2⟩
 ·exact ZA2 h
end
inductive Waits (ops : Array Oper) : Nat → Nat → Prop
 | one {j i : Nat} {oj : Oper} {e : Edge} (hj : ops[j]? = some oj) (he : e ∈ oj.after) (hb : Region.binds .any e = true) (hi : e.on = i) : Waits ops j i
 | more {j m i : Nat} {oj : Oper} {e : Edge} (hj : ops[j]? = some oj) (he : e ∈ oj.after) (hb : Region.binds .any e = true) (hm : e.on = m) (h : Waits ops m i) : Waits ops j i
def Zl8 (L : List Oper) (i : Nat) : Nat → Nat → Bool
 | 0, _ => false
 | fu + 1, j => match nth L j with | some oj => oj.after.toList.any fun e => Region.binds .any e && (Nat.beq e.on i || Zl8 L i fu e.on) | none => false
theorem Zgy {L : List Oper} {i : Nat} : ∀ (fu j : Nat), Zl8 L i fu j = true → Waits L.toArray j i
 | 0, j, h => by cases h
 | fu + 1, j, h => by
  unfold Zl8 at h
  rw [Zb1] at h
  split at h
  ·rename_i oj ho
   obtain ⟨e, he, h⟩ := List.any_eq_true.1 h
   rw [Bool.and_eq_true, Bool.or_eq_true] at h
   have hj : L.toArray[j]? = some oj := by simpa using ho
   rcases h.2 with h2 | h2
   ·exact .one hj (by simpa using he) h.1 (Nat.eq_of_beq_eq_true h2)
   ·exact .more hj (by simpa using he) h.1 rfl (Zgy fu _ h2)
  ·cases h
def DC (ops : Array Oper) (listed : Array Bool) : Prop := ∀ (m : Nat) (om : Oper), ops[m]? = some om → listed.getD m false = true → ∀ e ∈ om.after, Region.binds .any e = true → listed.getD e.on false = true
theorem DC.waits {ops : Array Oper} {listed : Array Bool} (h : DC ops listed) {j i : Nat} (hw : Waits ops j i) : listed.getD j false = true → listed.getD i false = true := by
 induction hw with
 | one hj he hb hi => intro hl; rw [← hi]; exact h _ _ hj hl _ he hb
 | more hj he hb hm _ ih => intro hl; exact ih (by rw [← hm]; exact h _ _ hj hl _ he hb)
theorem ZB8 {listed : Array Bool} {i : Nat} (h : listed.getD i true = false) : listed.getD i false = false := by
 rcases Nat.lt_or_ge i listed.size with h' | h'
 ·simp [h'] at h ⊢; exact h
 ·simp [Array.getElem?_eq_none h'] at h
theorem DC.ready {ops : Array Oper} {listed : Array Bool} (h : DC ops listed) {j : Nat} (hj : j ∈ Region.ready .any ops listed) : DC ops (listed.setIfInBounds j true) := by
 obtain ⟨h0, oj, hoj, hall⟩ := mem_ready.1 hj
 intro m om hm hl e he hb
 by_cases hmj : j = m
 ·subst hmj
  rw [hoj] at hm
  cases hm
  exact getD_set_true (hall e he hb)
 ·rw [getD_set_ne false hmj] at hl
  exact getD_set_true (h m om hm hl e he hb)
theorem DC.nowait {ops : Array Oper} {listed : Array Bool} (h : DC ops listed) {j i : Nat} (hj : j ∈ Region.ready .any ops listed) (hi : listed.getD i true = false) : ¬ Waits ops j i := fun hw => by
 obtain ⟨h0, oj, hoj, hall⟩ := mem_ready.1 hj
 have hi := ZB8 hi
 cases hw with
 | one hj' he hb he2 =>
  rw [hoj] at hj'
  cases hj'
  have := hall _ he hb
  rw [he2, hi] at this
  cases this
 | more hj' he hb hm hw' =>
  rw [hoj] at hj'
  cases hj'
  have := h.waits hw' (by rw [← hm]; exact hall _ he hb)
  rw [hi] at this
  cases this
def ZIe (P : Program) (L : List Oper) (listed : List Nat) (i : Nat) (oi : Oper) : Nat → List Oper → Bool
 | _, [] => true
 | j, oj :: r => (listed.any (Nat.beq j) || Nat.beq j i || Zl8 L i L.length j || (oi.apart L.toArray oj && (vpO P oi || (rdO P oi && (rdO P oj || grO oj))))) && ZIe P L listed i oi (j + 1) r
def Zq2 (P : Program) (L : List Oper) : List Nat → List Nat → Bool
 | listed, [] => (List.range L.length).all fun j => listed.any (Nat.beq j)
 | listed, i :: rest => (match nth L i with
  | some oi => !(listed.any (Nat.beq i)) && oi.after.toList.all (fun e => !Region.binds .any e || listed.any (Nat.beq e.on)) && (match vpO P oi with | true => chkV P L listed i oi 0 L | false => ZIe P L listed i oi 0 L)
  | none => false) && Zq2 P L (i :: listed) rest
where chkV (P : Program) (L : List Oper) (listed : List Nat) (i : Nat) (oi : Oper) : Nat → List Oper → Bool
 | _, [] => true
 | j, oj :: r => (listed.any (Nat.beq j) || Nat.beq j i || oj.after.toList.any (fun e => Region.binds .any e && Nat.beq e.on i) || oi.apart L.toArray oj) && chkV P L listed i oi (j + 1) r
theorem ZcU {l : List Nat} {j : Nat} : l.any (Nat.beq j) = true ↔ j ∈ l := by
 rw [List.any_eq_true]
 exact ⟨fun ⟨x, hx, h⟩ => Nat.eq_of_beq_eq_true h ▸ hx, fun h => ⟨j, h, Nat.beq_refl j⟩⟩
theorem Zqp {P : Program} {L : List Oper} {listed : List Nat} {i : Nat} {oi : Oper} : ∀ {r : List Oper} {j0 k : Nat} {oj : Oper}, ZIe P L listed i oi j0 r = true → r[k]? = some oj →
  (j0 + k) ∈ listed ∨ j0 + k = i ∨ Waits L.toArray (j0 + k) i ∨ (oi.apart L.toArray oj = true ∧ (vpO P oi = true ∨ rdO P oi = true ∧ (rdO P oj || grO oj) = true))
 | [], j0, k, oj, _, h => by simp at h
 | q :: r, j0, k, oj, hc, h => by
  unfold ZIe at hc
  rw [Bool.and_eq_true] at hc
  cases k with
  | zero =>
   simp only [List.getElem?_cons_zero, Option.some.injEq] at h
   subst h
   have h1 := hc.1
   simp only [Bool.or_eq_true, Bool.and_eq_true] at h1
   rcases h1 with ((h1 | h1) | h1) | h1
   ·exact .inl (ZcU.1 h1)
   ·exact .inr (.inl (Nat.eq_of_beq_eq_true h1))
   ·exact .inr (.inr (.inl (Zgy _ _ h1)))
   ·exact .inr (.inr (.inr ⟨h1.1, by simpa only [Bool.or_eq_true] using h1.2⟩))
  | succ k =>
   have := Zqp (k := k) hc.2 (by simpa using h)
   rwa [show j0 + 1 + k = j0 + (k + 1) from by omega] at this
theorem Zpf {P : Program} {L : List Oper} {listed : List Nat} {i : Nat} {oi : Oper} : ∀ {r : List Oper} {j0 k : Nat} {oj : Oper}, Zq2.chkV P L listed i oi j0 r = true → r[k]? = some oj →
  (j0 + k) ∈ listed ∨ j0 + k = i ∨ (∃ e ∈ oj.after, Region.binds .any e = true ∧ e.on = i) ∨ oi.apart L.toArray oj = true
 | [], j0, k, oj, _, h => by simp at h
 | q :: r, j0, k, oj, hc, h => by
  unfold Zq2.chkV at hc
  rw [Bool.and_eq_true] at hc
  cases k with
  | zero =>
   simp only [List.getElem?_cons_zero, Option.some.injEq] at h
   subst h
   have h1 := hc.1
   simp only [Bool.or_eq_true] at h1
   rcases h1 with ((h1 | h1) | h1) | h1
   ·exact .inl (ZcU.1 h1)
   ·exact .inr (.inl (Nat.eq_of_beq_eq_true h1))
   ·obtain ⟨e, he, h2⟩ := List.any_eq_true.1 h1
    rw [Bool.and_eq_true] at h2
    exact .inr (.inr (.inl ⟨e, by simpa using he, h2.1, Nat.eq_of_beq_eq_true h2.2⟩))
   ·exact .inr (.inr (.inr h1))
  | succ k =>
   have := Zpf (k := k) hc.2 (by simpa using h)
   rwa [show j0 + 1 + k = j0 + (k + 1) from by omega] at this
def perm (π : List Nat) : Code → Code
 | .region id ops _ => .region id (π.filterMap (nth ops.toList)).toArray false
 | c => c
def noG (o : Oper) : Bool := (match o.guard with | none => true | _ => false) && (match o.op with | .select _ _ => false | _ => true)
end Go.Eng
