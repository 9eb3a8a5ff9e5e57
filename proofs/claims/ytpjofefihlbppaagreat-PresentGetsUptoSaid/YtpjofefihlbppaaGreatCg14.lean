import Derived.Test.YtpjofefihlbppaaGreatCg13
import Derived.Test.YtpjofefihlbppaaGreatCg00
namespace Go.Eng
set_option linter.all false
open Go Go.RowKit
def Ziv : Nat → List Blk → List (Key × Blk)
 | _, [] => []
 | i, b :: bs => ((0, i), b) :: Ziv (i + 1) bs
abbrev Cl := (Key → Prop) → Nat → Hp → (Nat → AV) → Prop
structure KO (P : Program) (f : FuncId) (os : Nat) (ys : List AV) (bi : List Blk) (Θ : Cl) {γ : Type} (M : Option γ) (e : γ → AV) (bs : γ → List Blk) : Prop where
 k : ∀ l H (ks : List Key) (gs : List Nat) (θ : Nat → AV), ks.length = os → Zt4 l ks → ks.Nodup → HOk H (rOf l ks gs θ H) (Ziv 0 bi) 0 ks → Θ (fun k => k ∈ ks) l H θ → ∀ y, M = some y →
  Zb8 P f l (Zaq (rOf l ks gs θ H) ys) H (fun z H' => z = ren (rOf l ks gs θ H) (e y) ∧ H' = Zhz H ks (Zdh (rOf l ks gs θ H) 0 (bs y)))
mutual
def kno (os : Nat) : AV → Bool
 | .ref k _ _ _ => Nat.beq k.1 0 && Nat.ble (k.2 + 1) os
 | .ptr k _ _ => Nat.beq k.1 0 && Nat.ble (k.2 + 1) os
 | .mp k _ => Nat.beq k.1 0 && Nat.ble (k.2 + 1) os
 | .fn f xs ys => (match f with | .yield _ => false | _ => true) && Zr5 os xs && Zr5 os ys
 | .agg xs => Zr5 os xs
 | .tup xs => Zr5 os xs
 | .top => true
 | .d _ => true
 | .e0 => true
 | .p _ => true
 | .iptr _ _ => true
 | .ifc _ _ _ => true
def Zr5 (os : Nat) : List AV → Bool
 | [] => true
 | x :: xs => kno os x && Zr5 os xs
end
def ZkQ (os : Nat) (r r' : Ren) : Prop := ∀ q, q < os → r.κ (0, q) = r'.κ (0, q) ∧ r.γ (0, q) = r'.γ (0, q)
theorem Zi4 {os : Nat} {r r' : Ren} (hs : ZkQ os r r') {k : Key} (h : (Nat.beq k.1 0 && Nat.ble (k.2 + 1) os) = true) : r.κ k = r'.κ k ∧ r.γ k = r'.γ k := by
 simp only [Bool.and_eq_true] at h
 obtain ⟨a, b⟩ := k
 have h1 := Ya h.1
 have h2 := Yc h.2
 simp only at h1 h2
 subst h1
 exact hs b h2
mutual
theorem Zji {os : Nat} {r r' : Ren} (hs : ZkQ os r r') : ∀ x : AV, kno os x = true → ren r x = ren r' x
 | .ref k g off n, h => by obtain ⟨e1, e2⟩ := Zi4 hs h; simp only [ren, e1, e2]
 | .ptr k g off, h => by obtain ⟨e1, e2⟩ := Zi4 hs h; simp only [ren, e1, e2]
 | .mp k g, h => by obtain ⟨e1, e2⟩ := Zi4 hs h; simp only [ren, e1, e2]
 | .fn f xs ys, h => by
  simp only [kno, Bool.and_eq_true] at h
  have e1 := Zd2 hs xs h.1.2
  have e2 := Zd2 hs ys h.2
  cases f <;> first | (simp only [ren, e1, e2]; done) | (simp at h)
 | .agg xs, h => by simp only [kno] at h; simp only [ren, Zd2 hs xs h]
 | .tup xs, h => by simp only [kno] at h; simp only [ren, Zd2 hs xs h]
 | .top, _ => by simp [ren]
 | .d _, _ => by simp [ren]
 | .e0, _ => by simp [ren]
 | .p _, _ => by simp [ren]
 | .iptr _ _, _ => by simp [ren]
 | .ifc _ _ _, _ => by simp [ren]
theorem Zd2 {os : Nat} {r r' : Ren} (hs : ZkQ os r r') : ∀ xs : List AV, Zr5 os xs = true → Zaq r xs = Zaq r' xs
 | [], _ => by simp [Zaq]
 | x :: xs, h => by
  simp only [Zr5, Bool.and_eq_true] at h
  simp only [Zaq, Zji hs x h.1, Zd2 hs xs h.2]
end
def Zpk (os : Nat) : List Blk → Prop
 | [] => True
 | b :: bs => (Zga b.cells ∨ Zr5 os b.cells = true) ∧ b.live = true ∧ Zpk os bs
theorem Zpk.ren {os : Nat} {r r' : Ren} (hs : ZkQ os r r') : ∀ (bs : List Blk) (i : Nat), i + bs.length ≤ os → Zpk os bs → Zdh r i bs = Zdh r' i bs
 | [], _, _, _ => rfl
 | b :: bs, i, hl, h => by
  simp only [YZ] at hl
  have e1 : Zaq r b.cells = Zaq r' b.cells := by
   rcases h.1 with hf | hk
   ·rw [Zcb hf, Zcb hf]
   ·exact Zd2 hs _ hk
  simp only [Zdh, Zpk.ren hs bs (i + 1) (by omega) h.2.2, Za1, e1, (hs i (by omega)).2]
theorem Zpk.live {os : Nat} : ∀ {bs : List Blk}, Zpk os bs → ∀ b ∈ bs, b.live = true
 | c :: bs, h, b, hb => by
  rcases Yv.1 hb with rfl | hb
  ·exact h.2.1
  ·exact Zpk.live h.2.2 b hb
theorem Zkw : Zga [] := fun x hx => by cases hx
theorem ko1 {P : Program} {T : Nat → Option TI} {n : Nat} {f : FuncId} {fn : Func} {ys : List AV} {bi : List Blk} {Θ : Cl} {γ : Type} {M : Option γ} {e : γ → AV} {bs : γ → List Blk} (hf : P.funcs[f]? = some fn) (hn : fn.ntmps = n) (hT : TOk P T) (rs : List ResultVar) (os : Nat)
  (h : ∀ C : Cx, CO C os → Θ C.no C.l C.H0 C.θ → ∀ y, M = some y → ∀ Post : AV → List Blk → Prop, HL (fun y => Post (e y) (bs y)) y → LW P n C (pa [] (Zah fn)) (mkS (Zix 0 ys) (Ziv 0 bi)) (FQ T rs os Post))
  (he : ∀ y, kno os (e y) = true := by intro y; kernel_rfl) (hB : ∀ y, Zpk os (bs y) := by intro y; repeat (first | exact trivial | refine ⟨.inl (Zaf _ _), rfl, ?_⟩ | refine ⟨.inl Zkw, rfl, ?_⟩ | refine ⟨.inr (by kernel_rfl), rfl, ?_⟩)) (hl : ∀ y, (bs y).length = os := by intro y; rfl) (hin : Zth os (Ziv 0 bi) = true := by kernel_rfl)
  (hb : fn.body = some (Zah fn) := by kernel_rfl) (hname : (fn.name == "runtime.NumGoroutine") = false := by kernel_rfl) (hr : fn.results.toList = rs := by kernel_rfl) (hx : Nat.ble ys.length n = true := by kernel_rfl) : KO P f os ys bi Θ M e bs :=
 ⟨fun l H ks gs θ hks hlow hnd hH hΘ y hy => by
  have hN : ∀ r, NmO l ks gs r → ZkQ os r (rOf l ks gs θ H) := fun r hr q hq => by
   obtain ⟨h1, h2⟩ := hr
   exact ⟨congrFun h1 _, h2 q (by omega)⟩
  refine ZiW rs (Zah fn) ks gs os θ ys (Ziv 0 bi) (e y) (bs y) (Y' := ren (rOf l ks gs θ H) (e y)) (bs' := Zdh (rOf l ks gs θ H) 0 (bs y)) hf hb hname hn hr (by rw [ZaF]; exact Yc hx) hT hks hlow hnd hin hH rfl (hl y) (hB y).live
   (fun r hr => Zji (hN r hr) _ (he y)) (fun r hr => Zpk.ren (hN r hr) _ _ (by rw [hl]; omega) (hB y)) (fun C hC hO hF hl' hH0 hθ hκ hno => ?_) ⟨rfl, rfl⟩
  refine h C ⟨hC, hO, hF, fun q hq => ?_⟩ (by rw [hno, hl', hH0, hθ]; exact hΘ) y hy (fun z b => z = e y ∧ b = bs y) ⟨rfl, rfl⟩
  rw [hno, hκ]
  show (match nth ks q with | some k => k | none => (0, 0)) ∈ ks
  rw [ZbC, Yb (by omega)]
  exact Yag _⟩
def Zlb (r : Ren) : List (Key × Blk) → List Nat
 | [] => []
 | (k, b) :: r' => (r.γ k + b.g) :: Zlb r r'
def BE (r r' : Ren) : Nat → List Blk → List (Key × Blk) → Prop
 | i, b :: bs, (k, c) :: cs => (b.live = true → c.live = true ∧ Za1 r (0, i) b = Za1 r' k c) ∧ r.γ (0, i) + b.g = r'.γ k + c.g ∧ BE r r' (i + 1) bs cs
 | _, [], [] => True
 | _, _, _ => False
def ZeD : List Key → Bool
 | [] => true
 | k :: ks => !(ks.any (ZdQ k)) && ZeD ks
theorem Zdv {κ : Key → Key} {os : Nat} (hinj : ∀ q k : Key, okK os q = true → okK os k = true → q ≠ k → κ q ≠ κ k) : ∀ (ks : List Key), ZeD ks = true → ks.all (okK os) = true → (ks.map κ).Nodup
 | [], _, _ => List.nodup_nil
 | k :: ks, h, ho => by
  simp only [ZeD, Bool.and_eq_true, Bool.not_eq_true'] at h
  simp only [Yab, Bool.and_eq_true] at ho
  rw [YG, List.nodup_cons]
  refine ⟨fun hm => ?_, Zdv hinj ks h.2 ho.2⟩
  obtain ⟨q, hq, e⟩ := YB.1 hm
  have hne : q ≠ k := fun e' => Zg5 h.1 (e' ▸ hq)
  grind
section
variable {P : Program} {f : FuncId} {os os' : Nat} {ys : List AV} {bi : List Blk} {Θ : Cl} {γ : Type} {M : Option γ} {e : γ → AV} {bs : γ → List Blk} {C : Cx} {r : Ren} {xs : List AV} {x : AV} {y : γ}
theorem Zjz {fx : List Nat} (co : COx C os' fx) (g : Gd C r) : ∀ q k : Key, okK os' q = true → okK os' k = true → q ≠ k → r.κ q ≠ r.κ k := by
 intro q k hq hk hne he
 rw [g.κ] at he
 rcases ZdU hq with h1 | ⟨h1, h2⟩ <;> rcases ZdU hk with j1 | ⟨j1, j2⟩
 ·obtain ⟨a, b⟩ := q
  obtain ⟨c, d⟩ := k
  simp only at h1 j1
  subst h1; subst j1
  rw [co.ok.own, co.ok.own] at he
  grind
 ·obtain ⟨a, b⟩ := q
  obtain ⟨c, d⟩ := k
  simp only at h1 j1 j2
  subst h1; subst j1
  rw [co.ok.own] at he
  have := co.ok.out d (by rw [co.O]; exact j2)
  grind
 ·obtain ⟨a, b⟩ := q
  obtain ⟨c, d⟩ := k
  simp only at h1 h2 j1
  subst h1; subst j1
  rw [co.ok.own] at he
  have := co.ok.out b (by rw [co.O]; exact h2)
  grind
 ·obtain ⟨a, b⟩ := q
  obtain ⟨c, d⟩ := k
  simp only at h1 h2 j1 j2
  subst h1; subst j1
  have := co.ok.inj b d (by rw [co.O]; exact h2) (by rw [co.O]; exact j2) he
  grind
theorem ZgH {fx : List Nat} (co : COx C os' fx) (g : Gd C r) : ∀ (ks : List Key), ks.all (okK os') = true → Zt4 (C.l + 1) (ks.map r.κ)
 | [], _ => trivial
 | k :: ks, h => by
  simp only [Yab, Bool.and_eq_true] at h
  refine ⟨?_, ZgH co g ks h.2⟩
  rw [g.κ]
  obtain ⟨a, b⟩ := k
  rcases ZdU h.1 with h1 | ⟨h1, h2⟩
  ·simp only at h1; subst h1; rw [co.ok.own]; exact Ye _
  ·simp only at h1 h2; subst h1; exact YaM (co.ok.out b (by rw [co.O]; exact h2))
theorem Zf5 : ∀ (bi : List Blk) (i j : Nat), lkH (Ziv i bi) (0, i + j) = (bi[j]?).getD Zk7
 | [], i, j => by simp [Ziv, lkH]
 | b :: bi, i, 0 => by simp [Ziv, lkH, ZdQ]
 | b :: bi, i, j + 1 => by
  have ih := Zf5 bi (i + 1) j
  simp only [Ziv, lkH]
  have : ZdQ (0, i) (0, i + (j + 1)) = false := by
   simp only [ZdQ, Bool.and_eq_false_iff]
   right
   cases h : Nat.beq i (i + (j + 1)) with
   | false => rfl
   | true => have := Ya h; omega
  grind
theorem Ziq {r' : Ren} {H' : Hp} : ∀ (bi : List Blk) (cb : List (Key × Blk)) (i : Nat) (B : List Blk), (∀ j, lkH (Ziv 0 B) (0, i + j) = (bi[j]?).getD Zk7) → BE r' r i bi cb →
  (∀ p ∈ cb, (H' (r.κ p.1)).g = r.γ p.1 + p.2.g ∧ (p.2.live = true → H' (r.κ p.1) = Za1 r p.1 p.2)) → HOk H' r' (Ziv 0 B) i ((cb.map (·.1)).map r.κ)
 | [], [], i, B, _, _, _ => trivial
 | b :: bi, (k, c) :: cb, i, B, hB, h, hH => by
  have h0 := hB 0
  simp only [YE, YU, Yae] at h0
  obtain ⟨h1, h2, h3⟩ := h
  refine ⟨?_, Ziq bi cb (i + 1) B (fun j => ?_) h3 fun p hp => hH p (Ys _ hp)⟩
  ·rw [h0]
   have hc := hH _ (Yy ..)
   grind
  ·have := hB (j + 1)
   grind
 | [], _ :: _, _, _, _, h, _ => h.elim
 | _ :: _, [], _, _, _, h, _ => h.elim
theorem ZnJ {H : Hp} {k : Key} : updH H k (H k) = H := by
 funext q
 by_cases h : q = k
 ·subst h; exact Zac ..
 ·exact Zad _ _ h
theorem ZfT {r' : Ren} {H' : Hp} : ∀ (bi : List Blk) (cb : List (Key × Blk)) (i : Nat), BE r' r i bi cb → (∀ b ∈ bi, b.live = true) → (∀ p ∈ cb, p.2.live = true → H' (r.κ p.1) = Za1 r p.1 p.2) → Zhz H' ((cb.map (·.1)).map r.κ) (Zdh r' i bi) = H'
 | [], [], _, _, _, _ => rfl
 | b :: bi, (k, c) :: cb, i, h, hl, hH => by
  obtain ⟨h1, h2, h3⟩ := h
  have e := h1 (hl b (Yy ..))
  have e2 := hH _ (Yy ..) e.1
  simp only [YG, Zhz, Zdh]
  rw [e.2, ← e2, ZnJ]
  exact ZfT bi cb (i + 1) h3 (fun b hb => hl b (Ys _ hb)) fun p hp => hH p (Ys _ hp)
 | [], _ :: _, _, h, _, _ => h.elim
 | _ :: _, [], _, h, _, _ => h.elim
theorem ZgO {r' : Ren} : ∀ (bo : List Blk) (cb cb2 : List (Key × Blk)) (i : Nat) (H' : Hp), BE r' r i bo cb2 → (∀ b ∈ bo, b.live = true) → cb.map (·.1) = cb2.map (·.1) → Zhz H' ((cb.map (·.1)).map r.κ) (Zdh r' i bo) = ZdK r cb2 H'
 | [], [], [], _, _, _, _, _ => rfl
 | [], _ :: _, [], _, _, _, _, h => by cases h
 | b :: bo, [], _ :: _, _, _, _, _, h => by cases h
 | b :: bo, (k, c) :: cb, (k2, c2) :: cb2, i, H', h, hl, he => by
  obtain ⟨h1, h2, h3⟩ := h
  simp only [YG, List.cons.injEq] at he
  obtain ⟨rfl, he⟩ := he
  have e := h1 (hl b (Yy ..))
  simp only [YG, Zhz, Zdh, ZdK]
  rw [e.2]
  exact ZgO bo cb cb2 (i + 1) _ h3 (fun b hb => hl b (Ys _ hb)) he
 | _ :: _, _, [], _, _, h, _, _ => h.elim
 | [], _, _ :: _, _, _, h, _, _ => h.elim
def rC (C : Cx) (r : Ren) (cb : List (Key × Blk)) (θ : Nat → AV) (H : Hp) : Ren := rOf (C.l + 1) ((cb.map (·.1)).map r.κ) (Zlb r cb) θ H
def Th (Θ : Cl) (C : Cx) (r : Ren) (cb hb : List (Key × Blk)) (θ : Nat → AV) : Prop :=
 ∀ H', (∀ p ∈ hb, (H' (r.κ p.1)).g = r.γ p.1 + p.2.g ∧ (p.2.live = true → H' (r.κ p.1) = Za1 r p.1 p.2)) → (∀ k : Key, k.1 ≤ C.l → ¬ r.no k → H' k = r.H0 k) → Θ (fun k => k ∈ (cb.map (·.1)).map r.κ) (C.l + 1) H' θ
theorem Zb5 (K : KO P f os ys bi Θ M e bs) (hy : M = some y) {fx : List Nat} (co : COx C os' fx) (g : Gd C r) (cb cc : List (Key × Blk)) (θ : Nat → AV) (hΘ : Th Θ C r cb (cb ++ cc) θ) (hBE : ∀ H, BE (rC C r cb θ H) r 0 bi cb) (hro : bs y = bi := by rfl) (hlv' : bi.all Blk.live = true := by kernel_rfl) (hlv2' : (cb ++ cc).all (fun p => p.2.live) = true := by kernel_rfl) (hx : ∀ H, Zaq (rC C r cb θ H) ys = Zaq r xs := by intro H; kernel_rfl) (hy2 : ∀ H, ren (rC C r cb θ H) (e y) = ren r x := by intro H; kernel_rfl)
  (hk : ((cb.map (·.1)).all (okK os') && ZeD (cb.map (·.1)) && Nat.beq cb.length os) = true := by kernel_rfl) : Zg4 P C.l r f xs (cb ++ cc) x := by
 intro H' h1 h2
 have hlv : ∀ b ∈ bi, b.live = true := fun b hb => Yg.1 hlv' b hb
 have hlv2 : ∀ p ∈ cb ++ cc, p.2.live = true := fun p hp => Yg.1 hlv2' p hp
 have hsub : ∀ p ∈ cb, p ∈ cb ++ cc := fun p hp => Y1 _ hp
 simp only [Bool.and_eq_true] at hk
 have hg : ∀ p ∈ cb ++ cc, (H' (r.κ p.1)).g = r.γ p.1 + p.2.g ∧ (p.2.live = true → H' (r.κ p.1) = Za1 r p.1 p.2) := fun p hp => ⟨by rw [h1 p hp (hlv2 p hp)]; rfl, h1 p hp⟩
 have := K.k (C.l + 1) H' ((cb.map (fun p : Key × Blk => p.1)).map r.κ) (Zlb r cb) θ (by rw [YD, YD]; exact Ya hk.2) (ZgH co g _ hk.1.1) (Zdv (Zjz co g) _ hk.1.2 hk.1.1)
  (Ziq bi cb 0 bi (fun j => by have := Zf5 bi 0 j; rwa [Yx] at this ⊢) (hBE H') fun p hp => hg p (hsub p hp)) (hΘ H' hg h2) y hy
 rw [← hx H']
 refine this.mono fun z H'' ⟨e1, e2⟩ => ⟨e1.trans (hy2 H'), e2.trans ?_⟩
 rw [hro]
 exact ZfT bi cb 0 (hBE H') hlv fun p hp hl => (hg p (hsub p hp)).2 hl
theorem Za2 (K : KO P f os ys bi Θ M e bs) (hy : M = some y) {fx : List Nat} (co : COx C os' fx) (g : Gd C r) (cb cc cb2 : List (Key × Blk)) (θ : Nat → AV) (hΘ : Th Θ C r cb (cb ++ cc) θ)
  (hBE : ∀ H, BE (rC C r cb θ H) r 0 bi cb) (hBE2 : ∀ H, BE (rC C r cb θ H) r 0 (bs y) cb2) (hlv' : (bs y).all Blk.live = true := by kernel_rfl) (hx : ∀ H, Zaq (rC C r cb θ H) ys = Zaq r xs := by intro H; kernel_rfl) (hy2 : ∀ H, ren (rC C r cb θ H) (e y) = ren r x := by intro H; kernel_rfl)
  (hk : ((cb.map (·.1)).all (okK os') && ZeD (cb.map (·.1)) && Nat.beq cb.length os) = true := by kernel_rfl) (he : cb.map (·.1) = cb2.map (·.1) := by rfl) : Zg2 P C.l r f xs (cb ++ cc) x cb2 [] := by
 have hlv : ∀ b ∈ bs y, b.live = true := fun b hb => Yg.1 hlv' b hb
 have hsub : ∀ p ∈ cb, p ∈ cb ++ cc := fun p hp => Y1 _ hp
 refine ZpI rfl rfl fun H' hg h2 => ?_
 simp only [Bool.and_eq_true] at hk
 have := K.k (C.l + 1) H' ((cb.map (fun p : Key × Blk => p.1)).map r.κ) (Zlb r cb) θ (by rw [YD, YD]; exact Ya hk.2) (ZgH co g _ hk.1.1) (Zdv (Zjz co g) _ hk.1.2 hk.1.1)
  (Ziq bi cb 0 bi (fun j => by have := Zf5 bi 0 j; rwa [Yx] at this ⊢) (hBE H') fun p hp => hg p (hsub p hp)) (hΘ H' hg h2) y hy
 rw [← hx H']
 exact this.mono fun z H'' ⟨e1, e2⟩ => ⟨e1.trans (hy2 H'), e2.trans (ZgO (bs y) cb cb2 0 H' (hBE2 H') hlv he)⟩
end
structure CloM (P : Program) (C : Cx) (i : Nat) (xs : List AV) {γ : Type} (M : Option γ) (e : γ → AV) : Prop where
 k : ∀ y, M = some y → Zh9 P C.l C.no C.H0 (C.θ i) xs (e y)
 x : ∀ r, Zaq r xs = xs
 e : ∀ r y, ren r (e y) = e y
section
variable {os : Nat} {β γ : Type} [Inhabited γ]
theorem CloM.callF {P : Program} {i : Nat} {xs : List AV} {M : Option γ} {e : γ → AV} (E : Ev os β) (h : CloM P E.C i xs M e) {y : γ} (hy : M = some y) : Zpi P E.E.l E.E.r i xs [] (e y) :=
 ZqW (congrFun E.g.θ i) (by rw [E.hl, E.g.no, E.g.H]; exact h.k y hy) (h.x _) (h.e _ _)
@[reducible] def cf (P : Program) (i : Nat) (xs : List AV) (M : Option γ) (e : γ → AV) (k : γ → PT os β) : PT os β :=
 ⟨.call (e (M.getD default)) [] (k (M.getD default)).a, fun E => Zpi P E.l E.r i xs [] (e (M.getD default)) ∧ (k (M.getD default)).q E, M.bind fun y => (k y).m, fun E => CloM P E.C i xs M e ∧ ∀ y, (k y).n E, fun E hn y hm hL => by
  obtain ⟨x, h1, h2⟩ := bind_some hm
  have h3 : M.getD default = x := by rw [h1]; rfl
  rw [h3]
  exact ⟨hn.1.callF E h1, (k x).ok E (hn.2 x) y h2 hL⟩⟩
@[reducible] def cs (P : Program) (f : FuncId) (xs : List AV) (ks : List Key) (hb : List (Key × Blk)) (M : Option γ) (e : γ → AV) (k : γ → PT os β) : PT os β :=
 ⟨.call (e (M.getD default)) ks (k (M.getD default)).a, fun E => Zg4 P E.l E.r f xs hb (e (M.getD default)) ∧ (k (M.getD default)).q E, M.bind fun y => (k y).m, fun E => (∀ y, M = some y → Zg4 P E.C.l E.E.r f xs hb (e y)) ∧ ∀ y, (k y).n E, fun E hn y hm hL => by
  obtain ⟨x, h1, h2⟩ := bind_some hm
  have h3 : M.getD default = x := by rw [h1]; rfl
  rw [h3]
  exact ⟨by rw [E.hl]; exact hn.1 x h1, (k x).ok E (hn.2 x) y h2 hL⟩⟩
@[reducible] def csg (b : Bool) (P : Program) (f : FuncId) (xs : List AV) (ks : List Key) (hb : List (Key × Blk)) (M : Option γ) (e : γ → AV) (k : γ → PT os β) : PT os β :=
 ⟨.call (e (M.getD default)) ks (k (M.getD default)).a, fun E => (b = true → Zg4 P E.l E.r f xs hb (e (M.getD default))) ∧ (k (M.getD default)).q E, if (b = true → M.isSome = true) then (k (M.getD default)).m else none, fun E => (∀ y, M = some y → Zg4 P E.C.l E.E.r f xs hb (e y)) ∧ ∀ y, (k y).n E, fun E hn y hm hL => by
  obtain ⟨h0, hm⟩ := ZaB hm
  refine ⟨fun hb => ?_, (k _).ok E (hn.2 _) y hm hL⟩
  obtain ⟨x, h1⟩ := YH.1 (h0 hb)
  have h3 : M.getD default = x := by rw [h1]; rfl
  rw [h3, E.hl]; exact hn.1 x h1⟩
@[reducible] def mv {α : Type} [Rw α] (d q : Nat) (xs : List α) (k : PT os β) (hq : Nat.ble (q + 1) os = true := by kernel_rfl) : PT os β :=
 ⟨.mv d q k.a, fun E => ZdT (Zab Rw.e xs) ∧ (q < os ∧ E.r.no (E.r.κ (0, q))) ∧ k.q E, k.m, k.n, fun E hn y hm hL =>
  ⟨Zgn _ _, ⟨Yc hq, by rw [E.g.no, E.g.κ]; exact E.co.W q (Yc hq)⟩, k.ok E hn y hm hL⟩⟩
@[reducible] def mvc {α : Type} [Rw α] (d q e i : Nat) (xs : List α) (k : PT os β) (hq : Nat.ble (q + 1) os = true := by kernel_rfl) : PT os β :=
 ⟨.mvc d q e i k.a, fun E => ZdT (Zab Rw.e xs) ∧ (q < os ∧ E.r.no (E.r.κ (0, q))) ∧ k.q E, k.m, k.n, fun E hn y hm hL =>
  ⟨Zgn _ _, ⟨Yc hq, by rw [E.g.no, E.g.κ]; exact E.co.W q (Yc hq)⟩, k.ok E hn y hm hL⟩⟩
end
section
variable {P : Program} {os os' : Nat} {ys : List AV} {bi : List Blk} {Θ : Cl} {γ : Type} {M : Option γ} {e : γ → AV} {bs : γ → List Blk} {C : Cx} {r : Ren} {y : γ}
theorem Zev {f : FuncId} (K : KO P f os ys bi Θ M e bs) (hy : M = some y) {fx : List Nat} (co : COx C os' fx) (g : Gd C r) (cb cb0 : List (Key × Blk)) {hb : List (Key × Blk)} {H' : Hp} (hg : ∀ p ∈ hb, (H' (r.κ p.1)).g = r.γ p.1 + p.2.g ∧ (p.2.live = true → H' (r.κ p.1) = Za1 r p.1 p.2)) (hsub : ∀ p ∈ cb, p ∈ hb)
  {zs caps : List AV} (θ : Nat → AV) (hΘ : ∀ l' H'', Θ (fun k => k ∈ (cb.map (·.1)).map r.κ) l' H'' θ) (hBE : ∀ l H, BE (rOf l ((cb.map (·.1)).map r.κ) (Zlb r cb) θ H) r 0 bi cb) (hro : bs y = bi := by rfl) (hlv' : bi.all Blk.live = true := by kernel_rfl)
  (hx : ∀ l H, Zaq (rOf l ((cb.map (·.1)).map r.κ) (Zlb r cb) θ H) ys = zs ++ caps := by intro l H; kernel_rfl) (hy2 : ∀ l H, ren (rOf l ((cb.map (·.1)).map r.κ) (Zlb r cb) θ H) (e y) = e y := by intro l H; kernel_rfl)
  (hk : (((cb ++ cb0).map (·.1)).all (okK os') && ZeD ((cb ++ cb0).map (·.1)) && Nat.beq cb.length os) = true := by kernel_rfl) : Zh9 P (C.l + 1) (fun k => k ∈ (cb0.map (·.1)).map r.κ) H' (.fn (.func f) [] caps) zs (e y) := by
 have hlv : ∀ b ∈ bi, b.live = true := fun b hb => Yg.1 hlv' b hb
 refine ⟨f, [], caps, rfl, fun l' H'' hl ho => ?_⟩
 simp only [Bool.and_eq_true, List.map_append, List.all_append] at hk
 obtain ⟨⟨⟨k1, k2⟩, k3⟩, k4⟩ := hk
 have hnd := Zdv (Zjz co g) _ k3 (by rw [List.all_append, k1, k2]; rfl)
 rw [List.map_append, List.nodup_append] at hnd
 have hat : ∀ p ∈ cb, H'' (r.κ p.1) = H' (r.κ p.1) := fun p hp => by
  have hm : r.κ p.1 ∈ (cb.map (·.1)).map r.κ := Yah (Yah hp)
  exact ho _ (Zhc (ZgH co g _ k1) _ hm) fun h => hnd.2.2 _ hm _ h rfl
 have hg2 : ∀ p ∈ cb, (H'' (r.κ p.1)).g = r.γ p.1 + p.2.g ∧ (p.2.live = true → H'' (r.κ p.1) = Za1 r p.1 p.2) := fun p hp => by rw [hat p hp]; exact hg p (hsub p hp)
 have hlow : Zt4 l' ((cb.map (·.1)).map r.κ) := by
  have := ZgH co g (cb.map (·.1)) k1
  generalize (cb.map (·.1)).map r.κ = ks at this
  induction ks with
  | nil => trivial
  | cons k ks ih => exact ⟨Yad this.1 hl, ih this.2⟩
 have := K.k l' H'' ((cb.map (fun p : Key × Blk => p.1)).map r.κ) (Zlb r cb) θ (by rw [YD, YD]; exact Ya k4) hlow hnd.1
  (Ziq bi cb 0 bi (fun j => by have := Zf5 bi 0 j; rwa [Yx] at this ⊢) (hBE l' H'') hg2) (hΘ l' H'') y hy
 rw [Yaa, ← hx l' H'']
 refine this.mono fun z H3 ⟨e1, e2⟩ => ⟨e1.trans (hy2 l' H''), e2.trans ?_⟩
 rw [hro]
 exact ZfT bi cb 0 (hBE l' H'') hlv fun p hp hl => (hg2 p hp).2 hl
end
theorem ZoE {C : Cx} {r : Ren} {os' : Nat} {P : Program} {i : Nat} {xs : List AV} {y : AV} {fx : List Nat} (co : COx C os' fx) (g : Gd C r) (cb : List (Key × Blk)) {H' : Hp} (ho : ∀ k : Key, k.1 ≤ C.l → ¬ r.no k → H' k = r.H0 k) (h : Zh9 P C.l C.no C.H0 (C.θ i) xs y)
  (hk : ((cb.map (·.1)).all (okK os')) = true := by kernel_rfl) : Zh9 P (C.l + 1) (fun k => k ∈ (cb.map (·.1)).map r.κ) H' (r.θ i) xs y := by
 rw [g.θ]
 refine ZwO h (Nat.le_succ _) (fun q hq hn hm => ?_) fun q hq hn => ?_
 ·obtain ⟨k, hk', e⟩ := YB.1 hm
  rw [g.κ] at e
  obtain ⟨a, b⟩ := k
  rcases ZdU (Yg.1 hk _ hk') with h1 | ⟨h1, h2⟩
  ·simp only at h1; subst h1; rw [co.ok.own] at e; rw [← e] at hq; simp only at hq; omega
  ·simp only at h1 h2; subst h1; rw [← e] at hn; exact hn (co.W b h2)
 ·rw [← g.H]; exact ho q hq (by rw [g.no]; exact hn)
theorem Zau {r r' : Ren} {k k' : Key} {g g' : Nat} {e : EK} {sz : Nat} {cs : List AV} (h : Zga cs) (hg : r.γ k + g = r'.γ k' + g') : Za1 r k ⟨g, true, e, sz, cs⟩ = Za1 r' k' ⟨g', true, e, sz, cs⟩ := by
 simp only [Za1, Zcb h, hg]
section
variable {P : Program} {T : Nat → Option TI} {n : Nat} {C : Cx} {τ : St} {Q : Exit → St → Prop} {os k : Nat} {c : Code} {β : Type} {L : β → Prop} {y : β}
theorem ZdN {fx : List Nat} (co : COx C os fx) (hT : TOk P T) (m : Nat) (v : PT os β) (lf : Lf) (hv : v.m = some y) (hL : HL L y) (hn : ∀ r (g : Gd C r), v.n ⟨⟨C.l, r, fun _ τ' => LO P n C c (k + m) τ' Q, fun _ _ => False⟩, L, C, _, co, g, rfl⟩)
  (hq : ∀ l r Q Post, Zdj r os v.a τ (fun τ a => ZpH P T l n r ((Zcw c).toList.map (·.dst)) (ZhN m (ZhB k (Zcw c).toList)) [] a (fun τ' env a' => Zdj r os a' (ZiX env τ') (fun τ _ => Ze8 fx lf τ (Q .normal))) τ) = v.q ⟨l, r, Q, Post⟩ := by intro l r Q P; kernel_rfl) : LO P n C c k τ Q :=
 ZAw co.ok hT co.O co.F m v.a lf (fun r Φ => v.q ⟨C.l, r, fun _ => Φ, fun _ _ => False⟩) (fun r Φ => hq _ r (fun _ => Φ) _) fun r h1 h2 h3 h4 => v.ok _ (hn r ⟨h1, h2, h3, h4⟩) y hv hL
theorem ZcF {fx : List Nat} (co : COx C os fx) (hT : TOk P T) (v : PT os β) (lf : Lf) (hv : v.m = some y) (hL : HL L y) (hn : ∀ r (g : Gd C r), v.n ⟨⟨C.l, r, Q, fun _ _ => False⟩, L, C, _, co, g, rfl⟩)
  (hq : ∀ l r Q Post, Zdj r os v.a τ (fun τ a => ZpH P T l n r ((Zcw c).toList.map (·.dst)) (ZhB k (Zcw c).toList) [] a (fun τ' env a' => Zdj r os a' (ZiX env τ') (fun τ _ => Ze8 fx lf τ (Q .normal))) τ) = v.q ⟨l, r, Q, Post⟩ := by intro l r Q P; kernel_rfl) : LO P n C c k τ Q :=
 ZBf co.ok hT co.O co.F v.a lf (fun r Q => v.q ⟨C.l, r, Q, fun _ _ => False⟩) (fun r Q => hq _ r Q _) fun r h1 h2 h3 h4 => v.ok _ (hn r ⟨h1, h2, h3, h4⟩) y hv hL
theorem Zfr {γ : Type} {M : Option γ} {kk : γ → Option β} {ss : List (Nat × AV)} {hs : List (Key × Blk)} {fx : List Nat} (co : COx C os fx) (hm : M.bind kk = some y) (f : FuncId) (xs : List AV) (ks : List Key) (hb : List (Key × Blk)) (e : γ → AV) (hb2 : γ → List (Key × Blk)) (fl : List Key)
  (hwr : ∀ z, wrL C (hb2 z)) (hfl : flL (lkH hs) fl) (hcall : ∀ z, M = some z → ∀ r, Gd C r → Zg2 P C.l r f xs hb (e z) (hb2 z) [])
  (h : ∀ z, kk z = some y → LO P n C c (k + 1) (mkS (ZpC (Zfb c k) (e z) (Zel [] ss)) (hb2 z ++ Zdl ((hb2 z).map (·.1)) [] fl hs)) Q)
  (hop : Zef c k = some (Zfb c k, callF c k, Zgm c k) := by kernel_rfl) (hf : ev (lkS ss) (callF c k) = .fn (.func f) [] [] := by kernel_rfl) (hxs : [] ++ (Zgm c k).map (ev (lkS ss)) ++ [] = xs := by kernel_rfl) (hhb : (ks.map fun k => (k, lkH hs k)) = hb := by kernel_rfl)
  (hok : ∀ z, (ZhF os (hb2 z) && Zzv [] (hb2 z) && Zgz [] fx && Zhg hs && ZkZ n (Zfb c k) && ks.all (okK os)) = true := by intro z; kernel_rfl) : LO P n C c k (mkS ss hs) Q := by
 obtain ⟨z, e1, e2⟩ := bind_some hm
 exact Zjm co.ok co.O co.F f [] [] xs hop hf hxs ks hb hhb (e z) (hb2 z) [] fl (hok z) (hwr z) hfl (fun r h1 h2 h3 h4 => hcall z e1 r ⟨h1, h2, h3, h4⟩) (h z e2)
theorem c6 {γ : Type} {M : Option γ} {kk : γ → Option β} {ss : List (Nat × AV)} {hs : List (Key × Blk)} {f : FuncId} {os' : Nat} {ys : List AV} {bi : List Blk} {Θ : Cl} {e0 : γ → AV} {bs : γ → List Blk} {fx : List Nat} (co : COx C os fx) (hm : M.bind kk = some y) (K : KO P f os' ys bi Θ M e0 bs)
  (cb cc : List (Key × Blk)) (e : γ → AV) (hb2 : γ → List (Key × Blk)) (fl : List Key)
  (h : ∀ z, kk z = some y → LO P n C c (k + 1) (mkS (ZpC (Zfb c k) (e z) (Zel [] ss)) (hb2 z ++ Zdl ((hb2 z).map (·.1)) [] fl hs)) Q)
  (θ : Ren → Nat → AV := fun _ => lkS []) (hΘ : ∀ r, Gd C r → Th Θ C r cb (cb ++ cc) (θ r) := by intro r g; exact fun _ _ _ => trivial) (xs : List AV := [] ++ (Zgm c k).map (ev (lkS ss)) ++ [])
  (hwr : ∀ z, wrL C (hb2 z) := by intro z; repeat (first | exact trivial | refine ⟨COx.W ‹_› _ (by decide), ?_⟩))
  (hfl : flL (lkH hs) fl := by repeat (first | exact trivial | refine ⟨Zaf _ _, ?_⟩))
  (hBE : ∀ r H, BE (rC C r cb (θ r) H) r 0 bi cb := by
   intro r H
   repeat (first | exact trivial | refine ⟨fun _ => ⟨rfl, Zau (Zaf _ _) (by kernel_rfl)⟩, by kernel_rfl, ?_⟩ | refine ⟨fun _ => ⟨rfl, Zau Zkw (by kernel_rfl)⟩, by kernel_rfl, ?_⟩ | refine ⟨fun _ => ⟨rfl, by kernel_rfl⟩, by kernel_rfl, ?_⟩ | refine ⟨(fun h => nomatch h), by kernel_rfl, ?_⟩))
  (hBE2 : ∀ z r H, BE (rC C r cb (θ r) H) r 0 (bs z) (hb2 z) := by
   intro z r H
   repeat (first | exact trivial | refine ⟨fun _ => ⟨rfl, Zau (Zaf _ _) (by kernel_rfl)⟩, by kernel_rfl, ?_⟩ | refine ⟨fun _ => ⟨rfl, Zau Zkw (by kernel_rfl)⟩, by kernel_rfl, ?_⟩ | refine ⟨fun _ => ⟨rfl, by kernel_rfl⟩, by kernel_rfl, ?_⟩))
  (hx : ∀ r H, Zaq (rC C r cb (θ r) H) ys = Zaq r xs := by intro r H; kernel_rfl) (hxs : [] ++ (Zgm c k).map (ev (lkS ss)) ++ [] = xs := by kernel_rfl) (hy2 : ∀ z r H, ren (rC C r cb (θ r) H) (e0 z) = ren r (e z) := by intro z r H; kernel_rfl)
  (hop : Zef c k = some (Zfb c k, callF c k, Zgm c k) := by kernel_rfl) (hf : ev (lkS ss) (callF c k) = .fn (.func f) [] [] := by kernel_rfl)
  (hhb : (((cb ++ cc).map (·.1)).map fun k => (k, lkH hs k)) = cb ++ cc := by kernel_rfl) (hlv : ∀ z, (bs z).all Blk.live = true := by intro z; kernel_rfl) (he : ∀ z, cb.map (·.1) = (hb2 z).map (·.1) := by intro z; rfl)
  (hk : ((cb.map (·.1)).all (okK os) && ZeD (cb.map (·.1)) && Nat.beq cb.length os') = true := by kernel_rfl)
  (hok : ∀ z, (ZhF os (hb2 z) && Zzv [] (hb2 z) && Zgz [] fx && Zhg hs && ZkZ n (Zfb c k) && ((cb ++ cc).map (·.1)).all (okK os)) = true := by intro z; kernel_rfl) : LO P n C c k (mkS ss hs) Q :=
 Zfr co hm f xs _ (cb ++ cc) e hb2 fl hwr hfl (fun z hz r g => Za2 K hz co g cb cc (hb2 z) (θ r) (hΘ r g) (fun H => hBE r H) (fun H => hBE2 z r H) (hlv z) (fun H => hx r H) (fun H => hy2 z r H) hk (he z)) h hop hf hxs hhb hok
theorem ZxC {fx : List Nat} (co : COx C os fx) (v : PT os β) (lf : Lf) (hv : v.m = some y) (hL : HL L y) (hn : ∀ r (g : Gd C r), v.n ⟨⟨C.l, r, fun _ τ' => LW P n C c τ' Q, fun _ _ => False⟩, L, C, _, co, g, rfl⟩)
  (hq : ∀ l r Q Post, Zdj r os v.a τ (fun τ _ => Ze8 fx lf τ (Q .normal)) = v.q ⟨l, r, Q, Post⟩ := by intro l r Q P; kernel_rfl) : LW P n C c τ Q :=
 Zx5 co.ok co.O co.F v.a lf (fun r Φ => v.q ⟨C.l, r, fun _ => Φ, fun _ _ => False⟩) (fun r Φ => hq _ r (fun _ => Φ) _) fun r h1 h2 h3 h4 => v.ok _ (hn r ⟨h1, h2, h3, h4⟩) y hv hL
theorem rg {c : Code} (h : LO P n C c 0 τ Q) (hs : ZCN c = true := by kernel_rfl) : LW P n C c τ Q := ZkH hs h
end
end Go.Eng
namespace Go.Eng
set_option linter.all false
open Go Go.RowKit
section
variable {α β : Type} (P : Program)
def Vp (s : Sem α) : Prop := ∀ w r w1, s.run P w = .ok r w1 → w1 = w ∧ ∀ w2, s.run P w2 = .ok r w2
def Rd (s : Sem α) : Prop := ∀ w r w1, s.run P w = .ok r w1 → w1 = w
variable {P}
theorem Vp.rd {s : Sem α} (h : Vp P s) : Rd P s := fun w r w1 e => (h w r w1 e).1
theorem Vp.pure (a : α) : Vp P (Pure.pure a : Sem α) := fun w r w1 e => by cases e; exact ⟨rfl, fun _ => rfl⟩
theorem Vp.halt (h : Halt) : Vp P (.halt h : Sem α) := fun w r w1 e => by cases e
theorem Vp.program : Vp P Go.program := fun w r w1 e => by cases e; exact ⟨rfl, fun _ => rfl⟩
theorem Vp.bind {s : Sem α} {f : α → Sem β} (h : Vp P s) (k : ∀ a, Vp P (f a)) : Vp P (s >>= f) := fun w r w1 e => by
 rw [Sem.run_bind] at e
 cases hs : s.run P w with
 | halt x w' => rw [hs] at e; cases e
 | ok a w' =>
  rw [hs] at e
  obtain ⟨rfl, h2⟩ := h w a w' hs
  obtain ⟨h3, h4⟩ := k a _ _ _ e
  exact ⟨h3, fun w2 => by rw [Sem.run_bind, h2 w2]; exact h4 w2⟩
theorem Rd.bind {s : Sem α} {f : α → Sem β} (h : Rd P s) (k : ∀ a, Rd P (f a)) : Rd P (s >>= f) := fun w r w1 e => by
 rw [Sem.run_bind] at e
 cases hs : s.run P w with
 | halt x w' => rw [hs] at e; cases e
 | ok a w' =>
  rw [hs] at e
  have h1 := h w a w' hs
  subst h1
  exact k a _ _ _ e
theorem Zer (t : TypeId) : Vp P (typeInfo t) := by
 unfold typeInfo
 refine Vp.program.bind fun p => ?_
 split
 ·exact .pure _
 ·exact .halt _
theorem Za3 (t : TypeId) : Vp P (underlying t) := by
 unfold underlying
 refine Vp.program.bind fun p => ?_
 split
 ·exact .pure _
 ·exact .halt _
theorem Zbj (t : TypeId) : Vp P (sizeOf t) := by unfold sizeOf; exact (Zer t).bind fun _ => .pure _
theorem Zd4 (t : TypeId) : Vp P (isAgg t) := by
 unfold isAgg
 refine (Za3 t).bind fun d => ?_
 split <;> exact .pure _
theorem Zwc (t : TypeId) (cs : Array Value) (o : Nat) : Vp P (part t cs o) := by
 unfold part
 refine (Zd4 t).bind fun b => ?_
 cases b with
 | true => exact (Zbj t).bind fun _ => .pure _
 | false =>
  show Vp P (match cs[o]? with | some v => _ | none => _)
  split
  ·exact .pure _
  ·exact .halt _
theorem Zcr : ∀ (l : List FieldStep) (t : TypeId) (x : Option Value), Vp P (followBlind l t x)
 | [], t, x => .pure _
 | s :: rest, t, x => by
  unfold followBlind
  refine (Za3 _).bind fun d => ?_
  split
  ·split
   ·split
    ·exact .pure _
    ·exact Zcr rest _ _
    ·exact .halt _
    ·exact .pure _
    ·exact (Zwc _ _ _).bind fun _ => Zcr rest _ _
    ·exact .halt _
    ·exact Zcr rest _ _
   ·exact .halt _
  ·exact .halt _
theorem ZfY : ∀ (n : Nat) (t : TypeId) (v : Value) (s : String), Vp P (nilAhead n t v s)
 | 0, t, v, s => .pure _
 | n + 1, t, v, s => by
  unfold nilAhead
  refine (Zer _).bind fun i => ?_
  split
  ·refine (Zcr _ _ _).bind fun r => ?_
   split
   ·exact .pure _
   ·split
    ·exact ZfY n _ _ _
    ·exact .pure _
    ·exact .halt _
    ·exact .pure _
    ·exact .pure _
    ·refine (Za3 _).bind fun d => ?_
     split <;> exact .pure _
  ·exact .halt _
def VV (P : Program) (s : Sem Next) : Prop := ∀ w r w1, s.run P w = .ok r w1 → ∃ v, r = .value v
theorem VV.val {s : Sem Value} : VV P (s >>= fun x => Pure.pure (Next.value x) : Sem Next) := fun w r w1 e => by
 rw [Sem.run_bind] at e
 cases hs : s.run P w with
 | halt x w' => rw [hs] at e; cases e
 | ok a w' => rw [hs] at e; cases e; exact ⟨a, rfl⟩
theorem Vp.val {s : Sem Value} (h : Vp P s) : Vp P (s >>= fun x => Pure.pure (Next.value x) : Sem Next) := h.bind fun _ => .pure _
theorem Rd.val {s : Sem Value} (h : Rd P s) : Rd P (s >>= fun x => Pure.pure (Next.value x) : Sem Next) := h.bind fun _ => (Vp.pure _).rd
end
theorem ZdW {P : Program} (t : TypeId) : Vp P (zeroValue t) := by
 unfold zeroValue
 refine (Zer t).bind fun i => ?_
 split
 ·exact .pure _
 ·exact .halt _
theorem ZmR {α β : Type} {P : Program} {f : α → Sem β} (h : ∀ x, Vp P (f x)) : ∀ l : List α, Vp P (l.mapM f)
 | [] => by rw [List.mapM_nil]; exact .pure _
 | x :: l => by rw [YaE]; exact (h x).bind fun _ => (ZmR h l).bind fun _ => .pure _
theorem ZvS {α β : Type} {P : Program} {f : α → Sem β} (h : ∀ x, Vp P (f x)) (l : Array α) : Vp P (l.mapM f) := by
 rw [YaN]
 exact (ZmR h _).bind fun _ => .pure _
theorem ZqD {P : Program} (t : TypeId) (ps : Array (Nat × Value)) : Vp P (Instr.build t ps) := by
 unfold Instr.build
 refine (ZdW t).bind fun z => (Za3 t).bind fun d => ?_
 split
 ·refine (ZvS (fun f => (Zbj _).bind fun _ => .pure _) _).bind fun pl => ?_
  split
  ·exact .pure _
  ·exact .halt _
 ·refine (Zbj _).bind fun n => ?_
  split
  ·exact .pure _
  ·exact .halt _
 ·exact .halt _
def Nv {α : Type} (P : Program) (s : Sem α) : Prop := ∀ w r w1, s.run P w ≠ .ok r w1
theorem Nv.vp {α : Type} {P : Program} {s : Sem α} (h : Nv P s) : Vp P s := fun w r w1 e => absurd e (h w r w1)
theorem Zh8 {α : Type} {P : Program} (k : IntKind) (x y : Int) (c : BoundsCode) : Nv P (boundsPanic k x y c : Sem α) := fun w r w1 e => by
 unfold boundsPanic at e
 dsimp only at e
 have h2 : ∀ (s : Bool) w r w1, (runtimePanic (.bounds (IntKind.i64.wrap x) y s c) : Sem α).run P w ≠ .ok r w1 := fun s w r w1 e => by
  unfold runtimePanic at e
  simp only [Sem.run_bind, run_program, Result.andThen_ok] at e
  repeat (first | (cases e; done) | split at e | (simp [goPanic, stuck, unsupported, Sem.run] at e; done))
 split at e
 all_goals
  rw [Sem.run_bind] at e
  generalize hs : Sem.run P _ w = q at e
  cases q with
  | halt x w' => cases e
  | ok a w' => exact h2 _ _ _ _ e
theorem ZEp {α : Type} {P : Program} : Nv P (runtimePanic .nilDeref : Sem α) := fun w r w1 e => by
 unfold runtimePanic at e
 simp only [Sem.run_bind, run_program, Result.andThen_ok] at e
 repeat (first | (cases e; done) | split at e | (simp [goPanic, stuck, unsupported, Sem.run] at e; done))
theorem Zgr {P : Program} (v : Value) : Vp P (asIntOf v) := by
 unfold asIntOf
 split
 ·exact .pure _
 ·exact .halt _
 ·exact .halt _
theorem Zm3 {P : Program} (v : Value) : Vp P (Instr.sureAddr v) := by
 unfold Instr.sureAddr
 split
 ·exact .pure _
 ·exact .halt _
theorem Zpw {P : Program} (v : Value) : Vp P (asAddr v) := by
 unfold asAddr
 split
 ·exact .pure _
 ·first | exact ZEp.vp | exact .halt _
 ·exact .halt _
theorem Zhm {P : Program} (x : Value) (y : Nat) (c : BoundsCode) : Vp P (Instr.sliceBound x y c) := by
 unfold Instr.sliceBound
 refine (Zgr _).bind fun p => ?_
 dsimp only
 split
 ·exact .pure _
 ·exact (Zh8 _ _ _ _).vp
theorem Zec {P : Program} (b : Bool) (n m : Nat) (lo hi mx : Option Value) : Vp P (Instr.sliceBounds b n m lo hi mx) := by
 unfold Instr.sliceBounds
 dsimp only
 repeat' (first | exact Vp.pure _ | exact Zhm _ _ _ | exact Vp.halt _ | refine Vp.bind ?_ fun _ => ?_ | split)
theorem ZrX {P : Program} (t : TypeId) (x : Value) (lo hi mx : Option Value) : Vp P (Instr.slice t x lo hi mx) := by
 unfold Instr.slice
 dsimp only
 repeat' (first | exact Vp.pure _ | exact Zec _ _ _ _ _ _ | exact Za3 _ | exact Zbj _ | exact Zpw _ | exact Vp.halt _ | refine Vp.bind ?_ fun _ => ?_ | split)
theorem Zlg {P : Program} (t : TypeId) (x : Value) (lo hi mx : Option Value) : Vp P (Instr.sliceAt t x lo hi mx) := by
 unfold Instr.sliceAt
 repeat' (first | exact Vp.pure _ | exact Zec _ _ _ _ _ _ | exact Za3 _ | exact Zbj _ | exact Zm3 _ | exact ZrX _ _ _ _ _ | exact Vp.halt _ | refine Vp.bind ?_ fun _ => ?_ | split)
theorem Zk8 {P : Program} (t : TypeId) (x i : Value) : Vp P (Instr.indexAt t x i) := by
 unfold Instr.indexAt
 dsimp only
 repeat' (first | exact Vp.pure _ | exact Zgr _ | exact Za3 _ | exact Zbj _ | exact Zm3 _ | exact (Zh8 _ _ _ _).vp | exact Vp.halt _ | refine Vp.bind ?_ fun _ => ?_ | split)
theorem Zkt {P : Program} (v : Value) (i : Nat) : Vp P (Instr.extract v i) := by
 unfold Instr.extract
 split
 ·split
  ·exact .pure _
  ·exact .halt _
 ·exact .halt _
def ZIz (P : Program) (c : Call) : Bool := match c.callee, c.args.toList, c.argTypes.toList with
 | .builtin .len, [_], [t] => (match P.underlying t with | some (.slice _) => true | some .string => true | _ => false)
 | _, _, _ => false
theorem ZCt {P : Program} {t : TypeId} {ty : TypeId} (x : Value) (h : (match P.underlying t with | some (.slice _) => true | some .string => true | _ => false) = true) : Vp P (Builtin.len_ #[t] ty #[x]) := by
 unfold Builtin.len_
 simp only [YaZ, YE]
 intro w r w1 e
 have hu : ∃ d, P.underlying t = some d ∧ ((∃ q, d = .slice q) ∨ d = .string) := by
  grind
 obtain ⟨d, hu, hd⟩ := hu
 simp only [Sem.run_bind, run_underlying hu, Result.andThen_ok] at e ⊢
 rcases hd with ⟨q, rfl⟩ | rfl
 ·cases x <;> first | (cases e; exact ⟨rfl, fun _ => rfl⟩) | (cases e; done)
 ·cases x <;> first | (cases e; exact ⟨rfl, fun _ => rfl⟩) | (cases e; done)
def vpO (P : Program) (o : Oper) : Bool := match o.op with
 | .build _ _ => true
 | .extract _ _ => true
 | .indexAddr _ _ _ => true
 | .slice _ _ _ _ _ => true
 | .makeFunc _ _ _ => true
 | .call c => ZIz P c
 | .move _ => true
 | .assign _ => true
 | .nilCheck _ => true
 | .fieldAddr t _ i => (match P.underlying t with | some (.struct fs) => (match fs[i]? with | some f => !(Nat.beq (P.cellsOf f.type) 0) | none => false) | _ => false)
 | _ => false
def rdO (P : Program) (o : Oper) : Bool := vpO P o || match o.op with | .load _ _ => true | _ => false
section
variable {P : Program} {ρ : Operand → Value} {o : Oper}
theorem Zhi (h : vpO P o = true) : Vp P (execOp ρ o) ∧ VV P (execOp ρ o) := by
 obtain ⟨dst, op, type, pos, after, guard⟩ := o
 cases op <;> simp only [vpO] at h <;> first | (cases h; done) | skip
 case move x => exact ⟨.pure _, fun w r w1 e => by cases e; exact ⟨_, rfl⟩⟩
 case assign x => exact ⟨.pure _, fun w r w1 e => by cases e; exact ⟨_, rfl⟩⟩
 case build t ps => exact ⟨(ZqD _ _).val, VV.val⟩
 case makeFunc f a b => exact ⟨(Vp.pure _).val, VV.val⟩
 case extract x i => exact ⟨(Zkt _ _).val, VV.val⟩
 case indexAddr t x i => exact ⟨(Zk8 _ _ _).val, VV.val⟩
 case slice t x a b c => exact ⟨(Zlg _ _ _ _ _).val, VV.val⟩
 case call c =>
  unfold ZIz at h
  split at h
  ·rename_i x t hc ha ht
   obtain ⟨cal, az, ts⟩ := c
   simp only at hc ha ht
   subst hc
   have e1 : az = #[x] := YS (by simpa using ha)
   have e2 : ts = #[t] := YS (by simpa using ht)
   subst e1; subst e2
   have : execOp ρ ⟨dst, .call ⟨.builtin .len, #[x], #[t]⟩, type, pos, after, guard⟩ = (Builtin.len_ #[t] type #[ρ x] >>= fun v => (Pure.pure (Next.value v) : Sem Next)) := by
    simp [execOp, resolve, invoke, Go.builtin]
   rw [this]
   exact ⟨(ZCt _ h).val, VV.val⟩
  ·cases h
 case nilCheck x =>
  have hp : ∀ v : Value, Vp P (pure (.value v) : Sem Next) ∧ VV P (pure (.value v) : Sem Next) := fun v => ⟨.pure _, fun w r w1 e => by cases e; exact ⟨_, rfl⟩⟩
  have hr : Vp P (runtimePanic .nilDeref : Sem Next) ∧ VV P (runtimePanic .nilDeref : Sem Next) := by
   have : ∀ w r w1, (runtimePanic .nilDeref : Sem Next).run P w ≠ .ok r w1 := fun w r w1 e => by
    unfold runtimePanic at e
    simp only [Sem.run_bind, run_program, Result.andThen_ok] at e
    repeat (first | (cases e; done) | split at e | (simp [goPanic, stuck, unsupported, Sem.run] at e; done))
   exact ⟨fun w r w1 e => absurd e (this w r w1), fun w r w1 e => absurd e (this w r w1)⟩
  show Vp P (execOp ρ _) ∧ _
  simp only [execOp]
  split
  ·exact hr
  ·exact hr
  ·exact hr
  ·split
   ·exact hr
   ·refine ⟨Vp.program.bind fun p => (ZfY _ _ _ _).bind fun b => ?_, fun w r w1 e => ?_⟩
    ·split
     ·exact .halt _
     grind
    ·simp only [Sem.run_bind, run_program, Result.andThen_ok] at e
     cases hs : (nilAhead _ _ _ _).run P w with
     | halt x w' => rw [hs] at e; cases e
     | ok a w' =>
      rw [hs] at e
      simp only [Result.andThen_ok] at e
      split at e
      ·cases e
      ·cases e; exact ⟨_, rfl⟩
   grind
  ·grind
 case fieldAddr t x i =>
  refine ⟨Vp.val ?_, VV.val⟩
  unfold Instr.fieldAt
  intro w r w1 e
  split at h
  ·rename_i fs hu
   split at h
   ·rename_i f hf
    have hz : P.cellsOf f.type ≠ 0 := fun h0 => by rw [h0] at h; cases h
    have run : ∀ (ad : Addr) (w : World), (Instr.fieldAt t (.pointer (some ad)) i).run P w = .ok (.pointer (some (ad.add f.offset))) w := fun ad w => by
     simp [Instr.fieldAt, run_underlying hu, hf, Instr.sureAddr, fieldPlace, ZbR hz, hz]
    have bad : ∀ v : Value, (∀ ad, v ≠ .pointer (some ad)) → (Instr.fieldAt t v i).run P w ≠ .ok r w1 := fun v hv e => by
     have hs : Instr.sureAddr v = .halt (.stuck "an address expected (no nilCheck in front?)") := by
      unfold Instr.sureAddr
      split
      ·grind
      ·rfl
     simp only [Instr.fieldAt, Sem.run_bind, run_underlying hu, Result.andThen_ok, hf, hs] at e
     cases e
    change (Instr.fieldAt t (ρ x) i).run P w = .ok r w1 at e
    show w1 = w ∧ ∀ w2, (Instr.fieldAt t (ρ x) i).run P w2 = .ok r w2
    grind
   ·cases h
  ·cases h
theorem ZgM (a : Addr) : Rd P (load a) := fun w r w1 e => by
 unfold load at e
 simp only [Sem.run] at e
 grind
theorem Zc8 (a : Addr) : ∀ (n i : Nat) (acc : Array Value), Rd P (loadCellsFrom a i n acc)
 | 0, i, acc => (Vp.pure _).rd
 | n + 1, i, acc => by unfold loadCellsFrom; exact (ZgM _).bind fun v => Zc8 a n (i + 1) _
theorem ZeM (t : TypeId) (a : Addr) : Rd P (loadVar t a) := by
 unfold loadVar
 refine (Zd4 t).rd.bind fun b => ?_
 cases b with
 | true => exact (Zbj t).rd.bind fun n => (Zc8 a n 0 _).bind fun _ => (Vp.pure _).rd
 | false => exact ZgM a
theorem ZfW (h : rdO P o = true) : Rd P (execOp ρ o) ∧ VV P (execOp ρ o) := by
 unfold rdO at h
 rw [Bool.or_eq_true] at h
 rcases h with h | h
 ·obtain ⟨h1, h2⟩ := Zhi (ρ := ρ) h
  exact ⟨h1.rd, h2⟩
 ·obtain ⟨dst, op, type, pos, after, guard⟩ := o
  cases op <;> simp only at h <;> first | (cases h; done) | skip
  refine ⟨Rd.val ?_, VV.val⟩
  unfold Instr.loadAt
  refine Rd.bind ?_ fun a => ZeM _ _
  unfold Instr.sureAddr
  split
  ·exact (Vp.pure _).rd
  ·exact (Vp.halt _).rd
def Zop (w w1 : World) : Prop := ∀ (k : Nat) (o : Obj), w.heap[k]? = some o → w1.heap[k]? = some o
theorem Zop.refl (w : World) : Zop w w := fun _ _ h => h
theorem Zop.cell {w w1 : World} {a : Addr} {v : Value} (h : Zop w w1) (hc : w.cell? a = some v) : w1.cell? a = some v := by
 unfold World.cell? at hc ⊢
 cases hb : w.heap[a.block]? with
 | none => rw [hb] at hc; cases hc
 | some o => rw [hb] at hc; rw [h _ _ hb]; exact hc
theorem Zop.seen {w w1 : World} {p : Program} {at_ : Addr} {u : TypeId} {k : Addr} {b : Bool} (h : Zop w w1) {r} (hc : w.seen p at_ u k b = .ok r) : w1.seen p at_ u k b = .ok r := by
 cases hb : w.heap[at_.block]? with
 | none =>
  exfalso
  unfold World.seen at hc
  rw [hb] at hc
  have T : ∀ (α : Type) (e : String), (MonadExcept.throw e : Except String α) = .error e := fun _ _ => rfl
  simp only [bind, Except.bind, pure, Except.pure, throw, throwThe, T] at hc
  grind
 | some o =>
  unfold World.seen at hc ⊢
  rw [h _ _ hb]
  grind
theorem Zop.far {w w1 : World} {p : Program} {a : Addr} {b : Bool} (h : Zop w w1) {r} (hc : w.farLoad p a b = .ok r) : w1.farLoad p a b = .ok r := by
 unfold World.farLoad at hc ⊢
 cases hb : w.heap[a.block]? with
 | none => rw [hb] at hc; cases hc
 | some o =>
  rw [hb] at hc
  rw [h _ _ hb]
  cases o <;> simp only at hc ⊢ <;> first | (cases hc; done) | skip
  rename_i at_ u
  cases hv : w.viewLoad p at_ u a b with
  | error e => rw [hv] at hc; cases hc
  | ok q =>
   rw [hv] at hc
   have : w1.viewLoad p at_ u a b = .ok q := by
    unfold World.viewLoad at hv ⊢
    cases hs : w.seen p at_ u a b with
    | error e => rw [hs] at hv; cases hv
    | ok z => rw [hs] at hv; rw [h.seen hs]; exact hv
   grind
variable {α β : Type}
def Sta (P : Program) (s : Sem α) : Prop := ∀ w r w1 w2, s.run P w = .ok r w1 → Zop w w2 → s.run P w2 = .ok r w2
theorem Vp.sta {s : Sem α} (h : Vp P s) : Sta P s := fun w r w1 w2 e _ => (h w r w1 e).2 w2
theorem Sta.bind {s : Sem α} {f : α → Sem β} (hr : Rd P s) (h : Sta P s) (k : ∀ a, Sta P (f a)) : Sta P (s >>= f) := fun w r w1 w2 e hx => by
 rw [Sem.run_bind] at e ⊢
 cases hs : s.run P w with
 | halt x w' => rw [hs] at e; cases e
 | ok a w' =>
  rw [hs] at e
  have h1 := hr w a w' hs
  subst h1
  rw [h _ _ _ _ hs hx]
  exact k a _ _ _ _ e hx
theorem ZjL (a : Addr) : Sta P (load a) := fun w r w1 w2 e hx => by
 unfold load at e ⊢
 simp only [Sem.run] at e ⊢
 cases hc : w.cell? a with
 | some v => rw [hc] at e; rw [hx.cell hc]; cases e; rfl
 | none =>
  rw [hc] at e
  cases hf : w.farLoad P a (Mode.plain == Mode.atomic) with
  | error x => rw [hf] at e; cases e
  | ok q =>
   have e2 : w2.cell? a = none := by
    unfold World.farLoad at hf
    unfold World.cell?
    cases hb : w.heap[a.block]? with
    | none => rw [hb] at hf; cases hf
    | some o =>
     rw [hb] at hf
     rw [hx _ _ hb]
     grind
   rw [hf] at e
   rw [e2, hx.far hf]
   grind
theorem Zey (a : Addr) : ∀ (n i : Nat) (acc : Array Value), Sta P (loadCellsFrom a i n acc)
 | 0, i, acc => (Vp.pure _).sta
 | n + 1, i, acc => by unfold loadCellsFrom; exact .bind (ZgM _) (ZjL _) fun v => Zey a n (i + 1) _
theorem Zjf (t : TypeId) (a : Addr) : Sta P (loadVar t a) := by
 unfold loadVar
 refine .bind (Zd4 t).rd (Zd4 t).sta fun b => ?_
 cases b with
 | true => exact .bind (Zbj t).rd (Zbj t).sta fun n => .bind (Zc8 a n 0 _) (Zey a n 0 _) fun _ => (Vp.pure _).sta
 | false => exact ZjL a
theorem Zp6 (h : rdO P o = true) : Sta P (execOp ρ o) := by
 unfold rdO at h
 rw [Bool.or_eq_true] at h
 rcases h with h | h
 ·exact (Zhi (ρ := ρ) h).1.sta
 ·obtain ⟨dst, op, type, pos, after, guard⟩ := o
  cases op <;> simp only at h <;> first | (cases h; done) | skip
  have hs : ∀ v : Value, Rd P (Instr.sureAddr v) ∧ Sta P (Instr.sureAddr v) := fun v => by
   unfold Instr.sureAddr
   split
   ·exact ⟨(Vp.pure _).rd, (Vp.pure _).sta⟩
   ·exact ⟨(Vp.halt _).rd, (Vp.halt _).sta⟩
  refine Sta.bind (s := Instr.loadAt _ _) (Rd.bind (hs _).1 fun a => ZeM _ _) (.bind (hs _).1 (hs _).2 fun a => Zjf _ _) fun _ => (Vp.pure _).sta
def grO (o : Oper) : Bool := match o.op with | .buildSlice _ _ _ => true | .alloc _ => true | _ => false
theorem Zqr {w : World} {o : Obj} : Zop w { w with heap := w.heap.push o } := fun k o' h => by
 grind
def Gr (P : Program) (s : Sem α) : Prop := ∀ w r w1, s.run P w = .ok r w1 → Zop w w1
theorem Rd.gr {s : Sem α} (h : Rd P s) : Gr P s := fun w r w1 e => by rw [h w r w1 e]; exact .refl _
theorem Gr.bind {s : Sem α} {f : α → Sem β} (h : Gr P s) (k : ∀ a, Gr P (f a)) : Gr P (s >>= f) := fun w r w1 e => by
 rw [Sem.run_bind] at e
 cases hs : s.run P w with
 | halt x w' => rw [hs] at e; cases e
 | ok a w' =>
  rw [hs] at e
  exact fun q o hq => k a _ _ _ e _ _ (h _ _ _ hs _ _ hq)
theorem ZfQ (t : TypeId) (cs : Array Value) : Gr P (newRow t cs) := fun w r w1 e => by
 unfold newRow newObj at e
 cases e
 exact Zqr
theorem ZgY (t : TypeId) (n : Nat) (ps : Array (Nat × Value)) : Gr P (Instr.buildSlice t n ps) := by
 unfold Instr.buildSlice
 refine (Za3 t).rd.gr.bind fun d => ?_
 split
 ·refine (Zbj _).rd.gr.bind fun size => ?_
  by_cases h1 : n * size > 2 ^ 24
  ·rw [if_pos h1]
   intro w r w1 e
   cases e
  ·rw [if_neg h1]
   by_cases h2 : n * size = 0
   ·rw [if_pos h2]
    refine Gr.bind (s := Pure.pure _) (Vp.pure _).rd.gr fun z => ?_
    dsimp only
    split
    ·exact (ZfQ _ _).bind fun _ => (Vp.pure _).rd.gr
    ·exact (Vp.halt _).rd.gr
   ·rw [if_neg h2]
    refine (ZdW _).rd.gr.bind fun z => Gr.bind (s := Pure.pure _) (Vp.pure _).rd.gr fun z => ?_
    dsimp only
    split
    ·exact (ZfQ _ _).bind fun _ => (Vp.pure _).rd.gr
    ·exact (Vp.halt _).rd.gr
 ·exact (Vp.halt _).rd.gr
theorem ZyJ (h : grO o = true) : Gr P (execOp ρ o) ∧ VV P (execOp ρ o) := by
 obtain ⟨dst, op, type, pos, after, guard⟩ := o
 cases op <;> simp only [grO] at h <;> first | (cases h; done) | skip
 case buildSlice => exact ⟨(ZgY _ _ _).bind fun _ => (Vp.pure _).rd.gr, VV.val⟩
 case alloc t => exact ⟨Gr.bind (s := Instr.alloc _ _ _) ((ZdW _).rd.gr.bind fun z => Gr.bind (s := newVar _ _) (ZfQ _ _ |>.bind fun _ => (Vp.pure _).rd.gr) fun _ => (Vp.pure _).rd.gr) fun _ => (Vp.pure _).rd.gr, VV.val⟩
theorem Znu (h : (rdO P o || grO o) = true) : Gr P (execOp ρ o) ∧ VV P (execOp ρ o) := by
 rw [Bool.or_eq_true] at h
 rcases h with h | h
 ·exact ⟨(ZfW h).1.gr, (ZfW h).2⟩
 ·exact ZyJ h
end
def ZAD (P : Program) (L : List Oper) (listed : List Nat) (i : Nat) (oi : Oper) : Nat → List Oper → Bool
 | _, [] => true
 | j, oj :: r => (listed.any (Nat.beq j) || Nat.beq j i || Zii L i L.length j || (oi.apart L.toArray oj && (vpO P oi || (rdO P oi && (rdO P oj || grO oj))))) && ZAD P L listed i oi (j + 1) r
def Zlz (P : Program) (L : List Oper) : List Nat → List Nat → Bool
 | listed, [] => (List.range L.length).all fun j => listed.any (Nat.beq j)
 | listed, i :: rest => (match nth L i with
  | some oi => !(listed.any (Nat.beq i)) && oi.after.toList.all (fun e => !Region.binds .any e || listed.any (Nat.beq e.on)) && (match vpO P oi with | true => chkV P L listed i oi 0 L | false => ZAD P L listed i oi 0 L)
  | none => false) && Zlz P L (i :: listed) rest
where chkV (P : Program) (L : List Oper) (listed : List Nat) (i : Nat) (oi : Oper) : Nat → List Oper → Bool
 | _, [] => true
 | j, oj :: r => (listed.any (Nat.beq j) || Nat.beq j i || oj.after.toList.any (fun e => Region.binds .any e && Nat.beq e.on i) || oi.apart L.toArray oj) && chkV P L listed i oi (j + 1) r
theorem ZcT {l : List Nat} {j : Nat} : l.any (Nat.beq j) = true ↔ j ∈ l := by
 rw [YK]
 exact ⟨fun ⟨x, hx, h⟩ => Ya h ▸ hx, fun h => ⟨j, h, YaQ j⟩⟩
theorem Zpz {P : Program} {L : List Oper} {listed : List Nat} {i : Nat} {oi : Oper} : ∀ {r : List Oper} {j0 k : Nat} {oj : Oper}, ZAD P L listed i oi j0 r = true → r[k]? = some oj →
  (j0 + k) ∈ listed ∨ j0 + k = i ∨ Waits L.toArray (j0 + k) i ∨ (oi.apart L.toArray oj = true ∧ (vpO P oi = true ∨ rdO P oi = true ∧ (rdO P oj || grO oj) = true))
 | [], j0, k, oj, _, h => by simp at h
 | q :: r, j0, k, oj, hc, h => by
  unfold ZAD at hc
  rw [Bool.and_eq_true] at hc
  cases k with
  | zero =>
   simp only [YE, Yd] at h
   subst h
   have h1 := hc.1
   simp only [Bool.or_eq_true, Bool.and_eq_true] at h1
   rcases h1 with ((h1 | h1) | h1) | h1
   ·exact .inl (ZcT.1 h1)
   ·exact .inr (.inl (Ya h1))
   ·exact .inr (.inr (.inl (Zek _ _ h1)))
   grind
  | succ k =>
   have := Zpz (k := k) hc.2 (by simpa using h)
   grind
theorem ZoJ {P : Program} {L : List Oper} {listed : List Nat} {i : Nat} {oi : Oper} : ∀ {r : List Oper} {j0 k : Nat} {oj : Oper}, Zlz.chkV P L listed i oi j0 r = true → r[k]? = some oj →
  (j0 + k) ∈ listed ∨ j0 + k = i ∨ (∃ e ∈ oj.after, Region.binds .any e = true ∧ e.on = i) ∨ oi.apart L.toArray oj = true
 | [], j0, k, oj, _, h => by simp at h
 | q :: r, j0, k, oj, hc, h => by
  unfold Zlz.chkV at hc
  rw [Bool.and_eq_true] at hc
  cases k with
  | zero =>
   simp only [YE, Yd] at h
   subst h
   have h1 := hc.1
   simp only [Bool.or_eq_true] at h1
   rcases h1 with ((h1 | h1) | h1) | h1
   ·exact .inl (ZcT.1 h1)
   ·exact .inr (.inl (Ya h1))
   ·obtain ⟨e, he, h2⟩ := YK.1 h1
    rw [Bool.and_eq_true] at h2
    exact .inr (.inr (.inl ⟨e, by simpa using he, h2.1, Ya h2.2⟩))
   grind
  | succ k =>
   have := ZoJ (k := k) hc.2 (by simpa using h)
   grind
def noG (o : Oper) : Bool := (match o.guard with | none => true | _ => false) && (match o.op with | .select _ _ => false | _ => true)
end Go.Eng
