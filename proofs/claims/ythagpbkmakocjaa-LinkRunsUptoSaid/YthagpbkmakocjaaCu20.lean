import Derived.Test.YthagpbkmakocjaaCu19
namespace Go.Proofs.Ythagpbkmakocjaa
set_option linter.all false
open Go Go.Eng
def dpx (fs : List Fil) (x : Nat) : List Nat := (fs.getD x ZfW).imports.map (fi fs)
inductive Rch (fs : List Fil) (a : Nat) : Nat → Prop
 | one {j : Nat} (h : j ∈ dpx fs a) : Rch fs a j
 | step {x j : Nat} (h : Rch fs a x) (k : j ∈ dpx fs x) : Rch fs a j
def ZhQ (fs : List Fil) : Prop := ∀ f ∈ fs, Zd3 fs f
theorem ZjP {fs : List Fil} (hF : ZhQ fs) {x j : Nat} (h : j ∈ dpx fs x) : x < fs.length ∧ j < fs.length := by
 unfold dpx at h
 rcases Nat.lt_or_ge x fs.length with hx | hx
 ·refine ⟨hx, ?_⟩
  obtain ⟨s, hs, rfl⟩ := List.mem_map.1 h
  have hm : fs.getD x ZfW ∈ fs := by rw [List.getD_eq_getElem?_getD, List.getElem?_eq_getElem hx]; exact List.getElem_mem hx
  exact (ZiD (hF _ hm s hs)).1
 ·rw [List.getD_eq_getElem?_getD, List.getElem?_eq_none hx] at h
  cases h
theorem Zfa {r : List Bool} {i k : Nat} (h : i < r.length) : (r.set i true).getD k false = true ↔ r.getD k false = true ∨ k = i := by
 rw [List.getD_eq_getElem?_getD, List.getD_eq_getElem?_getD, List.getElem?_set]
 by_cases hk : i = k
 ·subst hk; simp [h]
 ·rw [if_neg hk]
  exact ⟨.inl, fun h => h.resolve_right (fun e => hk e.symm)⟩
theorem Zkk (fs : List Fil) : ∀ (l : List ByteArray) (r : List Bool), (∀ s ∈ l, fi fs s < r.length) → ∀ k, (Zcx fs l r).getD k false = true ↔ r.getD k false = true ∨ k ∈ l.map (fi fs)
 | [], r, _, k => by simp [Zcx]
 | s :: l, r, h, k => by
  have e : Zcx fs (s :: l) r = Zcx fs l (r.set (fi fs s) true) := rfl
  rw [e, Zkk fs l _ (fun t ht => by rw [List.length_set]; exact h t (List.mem_cons_of_mem _ ht)), Zfa (h s (List.mem_cons_self ..)), List.map_cons, List.mem_cons, or_assoc]
theorem ZmI {fs : List Fil} (hF : ZhQ fs) {x : Nat} (hx : x < fs.length) {r : List Bool} (hr : r.length = fs.length) (k : Nat) : (Zcx fs (fs.getD x ZfW).imports r).getD k false = true ↔ r.getD k false = true ∨ k ∈ dpx fs x := by
 have hm : fs.getD x ZfW ∈ fs := by rw [List.getD_eq_getElem?_getD, List.getElem?_eq_getElem hx]; exact List.getElem_mem hx
 exact Zkk fs _ r (fun s hs => by rw [hr]; exact (ZiD (hF _ hm s hs)).1) k
theorem Zpj (fs : List Fil) (x : Nat) (xs : List Nat) (r : List Bool) : ZcW fs (x :: xs) r = ZcW fs xs (if r.getD x false = true then Zcx fs (fs.getD x ZfW).imports r else r) := rfl
theorem Zjd {fs : List Fil} (hF : ZhQ fs) : ∀ (xs : List Nat) (r : List Bool), (∀ x ∈ xs, x < fs.length) → r.length = fs.length →
  (∀ k, r.getD k false = true → (ZcW fs xs r).getD k false = true) ∧ (∀ x ∈ xs, r.getD x false = true → ∀ j ∈ dpx fs x, (ZcW fs xs r).getD j false = true) ∧
  ∀ P : Nat → Prop, (∀ k, r.getD k false = true → P k) → (∀ x, P x → ∀ j ∈ dpx fs x, P j) → ∀ k, (ZcW fs xs r).getD k false = true → P k
 | [], r, _, _ => ⟨fun k h => h, fun x hx => (by cases hx), fun P h _ k hk => h k hk⟩
 | x :: xs, r, hx, hr => by
  rw [Zpj]
  have h0 := hx x (List.mem_cons_self ..)
  by_cases hm : r.getD x false = true
  ·rw [if_pos hm]
   have hd := fun k => ZmI hF h0 hr k
   obtain ⟨i1, i2, i3⟩ := Zjd hF xs (Zcx fs (fs.getD x ZfW).imports r) (fun y hy => hx y (List.mem_cons_of_mem _ hy)) ((Zda _ _ _).trans hr)
   refine ⟨fun k hk => i1 k ((hd k).2 (.inl hk)), fun y hy hyr j hj => ?_, fun P h1 h2 k hk => i3 P (fun k hk => ?_) h2 k hk⟩
   ·rcases List.mem_cons.1 hy with rfl | hy
    ·exact i1 j ((hd j).2 (.inr hj))
    ·exact i2 y hy ((hd y).2 (.inl hyr)) j hj
   ·rcases (hd k).1 hk with h | h
    ·exact h1 k h
    ·exact h2 x (h1 x hm) k h
  ·rw [if_neg hm]
   obtain ⟨i1, i2, i3⟩ := Zjd hF xs r (fun y hy => hx y (List.mem_cons_of_mem _ hy)) hr
   refine ⟨i1, fun y hy hyr j hj => ?_, i3⟩
   rcases List.mem_cons.1 hy with rfl | hy
   ·exact absurd hyr hm
   ·exact i2 y hy hyr j hj
theorem Zhz {p q : Nat → Bool} : ∀ {l : List Nat}, (∀ x ∈ l, p x = true → q x = true) → (∃ x ∈ l, q x = true ∧ p x = false) → l.countP p < l.countP q
 | [], _, ⟨x, hx, _⟩ => by cases hx
 | y :: l, h, ⟨x, hx, h1, h2⟩ => by
  have hm : l.countP p ≤ l.countP q := List.countP_mono_left fun z hz => h z (List.mem_cons_of_mem _ hz)
  rw [List.countP_cons, List.countP_cons]
  rcases List.mem_cons.1 hx with rfl | hx
  ·rw [h1, h2]; simp; omega
  ·have := Zhz (fun z hz => h z (List.mem_cons_of_mem _ hz)) ⟨x, hx, h1, h2⟩
   have h3 := h y (List.mem_cons_self ..)
   cases hp : p y with
   | false => simp; omega
   | true => rw [h3 hp]; simp; omega
def Znd (n : Nat) (r : List Bool) : Nat := (List.range n).countP fun k => r.getD k false
theorem Zlf (n : Nat) (r : List Bool) : Znd n r ≤ n := by
 have := List.countP_le_length (p := fun k => r.getD k false) (l := List.range n)
 rwa [List.length_range] at this
def Cls (fs : List Fil) (r : List Bool) : Prop := ∀ x, r.getD x false = true → ∀ j ∈ dpx fs x, r.getD j false = true
def Zph (fs : List Fil) (r : List Bool) : List Bool := ZcW fs (List.range fs.length) r
def itP (fs : List Fil) : Nat → List Bool → List Bool
 | 0, r => r
 | m + 1, r => itP fs m (Zph fs r)
theorem ZjK (fs : List Fil) : ∀ (l : List Nat) (r : List Bool), l.foldl (fun r _ => ZcW fs (List.range fs.length) r) r = itP fs l.length r
 | [], r => rfl
 | x :: l, r => by rw [List.foldl_cons, ZjK fs l]; rfl
theorem ZqP {fs : List Fil} (hF : ZhQ fs) : ∀ (m : Nat) (r : List Bool), r.length = fs.length → (itP fs m r).length = fs.length ∧ (∀ k, r.getD k false = true → (itP fs m r).getD k false = true) ∧
  (∀ P : Nat → Prop, (∀ k, r.getD k false = true → P k) → (∀ x, P x → ∀ j ∈ dpx fs x, P j) → ∀ k, (itP fs m r).getD k false = true → P k) ∧ (Cls fs (itP fs m r) ∨ m + Znd fs.length r ≤ Znd fs.length (itP fs m r))
 | 0, r, hr => ⟨hr, fun _ h => h, fun P h _ k hk => h k hk, .inr (by simp [itP])⟩
 | m + 1, r, hr => by
  have hx : ∀ x ∈ List.range fs.length, x < fs.length := fun x hx => List.mem_range.1 hx
  obtain ⟨p1, p2, p3⟩ := Zjd hF (List.range fs.length) r hx hr
  have hl : (Zph fs r).length = fs.length := (Zfi _ _ _).trans hr
  obtain ⟨i0, i1, i2, i3⟩ := ZqP hF m (Zph fs r) hl
  refine ⟨i0, fun k hk => i1 k (p1 k hk), fun P h1 h2 k hk => i2 P (fun k hk => p3 P h1 h2 k hk) h2 k hk, ?_⟩
  by_cases hc : Cls fs r
  ·left
   have hP : ∀ k, (itP fs m (Zph fs r)).getD k false = true → r.getD k false = true := fun k hk => i2 (fun k => r.getD k false = true) (fun k hk => p3 (fun k => r.getD k false = true) (fun _ h => h) hc k hk) hc k hk
   exact fun x hx j hj => i1 j (p1 j (hc x (hP x hx) j hj))
  ·rcases i3 with i3 | i3
   ·exact .inl i3
   ·right
    obtain ⟨x, hx1⟩ := Classical.not_forall.1 hc
    obtain ⟨hx2, hx3⟩ := Classical.not_imp.1 hx1
    obtain ⟨j, hj1⟩ := Classical.not_forall.1 hx3
    obtain ⟨hj2, hj3⟩ := Classical.not_imp.1 hj1
    have : Znd fs.length r < Znd fs.length (Zph fs r) := Zhz (fun k _ hk => p1 k hk) ⟨j, List.mem_range.2 (ZjP hF hj2).2, p2 x (List.mem_range.2 (ZjP hF hj2).1) hx2 j hj2, by simpa using hj3⟩
    show m + 1 + Znd fs.length r ≤ Znd fs.length (itP fs m (Zph fs r))
    omega
theorem ZxW {fs : List Fil} (hF : ZhQ fs) {r : List Bool} (h : fs.length ≤ Znd fs.length r) : Cls fs r := fun x hx j hj => by
 have h1 : (List.range fs.length).countP (fun k => r.getD k false) = (List.range fs.length).length := by
  have := Zlf fs.length r
  rw [List.length_range]
  unfold Znd at h this
  omega
 exact (List.countP_eq_length.1 h1) j (List.mem_range.2 (ZjP hF hj).2)
theorem Zlm {fs : List Fil} (hF : ZhQ fs) {a : Nat} (ha : a < fs.length) (k : Nat) : (Zih fs a).getD k false = true ↔ Rch fs a k := by
 have hd := fun k => ZmI hF ha (r := List.replicate fs.length false) (by simp) k
 have hl : (Zcx fs (fs.getD a ZfW).imports (List.replicate fs.length false)).length = fs.length := (Zda _ _ _).trans (by simp)
 have h0 : ∀ k, (List.replicate fs.length false).getD k false = false := fun k => by
  rw [List.getD_eq_getElem?_getD, List.getElem?_replicate]; split <;> rfl
 unfold Zih
 rw [ZjK, List.length_range]
 obtain ⟨i0, i1, i2, i3⟩ := ZqP hF fs.length _ hl
 have hc : Cls fs (itP fs fs.length (Zcx fs (fs.getD a ZfW).imports (List.replicate fs.length false))) := by
  rcases i3 with i3 | i3
  ·exact i3
  ·exact ZxW hF (Nat.le_trans (Nat.le_add_right _ _) i3)
 constructor
 ·exact fun h => i2 (Rch fs a) (fun k hk => by
   rcases (hd k).1 hk with h | h
   ·rw [h0] at h; cases h
   ·exact .one h) (fun x hx j hj => .step hx hj) k h
 ·intro h
  induction h with
  | one h => exact i1 _ ((hd _).2 (.inr h))
  | step _ h ih => exact hc _ ih _ h
end Go.Proofs.Ythagpbkmakocjaa
namespace Go.Proofs.Ythagpbkmakocjaa
set_option linter.all false
open Go Go.Eng
def ZbC (l : List Nat) : List Int := l.map fun i : Nat => (i : Int)
def rg1 (fs : List Fil) (a : Nat) (b : List Nat × List Bool) (s : ByteArray) : (List Nat × List Bool) ⊕ Bool :=
 if fi fs s = a then .inr true else if b.2.getD (fi fs s) false = true then .inl b else .inl (b.1 ++ [fi fs s], b.2.set (fi fs s) true)
theorem ZLG (fs : List Fil) (h : fs.length ≤ 1048576) (a : Nat) (f : Fil) (hl : f.imports.length < 2147483648) (hF : Zd3 fs f) (td : List Nat) (r : List Bool) (hr : r.length = fs.length) (ht : td.length ≤ 1048577) :
  Zab (ZlH fs (a : Int) f) big (ZbC td, 0, r) = some (Sum.map (fun b => (b.2, ZbC b.1)) id (ZeE (rg1 fs a) (td, r) f.imports)) := by
 exact ZkO (B := ZlH fs (a : Int) f) (N := big) f.imports (fun i b => (ZbC b.1, i, b.2)) (fun i b => b.2.length = fs.length ∧ b.1.length ≤ 1048577 + i) (rg1 fs a) (fun b => (b.2, ZbC b.1)) (he := by intro b _; simp [ZlH, ZwT, br]) (b0 := (td, r)) (h0 := ⟨hr, ht⟩) (hN := Zaf (by omega)) (hs := by
  intro i b s hs hI
  obtain ⟨I1, I2⟩ := hI
  have g1 := (List.getElem?_eq_some_iff.1 hs).1
  have g2 : i + 1 < 9223372036854775808 := by omega
  obtain ⟨k1, k2⟩ := ZiD (hF s (List.mem_of_getElem? hs))
  have g3 := m51 fs s (by omega)
  rw [k2] at g3
  have g5 : (0 : Int) ≤ (fi fs s : Int) := by omega
  have g6 : fi fs s < b.2.length := by omega
  have g7 : b.2[fi fs s]? = some (b.2.getD (fi fs s) false) := by rw [List.getD_eq_getElem?_getD, List.getElem?_eq_getElem g6]; rfl
  have g8 : (ZbC b.1).length < 549755813887 := by unfold ZbC; rw [List.length_map]; omega
  constructor
  ·simp only [ZlH, ZwT, br, g1, g2, g3, g5, g6, g7, g8, hs, Option.bind_some, Int.ofNat_lt, decide_true, if_true, Int.toNat_natCast, true_and, and_self, List.length_set, Int.natCast_inj, decide_eq_true_eq]
   unfold rg1
   by_cases hc : fi fs s = a
   ·simp only [hc, if_true]; rfl
   ·simp only [hc, if_false]
    cases b.2.getD (fi fs s) false with
    | true => rfl
    | false =>
     simp only [Bool.not_false, if_true, Bool.false_eq_true, if_false]
     show _ = some (Lv.nx (ZbC (b.1 ++ [fi fs s]), i + 1, b.2.set (fi fs s) true))
     unfold ZbC
     rw [List.map_append]
     rfl
  ·intro b' hb'
   unfold rg1 at hb'
   split at hb'
   ·cases hb'
   ·split at hb'
    ·cases hb'; exact ⟨I1, by omega⟩
    ·cases hb'
     exact ⟨by rw [List.length_set]; exact I1, by show (b.1 ++ [fi fs s]).length ≤ _; rw [List.length_append, List.length_singleton]; omega⟩)
theorem ZGq {n k : Nat} {r : List Bool} (hk : k < n) (hr : r.length = n) (h : r.getD k false = false) : Znd n r + 1 ≤ Znd n (r.set k true) :=
 Zhz (fun x _ hx => (Zfa (by omega)).2 (.inl hx)) ⟨k, List.mem_range.2 hk, (Zfa (by omega)).2 (.inr rfl), h⟩
def RgL (fs : List Fil) (a : Nat) (l : List ByteArray) (b : List Nat × List Bool) : (List Nat × List Bool) ⊕ Bool → Prop
 | .inr v => v = true ∧ a ∈ l.map (fi fs)
 | .inl b' => a ∉ l.map (fi fs) ∧ b'.2.length = fs.length ∧ (∀ k, b'.2.getD k false = true ↔ b.2.getD k false = true ∨ k ∈ l.map (fi fs)) ∧ (∀ k ∈ b.1, k ∈ b'.1) ∧ (∀ k ∈ b'.1, k ∈ b.1 ∨ k ∈ l.map (fi fs)) ∧
  (∀ k, b'.2.getD k false = true → b.2.getD k false = false → k ∈ b'.1) ∧ b'.1.length + Znd fs.length b.2 ≤ b.1.length + Znd fs.length b'.2
theorem Zqa (fs : List Fil) (a : Nat) : ∀ (l : List ByteArray) (b : List Nat × List Bool), (∀ s ∈ l, fi fs s < fs.length) → b.2.length = fs.length → RgL fs a l b (ZeE (rg1 fs a) b l)
 | [], b, _, hb => ⟨by simp, hb, by simp, fun _ h => h, fun _ h => .inl h, fun k h1 h2 => (by rw [h2] at h1; cases h1), Nat.le_refl _⟩
 | s :: l, b, hl, hb => by
  have h0 := hl s (List.mem_cons_self ..)
  by_cases hc : fi fs s = a
  ·have e : rg1 fs a b s = .inr true := by unfold rg1; rw [if_pos hc]
   rw [ZeE, e]
   exact ⟨rfl, by simp [hc]⟩
  ·by_cases hm : b.2.getD (fi fs s) false = true
   ·have e : rg1 fs a b s = .inl b := by unfold rg1; rw [if_neg hc, if_pos hm]
    rw [ZeE, e]
    show RgL fs a (s :: l) b (ZeE (rg1 fs a) b l)
    have ih := Zqa fs a l b (fun t ht => hl t (List.mem_cons_of_mem _ ht)) hb
    revert ih
    cases ZeE (rg1 fs a) b l with
    | inr v => exact fun ⟨h1, h2⟩ => ⟨h1, by simp [h2]⟩
    | inl b' =>
     intro ⟨h1, h2, h3, h4, h5, h6, h7⟩
     refine ⟨?_, h2, fun k => ?_, h4, fun k hk => ?_, h6, h7⟩
     ·rw [List.map_cons, List.mem_cons]; exact fun h => h.elim (fun e => hc e.symm) h1
     ·rw [h3, List.map_cons, List.mem_cons]
      exact ⟨fun h => h.elim .inl fun h => .inr (.inr h), fun h => h.elim .inl fun h => h.elim (fun e => .inl (e ▸ hm)) .inr⟩
     ·rcases h5 k hk with h | h
      ·exact .inl h
      ·exact .inr (by simp [h])
   ·have e : rg1 fs a b s = .inl (b.1 ++ [fi fs s], b.2.set (fi fs s) true) := by unfold rg1; rw [if_neg hc, if_neg hm]
    rw [ZeE, e]
    show RgL fs a (s :: l) b (ZeE (rg1 fs a) (b.1 ++ [fi fs s], b.2.set (fi fs s) true) l)
    have hm' : b.2.getD (fi fs s) false = false := by simpa using hm
    have ih := Zqa fs a l (b.1 ++ [fi fs s], b.2.set (fi fs s) true) (fun t ht => hl t (List.mem_cons_of_mem _ ht)) (by rw [List.length_set]; exact hb)
    have hcs := ZGq h0 hb hm'
    revert ih
    cases ZeE (rg1 fs a) (b.1 ++ [fi fs s], b.2.set (fi fs s) true) l with
    | inr v => exact fun ⟨h1, h2⟩ => ⟨h1, by simp [h2]⟩
    | inl b' =>
     intro ⟨h1, h2, h3, h4, h5, h6, h7⟩
     have hset : ∀ k, (b.2.set (fi fs s) true).getD k false = true ↔ b.2.getD k false = true ∨ k = fi fs s := fun k => Zfa (by omega)
     refine ⟨?_, h2, fun k => ?_, fun k hk => h4 k (by simp [hk]), fun k hk => ?_, fun k h8 h9 => ?_, ?_⟩
     ·rw [List.map_cons, List.mem_cons]; exact fun h => h.elim (fun e => hc e.symm) h1
     ·rw [h3, hset, List.map_cons, List.mem_cons, or_assoc]
     ·rcases h5 k hk with h | h
      ·rcases List.mem_append.1 h with h | h
       ·exact .inl h
       ·exact .inr (by simp at h; simp [h])
      ·exact .inr (by simp [h])
     ·by_cases hk : k = fi fs s
      ·subst hk; exact h4 _ (by simp)
      ·refine h6 k h8 ?_
       cases hq : (b.2.set (fi fs s) true).getD k false with
       | false => rfl
       | true =>
        rcases (hset k).1 hq with h | h
        ·rw [h9] at h; cases h
        ·exact absurd h hk
     ·simp only [List.length_append, List.length_singleton] at h7
      omega
def ZN6 (fs : List Fil) (a m : Nat) (v : List Int × List Bool) : Prop := ∃ td r, v = (ZbC td, r) ∧ (∀ x ∈ td, x < fs.length) ∧ r.length = fs.length ∧ (∀ k, r.getD k false = true → Rch fs a k) ∧ (∀ x ∈ td, x = a ∨ Rch fs a x) ∧
 (∀ x, (x = a ∨ r.getD x false = true) → x ∉ td → ∀ j ∈ dpx fs x, r.getD j false = true ∧ j ≠ a) ∧ td.length + fs.length ≤ m + Znd fs.length r ∧ m ≤ fs.length + 1
theorem m53 (fs : List Fil) (h : fs.length ≤ 1048576) (hi : ∀ f ∈ fs, f.imports.length < 2147483648) (hF : ZhQ fs) (a : Nat) (ha : a < fs.length) : ∃ b, ZcN fs (a : Int) = some b ∧ (b = true ↔ Rch fs a a) := by
 have q : ∃ o : Unit ⊕ Bool, Zab (ZpD fs (a : Int)) big ([(a : Int)], List.replicate fs.length false) = some o ∧ (match o with | .inl _ => ¬ Rch fs a a | .inr b => b = true ∧ Rch fs a a) := by
  refine Zev (ZN6 fs a) (fun o : Unit ⊕ Bool => match o with | .inl _ => ¬ Rch fs a a | .inr b => b = true ∧ Rch fs a a) ?_ big (fs.length + 1) _ (Zaf (by omega)) ?_
  ·rintro k v ⟨td, r, rfl, h1, h2, h3, h4, h5, h6, h7⟩
   have hcb := Zlf fs.length r
   cases td with
   | nil =>
    refine ⟨.ex (), by simp [ZpD, ZvB, Zvj, vz, vs, Bd.vl, ZbC], fun hr => ?_⟩
    have : ∀ j, Rch fs a j → r.getD j false = true ∧ j ≠ a := fun j hj => by
     induction hj with
     | one hj => exact h5 a (.inl rfl) (by simp) _ hj
     | step _ hj ih => exact h5 _ (.inr ih.1) (by simp) _ hj
    exact (this a hr).2 rfl
   | cons x td =>
    have hx := h1 x (List.mem_cons_self ..)
    have g5 : fs[x]? = some (fs.getD x ZfW) := by rw [List.getD_eq_getElem?_getD, List.getElem?_eq_getElem hx]; rfl
    have hm := List.mem_of_getElem? g5
    simp only [List.length_cons] at h6
    have q2 := ZLG fs h a (fs.getD x ZfW) (hi _ hm) (hF _ hm) td r h2 (by omega)
    have q3 := Zqa fs a (fs.getD x ZfW).imports (td, r) (fun s hs => (ZiD (hF _ hm s hs)).1) h2
    have g6 : (0 : Int) < ((td.length + 1 : Nat) : Int) := by omega
    have g7 : (0 : Int) ≤ (x : Int) := by omega
    have e1 : ZbC (x :: td) = (x : Int) :: ZbC td := rfl
    have e2 : (ZbC td).length = td.length := by simp [ZbC]
    have e3 : ZpD fs (a : Int) (ZbC (x :: td), r) = (Zab (ZlH fs (a : Int) (fs.getD x ZfW)) big (ZbC td, 0, r)).bind (Sum.elim (fun x => some (.nx (x.2, x.1))) fun z => some (.rt z)) := by
     rw [e1]
     simp only [ZpD, ZvB, Zvj, vz, vs, Bd.c, Bd.vl, g5, g7, e2, List.length_cons, List.getElem?_cons_zero, Option.bind_some, Int.toNat_natCast, if_true]
     simp [e2]
    rw [e3, q2]
    revert q3
    cases ZeE (rg1 fs a) (td, r) (fs.getD x ZfW).imports with
    | inr v =>
     rintro ⟨rfl, hv⟩
     refine ⟨.rt true, rfl, rfl, ?_⟩
     rcases h4 x (List.mem_cons_self ..) with rfl | hx'
     ·exact .one hv
     ·exact .step hx' hv
    | inl b' =>
     rintro ⟨c1, c2, c3, c4, c5, c6, c7⟩
     have hdp : ∀ j ∈ dpx fs x, Rch fs a j := fun j hj => by
      rcases h4 x (List.mem_cons_self ..) with rfl | hx'
      ·exact .one hj
      ·exact .step hx' hj
     refine ⟨.nx (ZbC b'.1, b'.2), rfl, k - 1, ?_, b'.1, b'.2, rfl, fun y hy => ?_, c2, fun j hj => ?_, fun y hy => ?_, fun y hy hn j hj => ?_, ?_, by omega⟩
     ·omega
     ·rcases c5 y hy with hy | hy
      ·exact h1 y (List.mem_cons_of_mem _ hy)
      ·exact (ZjP hF (x := x) hy).2
     ·rcases (c3 j).1 hj with hj | hj
      ·exact h3 j hj
      ·exact hdp j hj
     ·rcases c5 y hy with hy | hy
      ·exact h4 y (List.mem_cons_of_mem _ hy)
      ·exact .inr (hdp y hy)
     ·by_cases hyx : y = x
      ·subst hyx
       exact ⟨(c3 j).2 (.inr hj), fun e => c1 (e ▸ hj)⟩
      ·have hyt : y ∉ x :: td := fun hm => by
        rcases List.mem_cons.1 hm with e | hm
        ·exact hyx e
        ·exact hn (c4 y hm)
       have hy' : y = a ∨ r.getD y false = true := by
        rcases hy with e | hy
        ·exact .inl e
        ·cases hq : r.getD y false with
         | true => exact .inr rfl
         | false => exact absurd (c6 y hy hq) hn
       obtain ⟨d1, d2⟩ := h5 y hy' hyt j hj
       exact ⟨(c3 j).2 (.inl d1), d2⟩
     ·simp only at c7
      have := Zlf fs.length b'.2
      omega
  ·have h0 : ∀ k, (List.replicate fs.length false).getD k false = false := fun k => by
    rw [List.getD_eq_getElem?_getD, List.getElem?_replicate]; split <;> rfl
   refine ⟨[a], _, rfl, fun x hx => (by simp at hx; omega), by simp, fun k hk => (by rw [h0] at hk; cases hk), fun x hx => .inl (by simpa using hx), fun x hx hn => ?_, by simp; omega, Nat.le_refl _⟩
   rcases hx with rfl | hx
   ·exact absurd (by simp) hn
   ·rw [h0] at hx; cases hx
 obtain ⟨o, q1, q2⟩ := q
 have g10 : fs.length ≤ 549755813888 := by omega
 unfold ZcN
 simp only [ZCb, ZBh, vz, lr, lf, g10, q1, Option.bind_some, if_true]
 cases o with
 | inl u => exact ⟨false, rfl, ⟨fun h => (by cases h), fun h => absurd h q2⟩⟩
 | inr b => exact ⟨b, rfl, ⟨fun _ => q2.2, fun _ => q2.1⟩⟩
end Go.Proofs.Ythagpbkmakocjaa
namespace Go.Proofs.Ythagpbkmakocjaa
set_option linter.all false
open Go Go.Eng
theorem ZKU : ∀ (n : Nat) (l : List Nat), l.Nodup → (∀ x ∈ l, x < n) → l.length ≤ n
 | 0, l, _, h => by
  cases l with
  | nil => exact Nat.le_refl _
  | cons x l => exact absurd (h x (List.mem_cons_self ..)) (Nat.not_lt_zero _)
 | n + 1, l, hn, h => by
  have := ZKU n (l.erase n) (hn.erase n) (fun x hx => by
   have h1 := (hn.mem_erase_iff).1 hx
   have := h x h1.2
   omega)
  have h2 := List.length_erase (a := n) (l := l)
  split at h2 <;> omega
theorem ZMS : ∀ (n : Nat) (l : List Nat), (∀ i, i < n → i ∈ l) → n ≤ l.length
 | 0, _, _ => Nat.zero_le _
 | n + 1, l, h => by
  have h1 := h n (Nat.lt_succ_self n)
  have := ZMS n (l.erase n) (fun i hi => (List.mem_erase_of_ne (by omega)).2 (h i (by omega)))
  rw [List.length_erase_of_mem h1] at this
  have := List.length_pos_of_mem h1
  omega
theorem ZOO (n : Nat) (s : Nat → Nat) (h : ∀ a, s a < n) : ∃ a b, a < b ∧ b ≤ n ∧ s a = s b := by
 refine Classical.byContradiction fun hc => ?_
 have hnd : ((List.range (n + 1)).map s).Nodup := by
  unfold List.Nodup
  rw [List.pairwise_map]
  exact List.Pairwise.imp_of_mem (fun {a b} ha hb hab => fun e => hc ⟨a, b, hab, by have := List.mem_range.1 hb; omega, e⟩) (List.pairwise_lt_range (n := n + 1))
 have := ZKU n _ hnd (fun x hx => by obtain ⟨a, _, rfl⟩ := List.mem_map.1 hx; exact h a)
 simp at this
 omega
def Zp1 (o : List Nat) (x : Int) : Bool := (ZbC o).any fun y => decide (x = y)
theorem Zf7 {o : List Nat} {i : Nat} : Zp1 o (i : Int) = true ↔ i ∈ o := by
 unfold Zp1 ZbC
 rw [List.any_map, List.any_eq_true]
 constructor
 ·rintro ⟨y, hy, h⟩
  have : (i : Int) = (y : Int) := of_decide_eq_true h
  have : i = y := by omega
  exact this ▸ hy
 ·exact fun h => ⟨i, h, by simp [Function.comp]⟩
def rdF (fs : List Fil) (o : List Nat) (f : Fil) : Bool := !Zp1 o (ixP fs fun y => decide (y.name = f.name)) && !(f.imports.any fun s => !Zp1 o (ixP fs fun y => decide (y.name = s)))
theorem ZL4 (fs : List Fil) (o : List Nat) (f : Fil) (h1 : fs.length ≤ 1048576) (h2 : o.length ≤ 1048576) (h3 : f.imports.length < 2147483648) : Zbq f (ZbC o) fs = some (rdF fs o f) := by
 have hl : (ZbC o).length < 4611686018427387904 := by unfold ZbC; rw [List.length_map]; omega
 have e1 : ∀ x, Zbk (ZbC o) x = some (Zp1 o x) := fun x => ZMO _ x hl
 have e2 : ∀ x, ZcQ (ZbC o) x = some (Zp1 o x) := fun x => m88 _ x hl
 have e2r : ∀ x, Zbk (ZbC o) x = some (Zp1 o x) := e1
 have e3 : ∀ s, ZcK s (ZbC o) fs = some (!Zp1 o (ixP fs fun y => decide (y.name = s))) := fun s => by
  unfold ZcK
  simp only [ZG4, vw, m51 fs s (by omega), e2, Option.bind_some]
 have e4 : ∀ s, Za3 s (ZbC o) fs = some (!Zp1 o (ixP fs fun y => decide (y.name = s))) := fun s => by
  unfold Za3
  simp only [ZlW, vw, m51 fs s (by omega), e1, Option.bind_some]
 have e5 := m89 f.imports (fun s => Za3 s (ZbC o) fs) (fun s => !Zp1 o (ixP fs fun y => decide (y.name = s))) (fun s _ => e4 s) (by omega)
 have e6 := m89 f.imports (fun s => ZcK s (ZbC o) fs) (fun s => !Zp1 o (ixP fs fun y => decide (y.name = s))) (fun s _ => e3 s) (by omega)
 unfold Zbq rdF
 simp only [Zlh, vw, m51 fs f.name (by omega), e1, e5, Option.bind_some]
 cases Zp1 o (ixP fs fun y => decide (y.name = f.name)) <;> rfl
def ZGa (fs : List Fil) : Prop := ∀ (i : Nat) (f : Fil), fs[i]? = some f → (ixP fs fun y => decide (y.name = f.name)) = (i : Int)
theorem ZfI {α ρ : Type} {R : List α → α → Option ρ} : ∀ {l p : List α}, Zaw R p l = none → ∀ (i : Nat) (x : α), l[i]? = some x → R (p ++ l.take i) x = none
 | [], p, _, i, x, hx => by simp at hx
 | y :: l, p, h, i, x, hx => by
  rw [Zaw] at h
  cases hr : R p y with
  | some r => rw [hr] at h; cases h
  | none =>
   rw [hr] at h
   cases i with
   | zero =>
    simp only [List.getElem?_cons_zero, Option.some.injEq] at hx
    subst hx
    simpa using hr
   | succ i =>
    have := ZfI (l := l) (p := p ++ [y]) h i x (by simpa using hx)
    simpa using this
theorem ZyZ {fs : List Fil} (h : ZAi fs = none) : ZGa fs := fun i f hf => by
 have h1 := ZfI h i f hf
 have hlt := (List.getElem?_eq_some_iff.1 hf).1
 simp only [List.nil_append, List.length_take] at h1
 split at h1
 ·cases h1
 ·rename_i hn
  have hge : 0 ≤ ixP fs fun y => decide (y.name = f.name) := by omega
  obtain ⟨j, g, e1, e2, e3, e4⟩ := Zm4 hge
  rw [e1] at hn ⊢
  have : ¬ i < j := fun hij => by
   have := e4 i hij f hf
   simp at this
  omega
structure Cho (fs : List Fil) (o : List Nat) : Prop where
 lt : ∀ x ∈ o, x < fs.length
 nd : o.Nodup
 dep : ∀ (k x : Nat), o[k]? = some x → ∀ j ∈ dpx fs x, j ∈ o.take k
theorem ZrA {fs : List Fil} {o : List Nat} (h : Cho fs o) : o.length ≤ fs.length := ZKU fs.length o h.nd h.lt
theorem ZzR {fs : List Fil} (hF : ZhQ fs) (hD : ZGa fs) {o : List Nat} {i : Nat} {f : Fil} (hf : fs[i]? = some f) : rdF fs o f = true ↔ i ∉ o ∧ ∀ j ∈ dpx fs i, j ∈ o := by
 have e : fs.getD i ZfW = f := by rw [List.getD_eq_getElem?_getD, hf]; rfl
 have hm := List.mem_of_getElem? hf
 unfold rdF dpx
 rw [hD i f hf, e, Bool.and_eq_true, Bool.not_eq_true', Bool.not_eq_true', List.any_eq_false]
 constructor
 ·rintro ⟨h1, h2⟩
  refine ⟨fun hi => (by rw [Zf7.2 hi] at h1; cases h1), fun j hj => ?_⟩
  obtain ⟨s, hs, rfl⟩ := List.mem_map.1 hj
  have := h2 s hs
  rw [(ZiD (hF f hm s hs)).2] at this
  exact Zf7.1 (by simpa using this)
 ·rintro ⟨h1, h2⟩
  refine ⟨?_, fun s hs => ?_⟩
  ·cases hq : Zp1 o (i : Int) with
   | false => rfl
   | true => exact absurd (Zf7.1 hq) h1
  ·rw [(ZiD (hF f hm s hs)).2, Zf7.2 (h2 _ (List.mem_map.2 ⟨s, hs, rfl⟩))]
   simp
theorem m52 (fs : List Fil) (h : fs.length ≤ 1048576) (hi : ∀ f ∈ fs, f.imports.length < 2147483648) (hF : ZhQ fs) (hD : ZGa fs) : ∃ o, ZdY fs = some (ZbC o) ∧ Cho fs o ∧ (o.length = fs.length ∨ ∀ x, x < fs.length → x ∉ o → ∃ j ∈ dpx fs x, j ∉ o) := by
 have q : ∃ r : List Int ⊕ List Int, Zab (ZoW fs) big [] = some r ∧ ∃ o, (r = .inl (ZbC o) ∨ r = .inr (ZbC o)) ∧ Cho fs o ∧ (o.length = fs.length ∨ ∀ x, x < fs.length → x ∉ o → ∃ j ∈ dpx fs x, j ∉ o) := by
  refine Zev (fun m v => ∃ o, v = ZbC o ∧ Cho fs o ∧ fs.length ≤ m + o.length) (fun r : List Int ⊕ List Int => ∃ o, (r = .inl (ZbC o) ∨ r = .inr (ZbC o)) ∧ Cho fs o ∧ (o.length = fs.length ∨ ∀ x, x < fs.length → x ∉ o → ∃ j ∈ dpx fs x, j ∉ o)) ?_ big fs.length [] (Zaf (by omega)) ⟨[], rfl, ⟨fun x hx => (by cases hx), List.nodup_nil, fun k x hx => (by simp at hx)⟩, by simp⟩
  rintro m v ⟨o, rfl, hC, hm⟩
  have hol := ZrA hC
  have e0 : (ZbC o).length = o.length := by simp [ZbC]
  by_cases hlt : o.length < fs.length
  ·have g1 := m85 fs (fun z => Zbq z (ZbC o) fs) (rdF fs o) (fun f hf => ZL4 fs o f h (by omega) (hi f hf)) (by omega)
   by_cases hn : (ixP fs (rdF fs o)) < 0
   ·refine ⟨.rt (ZbC o), by simp only [ZoW, Zty, vw, e0, hlt, g1, hn, Option.bind_some, Int.ofNat_lt, decide_true, if_true], o, .inr rfl, hC, .inr fun x hx hxo => ?_⟩
    apply Classical.byContradiction
    intro hne
    have hr : rdF fs o fs[x] = true := (ZzR hF hD (List.getElem?_eq_getElem hx)).2 ⟨hxo, fun j hj => Classical.byContradiction fun hjo => hne ⟨j, hj, hjo⟩⟩
    have := Zig (l := fs) (p := rdF fs o)
    rw [List.any_eq_true.2 ⟨fs[x], List.getElem_mem hx, hr⟩] at this
    have := of_decide_eq_true this
    omega
   ·obtain ⟨i, f, e1, e2, e3, _⟩ := Zm4 (l := fs) (p := rdF fs o) (by omega)
    obtain ⟨r1, r2⟩ := (ZzR hF hD e2).1 e3
    have hil := (List.getElem?_eq_some_iff.1 e2).1
    rw [e1] at g1 hn
    have g3 : o.length < 549755813887 := by omega
    refine ⟨.nx (ZbC o ++ [(i : Int)]), by simp only [ZoW, Zty, vw, e0, hlt, g1, hn, g3, Option.bind_some, Int.ofNat_lt, decide_true, decide_false, if_true, Bool.false_eq_true, if_false], m - 1, by omega, o ++ [i], by simp [ZbC], ⟨fun x hx => ?_, ?_, fun k x hx j hj => ?_⟩, by simp; omega⟩
    ·rcases List.mem_append.1 hx with hx | hx
     ·exact hC.lt x hx
     ·simp at hx; omega
    ·rw [List.nodup_append]
     exact ⟨hC.nd, by simp, fun a ha b hb => by simp at hb; subst hb; exact fun e => r1 (e ▸ ha)⟩
    ·have hk := (List.getElem?_eq_some_iff.1 hx).1
     rw [List.length_append, List.length_singleton] at hk
     rcases Nat.lt_or_ge k o.length with hk2 | hk2
     ·rw [List.getElem?_append_left hk2] at hx
      rw [List.take_append_of_le_length (by omega)]
      exact hC.dep k x hx j hj
     ·have : k = o.length := by omega
      subst this
      rw [List.getElem?_append_right (Nat.le_refl _), Nat.sub_self] at hx
      simp at hx
      subst hx
      rw [List.take_append_of_le_length (Nat.le_refl _), List.take_length]
      exact r2 j hj
  ·refine ⟨.ex (ZbC o), by simp [ZoW, Zty, vw, e0, hlt], o, .inl rfl, hC, .inl (by omega)⟩
 obtain ⟨r, q1, o, q2, q3, q4⟩ := q
 refine ⟨o, ?_, q3, q4⟩
 unfold ZdY
 simp only [ZBW, ZEN, ZD3, vw, lc, q1, Option.bind_some]
 rcases q2 with rfl | rfl <;> rfl
theorem ZAR {fs : List Fil} {o : List Nat} (h : Cho fs o) {a j : Nat} (hr : Rch fs a j) : ∀ k : Nat, o[k]? = some a → ∃ m : Nat, m < k ∧ o[m]? = some j := by
 induction hr with
 | one hj =>
  intro k hk
  have := h.dep k _ hk _ hj
  obtain ⟨m, hm⟩ := List.mem_iff_getElem?.1 this
  have hml := (List.getElem?_eq_some_iff.1 hm).1
  rw [List.length_take] at hml
  rw [List.getElem?_take_of_lt (by omega)] at hm
  exact ⟨m, by omega, hm⟩
 | step _ hj ih =>
  intro k hk
  obtain ⟨m, hm, hx⟩ := ih k hk
  have := h.dep m _ hx _ hj
  obtain ⟨m2, hm2⟩ := List.mem_iff_getElem?.1 this
  have hml := (List.getElem?_eq_some_iff.1 hm2).1
  rw [List.length_take] at hml
  rw [List.getElem?_take_of_lt (by omega)] at hm2
  exact ⟨m2, by omega, hm2⟩
theorem ZlA {fs : List Fil} {o : List Nat} (h : Cho fs o) {a : Nat} (ha : a ∈ o) : ¬ Rch fs a a := fun hr => by
 obtain ⟨k, hk⟩ := List.mem_iff_getElem?.1 ha
 obtain ⟨m, hm, hx⟩ := ZAR h hr k hk
 obtain ⟨h1, e1⟩ := List.getElem?_eq_some_iff.1 hk
 obtain ⟨h2, e2⟩ := List.getElem?_eq_some_iff.1 hx
 exact (List.pairwise_iff_getElem.1 h.nd) m k h2 h1 hm (by rw [e1, e2])
theorem Zri {fs : List Fil} (hF : ZhQ fs) {o : List Nat} (h : ∀ x, x < fs.length → x ∉ o → ∃ j ∈ dpx fs x, j ∉ o) {x : Nat} (hx : x < fs.length) (hxo : x ∉ o) : ∃ a, a < fs.length ∧ Rch fs a a := by
 let T := { y : Nat // y < fs.length ∧ y ∉ o }
 have hn : ∀ y : T, ∃ z : T, z.1 ∈ dpx fs y.1 := fun y => by
  obtain ⟨j, hj, hjo⟩ := h y.1 y.2.1 y.2.2
  exact ⟨⟨j, (ZjP hF hj).2, hjo⟩, hj⟩
 let nx : T → T := fun y => Classical.choose (hn y)
 have hnx : ∀ y : T, (nx y).1 ∈ dpx fs y.1 := fun y => Classical.choose_spec (hn y)
 let s : Nat → T := fun n => Nat.rec ⟨x, hx, hxo⟩ (fun _ y => nx y) n
 have hs : ∀ n, (s (n + 1)).1 ∈ dpx fs (s n).1 := fun n => hnx (s n)
 have hr : ∀ a d, Rch fs (s a).1 (s (a + d + 1)).1 := fun a d => by
  induction d with
  | zero => exact .one (hs a)
  | succ d ih => exact .step ih (hs (a + d + 1))
 obtain ⟨a, b, hab, _, he⟩ := ZOO fs.length (fun n => (s n).1) (fun n => (s n).2.1)
 obtain ⟨d, rfl⟩ : ∃ d, b = a + d + 1 := ⟨b - a - 1, by omega⟩
 exact ⟨(s a).1, (s a).2.1, by have := hr a d; rw [← he] at this; exact this⟩
end Go.Proofs.Ythagpbkmakocjaa
namespace Go.Proofs.Ythagpbkmakocjaa
set_option linter.all false
open Go Go.Eng
def cyc (fs : List Fil) : Option ByteArray := Zaw (fun p (f : Fil) => if (Zih fs p.length).getD p.length false = true then some f.name else none) [] fs
def Zvb (fs : List Fil) : ByteArray × Int :=
 if fs.length < 1 ∨ 16 < fs.length then (⟨#[]⟩, 3) else match ZAi fs with
  | some s => (s, 9)
  | none => match ZAn fs with
   | some s => (s, 10)
   | none => match cyc fs with
    | some s => (s, 19)
    | none => (⟨#[]⟩, 0)
theorem ZOJ (fs : List Fil) (h : fs.length ≤ 1048576) (hi : ∀ f ∈ fs, f.imports.length < 2147483648) (hF : ZhQ fs) (a : Nat) (ha : a < fs.length) : ZcN fs (a : Int) = some ((Zih fs a).getD a false) := by
 obtain ⟨b, h1, h2⟩ := m53 fs h hi hF a ha
 rw [h1]
 congr 1
 rw [Bool.eq_iff_iff, h2, Zlm hF ha]
theorem ZMc (fs : List Fil) (h : fs.length ≤ 1048576) (hi : ∀ f ∈ fs, f.imports.length < 2147483648) (hF : ZhQ fs) : Zab (Zo4 fs) big 0 = some ((cyc fs).elim (.inl ()) fun s => .inr ([], s, 19)) := by
 have := ZaO (B := Zo4 fs) (N := big) fs (fun _ => ()) (fun p (f : Fil) => if (Zih fs p.length).getD p.length false = true then some (([], f.name, 19) : List Int × ByteArray × Int) else none) (fun i _ => i) (fun _ => ()) (hN := Zaf (by omega)) (he := by simp [Zo4, ZwH, br]) (hs := by
  intro i f hf
  have g1 := (List.getElem?_eq_some_iff.1 hf).1
  have g2 : i + 1 < 9223372036854775808 := by omega
  have g3 := ZOJ fs h hi hF i g1
  have g4 : (fs.take i).length = i := by rw [List.length_take]; omega
  simp only [Zo4, ZwH, br, g1, g2, g3, g4, hf, Option.bind_some, Int.ofNat_lt, decide_true, if_true]
  cases (Zih fs i).getD i false <;> rfl)
 rw [this]
 unfold cyc
 rw [ZcL (g := fun s => (([], s, 19) : List Int × ByteArray × Int)) (R := fun p (f : Fil) => if (Zih fs p.length).getD p.length false = true then some f.name else none) (fun p x => by split <;> rfl)]
 cases Zaw (fun p (f : Fil) => if (Zih fs p.length).getD p.length false = true then some f.name else none) [] fs <;> rfl
theorem ZMr (fs : List Fil) (h : fs.length ≤ 1048576) (hi : ∀ f ∈ fs, f.imports.length < 2147483648) (hF : ZhQ fs) : Zab (Zpq fs) big 0 = some ((cyc fs).elim (.inl ()) fun s => .inr ([], s, 19)) := by
 have := ZaO (B := Zpq fs) (N := big) fs (fun _ => ()) (fun p (f : Fil) => if (Zih fs p.length).getD p.length false = true then some (([], f.name, 19) : List Int × ByteArray × Int) else none) (fun i _ => i) (fun _ => ()) (hN := Zaf (by omega)) (he := by simp [Zpq, Zxc, vz]) (hs := by
  intro i f hf
  have g1 := (List.getElem?_eq_some_iff.1 hf).1
  have g2 : i + 1 < 9223372036854775808 := by omega
  have g3 := m67 fs h hi hF i g1
  have g4 : (fs.take i).length = i := by rw [List.length_take]; omega
  simp only [Zpq, Zxc, vz, g1, g2, g3, g4, hf, Option.bind_some, Int.ofNat_lt, decide_true, if_true]
  cases (Zih fs i).getD i false <;> rfl)
 rw [this]
 unfold cyc
 rw [ZcL (g := fun s => (([], s, 19) : List Int × ByteArray × Int)) (R := fun p (f : Fil) => if (Zih fs p.length).getD p.length false = true then some f.name else none) (fun p x => by split <;> rfl)]
 cases Zaw (fun p (f : Fil) => if (Zih fs p.length).getD p.length false = true then some f.name else none) [] fs <;> rfl
theorem Zfh {α ρ : Type} {R : List α → α → Option ρ} : ∀ {l p : List α} {i : Nat} {x : α}, l[i]? = some x → R (p ++ l.take i) x ≠ none → ∃ r, Zaw R p l = some r
 | [], p, i, x, hx, _ => by simp at hx
 | y :: l, p, i, x, hx, h => by
  rw [Zaw]
  cases hr : R p y with
  | some r => exact ⟨r, rfl⟩
  | none =>
   cases i with
   | zero =>
    simp only [List.getElem?_cons_zero, Option.some.injEq] at hx
    subst hx
    exact absurd hr (by simpa using h)
   | succ i => exact Zfh (l := l) (p := p ++ [y]) (i := i) (x := x) (by simpa using hx) (by simpa using h)
theorem ZxV {fs : List Fil} (hF : ZhQ fs) {a : Nat} (ha : a < fs.length) (hr : Rch fs a a) : ∃ s, cyc fs = some s :=
 Zfh (List.getElem?_eq_getElem ha) (by
  have e : (fs.take a).length = a := by rw [List.length_take]; omega
  simp only [List.nil_append, e]
  rw [if_pos ((Zlm hF ha a).2 hr)]
  simp)
theorem Zxs {fs : List Fil} (hF : ZhQ fs) (h : ∀ a, a < fs.length → ¬ Rch fs a a) : cyc fs = none := by
 cases hc : cyc fs with
 | none => rfl
 | some s =>
  exfalso
  unfold cyc at hc
  have key : ∀ (l p : List Fil), p ++ l = fs → Zaw (fun p (f : Fil) => if (Zih fs p.length).getD p.length false = true then some f.name else none) p l = some s → False := fun l => by
   induction l with
   | nil => intro p _ h; cases h
   | cons x l ih =>
    intro p hp hq
    rw [Zaw] at hq
    have hlt : p.length < fs.length := by rw [← hp]; simp
    have hno : ¬ (Zih fs p.length).getD p.length false = true := fun q => h _ hlt ((Zlm hF hlt _).1 q)
    rw [if_neg hno] at hq
    exact ih (p ++ [x]) (by simpa using hp) hq
  exact key fs [] rfl hc
theorem m22 (fs : List Fil) (hi : ∀ f ∈ fs, f.imports.length < 2147483648) (h : fs.length ≤ 1048576) : ∃ l, Zec fs = some (l, Zvb fs) := by
 unfold Zec Zvb
 by_cases hn : fs.length < 1 ∨ 16 < fs.length
 ·have g : (decide ((fs.length : Int) < (1 : Int)) || decide ((16 : Int) < (fs.length : Int))) = true := by simp; omega
  simp only [ZvJ, Zyc, ZwY, ZnJ, ZmH, Zmt, vz, lr, lf, cl, g, if_true, hn]
  exact ⟨[], rfl⟩
 ·have g : (decide ((fs.length : Int) < (1 : Int)) || decide ((16 : Int) < (fs.length : Int))) = false := by simp; omega
  simp only [ZvJ, Zyc, ZwY, ZnJ, ZmH, Zmt, vz, lr, lf, cl, g, Bool.false_eq_true, if_false, hn, ZLh fs h, Option.bind_some]
  cases h1 : ZAi fs with
  | some s => exact ⟨[], rfl⟩
  | none =>
   simp only [Option.elim, Sum.elim_inl, ZLP fs h hi, Option.bind_some]
   cases h2 : ZAn fs with
   | some s => exact ⟨[], rfl⟩
   | none =>
    have hF : ZhQ fs := Zg8 h2
    have hD := ZyZ h1
    obtain ⟨o, o1, o2, o3⟩ := m52 fs h hi hF hD
    simp only [Sum.elim_inl, Option.bind_some, o1]
    have e0 : (ZbC o).length = o.length := by simp [ZbC]
    by_cases hl : o.length = fs.length
    ·have hall : ∀ a, a < fs.length → a ∈ o := fun a ha => by
      apply Classical.byContradiction
      intro hao
      have := ZKU fs.length (a :: o) (List.nodup_cons.2 ⟨hao, o2.nd⟩) (fun x hx => by rcases List.mem_cons.1 hx with rfl | hx; exact ha; exact o2.lt x hx)
      simp at this
      omega
     rw [Zxs hF fun a ha => ZlA o2 (hall a ha)]
     refine ⟨ZbC o, ?_⟩
     simp [e0, hl]
    ·obtain ⟨x, hx, hxo⟩ : ∃ x, x < fs.length ∧ x ∉ o := by
      apply Classical.byContradiction
      intro hne
      have := ZMS fs.length o (fun i hi' => Classical.byContradiction fun hio => hne ⟨i, hi', hio⟩)
      have := ZrA o2
      omega
     obtain ⟨a, ha, hr⟩ := Zri hF (o3.resolve_left hl) hx hxo
     obtain ⟨s, hs⟩ := ZxV hF ha hr
     refine ⟨[], ?_⟩
     have e9 : ¬ (o.length : Int) = (fs.length : Int) := by omega
     simp [e0, e9, ZMc fs h hi hF, hs]
theorem ZLL (fs : List Fil) (h : fs.length ≤ 1048576) (v15 : Nat) (r17 : List Int) (v18 : Nat) (r19 : List Bool) (f : Fil) (hl : f.imports.length < 2147483648) (hF : Zd3 fs f) (hr : r19.length = fs.length) (b : Bool) : ∃ v, Zab (Zpx fs v15 r17 v18 r19 f) big (b, 0) = some (.inl v) := by
 obtain ⟨o, h1, v, rfl⟩ := Zev (B := Zpx fs v15 r17 v18 r19 f) (fun m v => v.2 ≤ f.imports.length ∧ f.imports.length ≤ m + v.2) (fun o => ∃ v, o = .inl v) (by
  rintro m ⟨b, i⟩ ⟨h1, h2⟩
  simp only at h1 h2
  by_cases hlt : i < f.imports.length
  ·have hs := List.getElem?_eq_getElem hlt
   obtain ⟨k1, k2⟩ := ZiD (hF _ (List.getElem_mem hlt))
   have g3 := m66 fs f.imports[i] (by omega)
   rw [k2] at g3
   have g2 : i + 1 < 9223372036854775808 := by omega
   have g5 : (0 : Int) ≤ (fi fs f.imports[i] : Int) := by omega
   refine ⟨.nx _, by simp [Zpx, ZwG, br, hlt, g3, g2, hr, k1]; rfl, m - 1, by omega, by show i + 1 ≤ _; omega, by show _ ≤ m - 1 + (i + 1); omega⟩
  ·have : i = f.imports.length := by omega
   subst this
   exact ⟨.ex b, by simp [Zpx, ZwG, br], b, rfl⟩) big f.imports.length (b, 0) (Zaf (by omega)) ⟨Nat.zero_le _, Nat.le_refl _⟩
 exact ⟨v, h1⟩
theorem ZMe (fs : List Fil) (h : fs.length ≤ 1048576) (hi : ∀ f ∈ fs, f.imports.length < 2147483648) (hF : ZhQ fs) (v15 : Nat) (l : List Int) (r : List Bool) (hl : l.length ≤ 1048576) (hr : r.length = fs.length) : ∃ l' r', Zab (Zk8 fs v15) big (l, 0, r) = some (.inl (l', r')) ∧ l'.length ≤ l.length + 1 ∧ r'.length = fs.length := by
 obtain ⟨o, h1, l', r', rfl, h2, h3⟩ := Zev (B := Zk8 fs v15) (fun m v => v.1 = l ∧ v.2.2 = r ∧ v.2.1 ≤ fs.length ∧ fs.length ≤ m + v.2.1) (fun o => ∃ l' r', o = .inl (l', r') ∧ l'.length ≤ l.length + 1 ∧ r'.length = fs.length) (by
  rintro m ⟨l1, i, r1⟩ ⟨e1, e2, h1, h2⟩
  simp only at e1 e2 h1 h2
  subst e1
  subst e2
  by_cases hlt : i < fs.length
  ·have hm := List.getElem_mem hlt
   obtain ⟨v, hv⟩ := ZLL fs h v15 l1 i r1 fs[i] (hi _ hm) (hF _ hm) hr (!r1[i])
   have g2 : i + 1 < 9223372036854775808 := by omega
   have g3 : l1.length < 549755813887 := by omega
   cases v with
   | true => exact ⟨.ex (l1 ++ [(i : Int)], r1.set i true), by simp [Zk8, Zs9, Zql, Zke, Zkt, ZjE, br, ix, vz, vs, hlt, hr, hv, g2, g3], _, _, rfl, by simp, by simp [hr]⟩
   | false => exact ⟨.nx (l1, i + 1, r1), by simp [Zk8, Zs9, Zql, Zke, Zkt, ZjE, br, ix, vz, vs, hlt, hr, hv, g2, g3], m - 1, by omega, rfl, rfl, by show i + 1 ≤ _; omega, by show _ ≤ m - 1 + (i + 1); omega⟩
  ·have : i = fs.length := by omega
   subst this
   exact ⟨.ex (l1, r1), by simp [Zk8, Zs9, Zql, Zke, Zkt, ZjE, br, ix, vz, vs], _, _, rfl, by omega, hr⟩) big fs.length (l, 0, r) (Zaf (by omega)) ⟨rfl, rfl, Nat.zero_le _, Nat.le_refl _⟩
 exact ⟨l', r', h1, h2, h3⟩
theorem ZLz (fs : List Fil) (h : fs.length ≤ 1048576) (hi : ∀ f ∈ fs, f.imports.length < 2147483648) (hF : ZhQ fs) : ∃ l, Zab (ZpT fs) big ([], 0, List.replicate fs.length false) = some (.inl l) := by
 obtain ⟨o, h1, l, rfl⟩ := Zev (B := ZpT fs) (fun m v => v.1.length ≤ v.2.1 ∧ v.2.2.length = fs.length ∧ v.2.1 ≤ fs.length ∧ fs.length ≤ m + v.2.1) (fun o => ∃ l, o = .inl l) (by
  rintro m ⟨l, i, r⟩ ⟨h1, h2, h3, h4⟩
  simp only at h1 h2 h3 h4
  by_cases hlt : i < fs.length
  ·obtain ⟨l', r', q1, q2, q3⟩ := ZMe fs h hi hF i l r (by omega) h2
   have g2 : i + 1 < 9223372036854775808 := by omega
   exact ⟨.nx (l', i + 1, r'), by simp [ZpT, Zn5, Znp, ZmB, vz, vs, hlt, q1, g2], m - 1, by omega, by show l'.length ≤ i + 1; omega, q3, by show i + 1 ≤ _; omega, by show _ ≤ m - 1 + (i + 1); omega⟩
  ·have : i = fs.length := by omega
   subst this
   exact ⟨.ex l, by simp [ZpT, Zn5, Znp, ZmB, vz, vs], l, rfl⟩) big fs.length ([], 0, List.replicate fs.length false) (Zaf (by omega)) ⟨Nat.le_refl _, by simp, Nat.zero_le _, Nat.le_refl _⟩
 exact ⟨l, h1⟩
theorem m31 (fs : List Fil) (hi : ∀ f ∈ fs, f.imports.length < 2147483648) (h : fs.length ≤ 1048576) : ∃ l, ZbP fs = some (l, Zvb fs) := by
 unfold ZbP Zvb
 by_cases hn : fs.length < 1 ∨ 16 < fs.length
 ·have g : (decide ((fs.length : Int) < (1 : Int)) || decide ((16 : Int) < (fs.length : Int))) = true := by simp; omega
  simp only [Zm7, ZnD, ZnH, ZmV, ZnX, Zn9, ZmX, Zme, vz, vw, lc, g, if_true, hn]
  exact ⟨[], rfl⟩
 ·have g : (decide ((fs.length : Int) < (1 : Int)) || decide ((16 : Int) < (fs.length : Int))) = false := by simp; omega
  simp only [Zm7, ZnD, ZnH, ZmV, ZnX, Zn9, ZmX, Zme, vz, vw, lc, g, Bool.false_eq_true, if_false, hn, ZL5 fs h, Option.bind_some]
  cases h1 : ZAi fs with
  | some s => exact ⟨[], rfl⟩
  | none =>
   simp only [Option.elim, Sum.elim_inl, ZL3 fs h hi, Option.bind_some]
   cases h2 : ZAn fs with
   | some s => exact ⟨[], rfl⟩
   | none =>
    have hF : ZhQ fs := Zg8 h2
    simp only [Option.elim, Sum.elim_inl, Option.bind_some, ZMr fs h hi hF]
    cases h3 : cyc fs with
    | some s => exact ⟨[], rfl⟩
    | none =>
     obtain ⟨l, hl⟩ := ZLz fs h hi hF
     have g10 : fs.length ≤ 549755813888 := by omega
     refine ⟨l, ?_⟩
     simp [hl, g10]
end Go.Proofs.Ythagpbkmakocjaa
namespace Go.Proofs.Ythagpbkmakocjaa
set_option linter.all false
open Go Go.Eng
def Zfk : Prop := ∀ (ms : List Msg) (es : List Enm) (vs : List Svc), ms.length ≤ 64 → es.length ≤ 64 → vs.length ≤ 64 → ∃ a b c, ZcA ms es vs = some (a, b, c) ∧ Zbz ⟨ms, es, vs⟩ = some ⟨a, b, c⟩ ∧ a.Perm ms ∧ b.Perm es ∧ c.Perm vs
theorem ZtT {fs : List Fil} (h : (Zvb fs).2 = 0) : ZhQ fs := by
 unfold Zvb at h
 split at h
 ·exact absurd h (by decide)
 ·split at h
  ·exact absurd h (by decide : ¬ (9 : Int) = 0)
  ·split at h
   ·exact absurd h (by decide : ¬ (10 : Int) = 0)
   ·rename_i h2; exact Zg8 h2
def ZGL (fs : List Fil) : Option ByteArray := Zaw (ZhF fun x => x) [] (Zas fs)
theorem Zqn {ρ : Type} (n : ByteArray → ρ) (fs : List Fil) : Zaw (ZhF n) [] (Zas fs) = (ZGL fs).map n :=
 ZcL (fun p x => by unfold ZhF; split <;> rfl) _ _
theorem ZMH {fs : List Fil} (hA : SzA fs) (hG : ∀ f ∈ fs, SzG f) (hF : ZhQ fs) (hd : ZGL fs = none) : Base0 fs := by
 have hn := (Zn1 hd).1
 exact ⟨hA, hG, hF, Zy8 hn, ZKv hn⟩
def Zp7 (fs : List Fil) : Prop := 64 < Zi2 fs ∨ 64 < Zjk fs ∨ 64 < Zjl fs
instance (fs : List Fil) : Decidable (Zp7 fs) := by unfold Zp7; infer_instance
def ZhL (fs : List Fil) : ByteArray × Int :=
 if (Zvb fs).2 ≠ 0 then Zvb fs else if Zp7 fs then (⟨#[]⟩, 3) else match ZGL fs with
  | some x => (x, 9)
  | none => match fs.findSome? (ZhG fs) with
   | some r => r
   | none => (⟨#[]⟩, 0)
theorem Zkh (fs l : List Fil) : (l.flatMap (Zdz fs)).length = Zi2 l := Zjt _ _ (fun f => by simp [Zdz]) l
theorem ZkB (fs l : List Fil) : (l.flatMap (Zdf fs)).length = Zjl l := Zjt _ _ (fun f => by simp [Zdf]) l
theorem Zg7 (l : List Fil) : (Zat l).length = Zjk l := Zjt ZhU _ (fun f => by simp [ZhU]) l
theorem ZKn (fs : List Fil) : Zxe fs = (if Zp7 fs then (⟨#[]⟩, 3) else match ZGL fs with | some x => (x, 9) | none => (⟨#[]⟩, 0) : ByteArray × Int) := by
 unfold Zxe Zp7
 rw [Zqn]
 cases ZGL fs <;> rfl
theorem Zp9 (hS : Zfk) (fs : List Fil) (hA : SzA fs) (hG : ∀ f ∈ fs, SzG f) :
  ∃ s, ZdK fs = some (s, ZhL fs) ∧ ZbB fs = some (s, ZhL fs) ∧ ((ZhL fs).2 ≠ 0 → s = ⟨[], [], []⟩) ∧
   ((ZhL fs).2 = 0 → Base0 fs ∧ fs.findSome? (ZhG fs) = none ∧ ¬ Zp7 fs ∧ s.messages.Perm (fs.flatMap (Zdz fs)) ∧ s.enums.Perm (Zat fs) ∧ s.services.Perm (fs.flatMap (Zdf fs))) := by
 have hi : ∀ f ∈ fs, f.imports.length < 2147483648 := fun f hf => (hA.f f hf).is
 obtain ⟨l1, o1⟩ := m22 fs hi hA.n
 obtain ⟨l2, o2⟩ := m31 fs hi hA.n
 have c1 := m23 fs hA
 rw [ZKn] at c1
 have c2 : ZbA fs = some (decide (Zp7 fs)) := m32 fs hA
 have c3 := m33 fs hA
 rw [Zqn] at c3
 unfold ZdK ZbB ZhL
 simp only [ZFC, ZEM, ZEk, ZAv, ZD4, ZAH, ZDX, ZDl, ZC2, ZFP, ZCl, ZAY, ZGt, ZFR, vz, vw, cl, o1, o2, c1, c2, c3, Option.bind_some]
 by_cases h0 : (Zvb fs).2 = 0
 ·simp only [h0, decide_true, Bool.not_true, Bool.false_eq_true, if_false, ne_eq, not_true_eq_false]
  by_cases hb : Zp7 fs
  ·simp only [hb, if_true, decide_true]
   exact ⟨_, rfl, rfl, fun _ => rfl, fun h => absurd h (by decide)⟩
  ·simp only [hb, if_false, decide_false, Bool.false_eq_true]
   cases hd : ZGL fs with
   | some x => exact ⟨_, rfl, rfl, fun _ => rfl, fun h => absurd h (by decide : ¬ (9 : Int) = 0)⟩
   | none =>
    have hB := ZMH hA hG (ZtT h0) hd
    have hM : (Zak fs).length < 4611686018427387904 := by
     have e : (Zak fs).length = Zi2 fs := Zjt ZdJ _ Zc0 fs
     have := hA.t
     have := ZKO fs
     omega
    have hE : (Zat fs).length < 549755813888 := by
     have e := Zg7 fs
     have := hA.t
     have := ZKO fs
     omega
    simp only [Option.map_none, Option.getD_none, Bool.false_eq_true, if_false, ZOQ fs hA, m26 (Zat fs) hE, ZOA fs hB _ hM (by omega), ZMG fs hB, Option.bind_some, Sum.elim_inl, decide_true, Bool.not_true]
    cases he : fs.findSome? (ZhG fs) with
    | some r =>
     have hr : r.2 ≠ 0 := by
      obtain ⟨f, _, hf⟩ := List.exists_of_findSome?_eq_some he
      exact Zs0 hf
     exact ⟨_, rfl, rfl, fun _ => rfl, fun h => absurd h hr⟩
    | none =>
     unfold Zp7 at hb
     obtain ⟨a, b, c, s1, s2, s3, s4, s5⟩ := hS (fs.flatMap (Zdz fs)) (Zat fs) (fs.flatMap (Zdf fs)) (by rw [Zkh]; omega) (by rw [Zg7]; omega) (by rw [ZkB]; omega)
     simp only [Option.elim, Sum.elim_inl, Option.bind_some, s1, s2]
     exact ⟨_, rfl, rfl, fun h => absurd trivial h, fun _ => ⟨hB, trivial, fun h => h, s3, s4, s5⟩⟩
 ·simp only [h0, decide_false, Bool.not_false, if_true, ne_eq, not_false_eq_true]
  exact ⟨_, rfl, rfl, fun _ => rfl, fun h => h.elim⟩
end Go.Proofs.Ythagpbkmakocjaa
