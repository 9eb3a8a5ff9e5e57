import Derived.Test.YthagpbkmakocjaaCs20
namespace Go.Proofs.Ythagpbkmakocjaa
set_option linter.all false
open Go Go.Eng
theorem pig1 : ∀ (n : Nat) (l : List Nat), l.Nodup → (∀ x ∈ l, x < n) → l.length ≤ n
 | 0, l, _, h => by
  cases l with
  | nil => exact Nat.le_refl _
  | cons x l => exact absurd (h x (List.mem_cons_self ..)) (Nat.not_lt_zero _)
 | n + 1, l, hn, h => by
  have := pig1 n (l.erase n) (hn.erase n) (fun x hx => by
   have h1 := (hn.mem_erase_iff).1 hx
   have := h x h1.2
   omega)
  have h2 := List.length_erase (a := n) (l := l)
  split at h2 <;> omega
theorem pig2 : ∀ (n : Nat) (l : List Nat), (∀ i, i < n → i ∈ l) → n ≤ l.length
 | 0, _, _ => Nat.zero_le _
 | n + 1, l, h => by
  have h1 := h n (Nat.lt_succ_self n)
  have := pig2 n (l.erase n) (fun i hi => (List.mem_erase_of_ne (by omega)).2 (h i (by omega)))
  rw [List.length_erase_of_mem h1] at this
  have := List.length_pos_of_mem h1
  omega
theorem pig3 (n : Nat) (s : Nat → Nat) (h : ∀ a, s a < n) : ∃ a b, a < b ∧ b ≤ n ∧ s a = s b := by
 refine Classical.byContradiction fun hc => ?_
 have hnd : ((List.range (n + 1)).map s).Nodup := by
  unfold List.Nodup
  rw [List.pairwise_map]
  exact List.Pairwise.imp_of_mem (fun {a b} ha hb hab => fun e => hc ⟨a, b, hab, by have := List.mem_range.1 hb; omega, e⟩) (List.pairwise_lt_range (n := n + 1))
 have := pig1 n _ hnd (fun x hx => by obtain ⟨a, _, rfl⟩ := List.mem_map.1 hx; exact h a)
 simp at this
 omega
def memI (o : List Nat) (x : Int) : Bool := (intsN o).any fun y => decide (x = y)
theorem memI_nat {o : List Nat} {i : Nat} : memI o (i : Int) = true ↔ i ∈ o := by
 unfold memI intsN
 rw [List.any_map, List.any_eq_true]
 constructor
 ·rintro ⟨y, hy, h⟩
  have : (i : Int) = (y : Int) := of_decide_eq_true h
  have : i = y := by omega
  exact this ▸ hy
 ·exact fun h => ⟨i, h, by simp [Function.comp]⟩
def rdF (fs : List Fil) (o : List Nat) (f : Fil) : Bool := !memI o (ixP fs fun y => decide (y.name = f.name)) && !(f.imports.any fun s => !memI o (ixP fs fun y => decide (y.name = s)))
theorem m87v0 (fs : List Fil) (o : List Nat) (f : Fil) (h1 : fs.length ≤ 1048576) (h2 : o.length ≤ 1048576) (h3 : f.imports.length < 2147483648) : M_link_chosen_1v0 f (intsN o) fs = some (rdF fs o f) := by
 have hl : (intsN o).length < 4611686018427387904 := by unfold intsN; rw [List.length_map]; omega
 have e1 : ∀ x, M_Contains_intr0 (intsN o) x = some (memI o x) := fun x => m88r0 _ x hl
 have e2 : ∀ x, M_Contains_int (intsN o) x = some (memI o x) := fun x => m88 _ x hl
 have e2r : ∀ x, M_Contains_intr0 (intsN o) x = some (memI o x) := e1
 have e3 : ∀ s, M_link_chosen_1_1 s (intsN o) fs = some (!memI o (ixP fs fun y => decide (y.name = s))) := fun s => by
  unfold M_link_chosen_1_1
  simp only [T90_1, al, frt, stp, br, ix, ixi, vz, vy, vw, vs, vg, v2, lr, lrt, ln, lxe, lc, lf, lfe, ap, aq, a0, a1, ad, cl, cs, cf, wa, wi, ir, ca, cp, dd, mv, st, ss, sL, Bd.c, Bd.vl, m51 fs s (by omega), e2, Option.bind_some]
 have e4 : ∀ s, M_link_chosen_1_1v0 s (intsN o) fs = some (!memI o (ixP fs fun y => decide (y.name = s))) := fun s => by
  unfold M_link_chosen_1_1v0
  simp only [T90v0_1, al, frt, stp, br, ix, ixi, vz, vy, vw, vs, vg, v2, lr, lrt, ln, lxe, lc, lf, lfe, ap, aq, a0, a1, ad, cl, cs, cf, wa, wi, ir, ca, cp, dd, mv, st, ss, sL, Bd.c, Bd.vl, m51 fs s (by omega), e1, Option.bind_some]
 have e5 := m89 f.imports (fun s => M_link_chosen_1_1v0 s (intsN o) fs) (fun s => !memI o (ixP fs fun y => decide (y.name = s))) (fun s _ => e4 s) (by omega)
 have e6 := m89 f.imports (fun s => M_link_chosen_1_1 s (intsN o) fs) (fun s => !memI o (ixP fs fun y => decide (y.name = s))) (fun s _ => e3 s) (by omega)
 unfold M_link_chosen_1v0 rdF
 simp only [T87v0_1, al, frt, stp, br, ix, ixi, vz, vy, vw, vs, vg, v2, lr, lrt, ln, lxe, lc, lf, lfe, ap, aq, a0, a1, ad, cl, cs, cf, wa, wi, ir, ca, cp, dd, mv, st, ss, sL, Bd.c, Bd.vl, m51 fs f.name (by omega), e1, e5, e6, Option.bind_some]
 cases memI o (ixP fs fun y => decide (y.name = f.name)) <;> rfl
def DistF (fs : List Fil) : Prop := ∀ (i : Nat) (f : Fil), fs[i]? = some f → (ixP fs fun y => decide (y.name = f.name)) = (i : Int)
theorem firstR_noneP {α ρ : Type} {R : List α → α → Option ρ} : ∀ {l p : List α}, firstR R p l = none → ∀ (i : Nat) (x : α), l[i]? = some x → R (p ++ l.take i) x = none
 | [], p, _, i, x, hx => by simp at hx
 | y :: l, p, h, i, x, hx => by
  rw [firstR] at h
  cases hr : R p y with
  | some r => rw [hr] at h; cases h
  | none =>
   rw [hr] at h
   cases i with
   | zero =>
    simp only [List.getElem?_cons_zero, Option.some.injEq] at hx
    subst hx
    simpa using hr
   | succ i =>
    have := firstR_noneP (l := l) (p := p ++ [y]) h i x (by simpa using hx)
    simpa using this
theorem dist_chk {fs : List Fil} (h : chk1 fs = none) : DistF fs := fun i f hf => by
 have h1 := firstR_noneP h i f hf
 have hlt := (List.getElem?_eq_some_iff.1 hf).1
 simp only [List.nil_append, List.length_take] at h1
 split at h1
 ·cases h1
 ·rename_i hn
  have hge : 0 ≤ ixP fs fun y => decide (y.name = f.name) := by omega
  obtain ⟨j, g, e1, e2, e3, e4⟩ := ixP_at hge
  rw [e1] at hn ⊢
  have : ¬ i < j := fun hij => by
   have := e4 i hij f hf
   simp at this
  omega
structure Cho (fs : List Fil) (o : List Nat) : Prop where
 lt : ∀ x ∈ o, x < fs.length
 nd : o.Nodup
 dep : ∀ (k x : Nat), o[k]? = some x → ∀ j ∈ dpx fs x, j ∈ o.take k
theorem cho_len {fs : List Fil} {o : List Nat} (h : Cho fs o) : o.length ≤ fs.length := pig1 fs.length o h.nd h.lt
theorem rdF_at {fs : List Fil} (hF : AllF fs) (hD : DistF fs) {o : List Nat} {i : Nat} {f : Fil} (hf : fs[i]? = some f) : rdF fs o f = true ↔ i ∉ o ∧ ∀ j ∈ dpx fs i, j ∈ o := by
 have e : fs.getD i zFil = f := by rw [List.getD_eq_getElem?_getD, hf]; rfl
 have hm := List.mem_of_getElem? hf
 unfold rdF dpx
 rw [hD i f hf, e, Bool.and_eq_true, Bool.not_eq_true', Bool.not_eq_true', List.any_eq_false]
 constructor
 ·rintro ⟨h1, h2⟩
  refine ⟨fun hi => (by rw [memI_nat.2 hi] at h1; cases h1), fun j hj => ?_⟩
  obtain ⟨s, hs, rfl⟩ := List.mem_map.1 hj
  have := h2 s hs
  rw [(fi_lt (hF f hm s hs)).2] at this
  exact memI_nat.1 (by simpa using this)
 ·rintro ⟨h1, h2⟩
  refine ⟨?_, fun s hs => ?_⟩
  ·cases hq : memI o (i : Int) with
   | false => rfl
   | true => exact absurd (memI_nat.1 hq) h1
  ·rw [(fi_lt (hF f hm s hs)).2, memI_nat.2 (h2 _ (List.mem_map.2 ⟨s, hs, rfl⟩))]
   simp
theorem m52 (fs : List Fil) (h : fs.length ≤ 1048576) (hi : ∀ f ∈ fs, f.imports.length < 2147483648) (hF : AllF fs) (hD : DistF fs) : ∃ o, M_link_chosen fs = some (intsN o) ∧ Cho fs o ∧ (o.length = fs.length ∨ ∀ x, x < fs.length → x ∉ o → ∃ j ∈ dpx fs x, j ∉ o) := by
 have q : ∃ r : List Int ⊕ List Int, loopM (B52_1 fs) big [] = some r ∧ ∃ o, (r = .inl (intsN o) ∨ r = .inr (intsN o)) ∧ Cho fs o ∧ (o.length = fs.length ∨ ∀ x, x < fs.length → x ∉ o → ∃ j ∈ dpx fs x, j ∉ o) := by
  refine loop_inv (fun m v => ∃ o, v = intsN o ∧ Cho fs o ∧ fs.length ≤ m + o.length) (fun r : List Int ⊕ List Int => ∃ o, (r = .inl (intsN o) ∨ r = .inr (intsN o)) ∧ Cho fs o ∧ (o.length = fs.length ∨ ∀ x, x < fs.length → x ∉ o → ∃ j ∈ dpx fs x, j ∉ o)) ?_ big fs.length [] (big_gt (by omega)) ⟨[], rfl, ⟨fun x hx => (by cases hx), List.nodup_nil, fun k x hx => (by simp at hx)⟩, by simp⟩
  rintro m v ⟨o, rfl, hC, hm⟩
  have hol := cho_len hC
  have e0 : (intsN o).length = o.length := by simp [intsN]
  by_cases hlt : o.length < fs.length
  ·have g1 := m85 fs (fun z => M_link_chosen_1v0 z (intsN o) fs) (rdF fs o) (fun f hf => m87v0 fs o f h (by omega) (hi f hf)) (by omega)
   by_cases hn : (ixP fs (rdF fs o)) < 0
   ·refine ⟨.rt (intsN o), by simp only [B52_1, T52_1, T52_2, T52_3, T52_4, al, frt, stp, br, ix, ixi, vz, vy, vw, vs, vg, v2, lr, lrt, ln, lxe, lc, lf, lfe, ap, aq, a0, a1, ad, cl, cs, cf, wa, wi, ir, ca, cp, dd, mv, st, ss, sL, Bd.c, Bd.vl, e0, hlt, g1, hn, Option.bind_some, Int.ofNat_lt, decide_true, if_true], o, .inr rfl, hC, .inr fun x hx hxo => ?_⟩
    apply Classical.byContradiction
    intro hne
    have hr : rdF fs o fs[x] = true := (rdF_at hF hD (List.getElem?_eq_getElem hx)).2 ⟨hxo, fun j hj => Classical.byContradiction fun hjo => hne ⟨j, hj, hjo⟩⟩
    have := ixP_ge (l := fs) (p := rdF fs o)
    rw [List.any_eq_true.2 ⟨fs[x], List.getElem_mem hx, hr⟩] at this
    have := of_decide_eq_true this
    omega
   ·obtain ⟨i, f, e1, e2, e3, _⟩ := ixP_at (l := fs) (p := rdF fs o) (by omega)
    obtain ⟨r1, r2⟩ := (rdF_at hF hD e2).1 e3
    have hil := (List.getElem?_eq_some_iff.1 e2).1
    rw [e1] at g1 hn
    have g3 : o.length < 549755813887 := by omega
    refine ⟨.nx (intsN o ++ [(i : Int)]), by simp only [B52_1, T52_1, T52_2, T52_3, T52_4, al, frt, stp, br, ix, ixi, vz, vy, vw, vs, vg, v2, lr, lrt, ln, lxe, lc, lf, lfe, ap, aq, a0, a1, ad, cl, cs, cf, wa, wi, ir, ca, cp, dd, mv, st, ss, sL, Bd.c, Bd.vl, e0, hlt, g1, hn, g3, Option.bind_some, Int.ofNat_lt, decide_true, decide_false, if_true, Bool.false_eq_true, if_false], m - 1, by omega, o ++ [i], by simp [intsN], ⟨fun x hx => ?_, ?_, fun k x hx j hj => ?_⟩, by simp; omega⟩
    ·rcases List.mem_append.1 hx with hx | hx
     ·exact hC.lt x hx
     ·simp at hx; omega
    ·rw [List.nodup_append]
     exact ⟨hC.nd, by simp, fun a ha b hb => by simp at hb; subst hb; exact fun e => r1 (e ▸ ha)⟩
    ·have hk := (List.getElem?_eq_some_iff.1 hx).1
     rw [List.length_append, List.length_singleton] at hk
     rcases Nat.lt_or_ge k o.length with hk2 | hk2
     ·rw [List.getElem?_append_left hk2] at hx
      rw [List.take_append_of_le_length (by omega)]
      exact hC.dep k x hx j hj
     ·have : k = o.length := by omega
      subst this
      rw [List.getElem?_append_right (Nat.le_refl _), Nat.sub_self] at hx
      simp at hx
      subst hx
      rw [List.take_append_of_le_length (Nat.le_refl _), List.take_length]
      exact r2 j hj
  ·refine ⟨.ex (intsN o), by simp [B52_1, T52_1, T52_2, T52_3, T52_4, al, frt, stp, br, ix, ixi, vz, vy, vw, vs, vg, v2, lr, lrt, ln, lxe, lc, lf, lfe, ap, aq, a0, a1, ad, cl, cs, cf, wa, wi, ir, ca, cp, dd, mv, st, ss, sL, Bd.c, Bd.vl, e0, hlt], o, .inl rfl, hC, .inl (by omega)⟩
 obtain ⟨r, q1, o, q2, q3, q4⟩ := q
 refine ⟨o, ?_, q3, q4⟩
 unfold M_link_chosen
 simp only [T52_1, T52_2, T52_3, T52_4, al, frt, stp, br, ix, ixi, vz, vy, vw, vs, vg, v2, lr, lrt, ln, lxe, lc, lf, lfe, ap, aq, a0, a1, ad, cl, cs, cf, wa, wi, ir, ca, cp, dd, mv, st, ss, sL, Bd.c, Bd.vl, q1, Option.bind_some]
 rcases q2 with rfl | rfl <;> rfl
theorem cho_idx {fs : List Fil} {o : List Nat} (h : Cho fs o) {a j : Nat} (hr : Rch fs a j) : ∀ k : Nat, o[k]? = some a → ∃ m : Nat, m < k ∧ o[m]? = some j := by
 induction hr with
 | one hj =>
  intro k hk
  have := h.dep k _ hk _ hj
  obtain ⟨m, hm⟩ := List.mem_iff_getElem?.1 this
  have hml := (List.getElem?_eq_some_iff.1 hm).1
  rw [List.length_take] at hml
  rw [List.getElem?_take_of_lt (by omega)] at hm
  exact ⟨m, by omega, hm⟩
 | step _ hj ih =>
  intro k hk
  obtain ⟨m, hm, hx⟩ := ih k hk
  have := h.dep m _ hx _ hj
  obtain ⟨m2, hm2⟩ := List.mem_iff_getElem?.1 this
  have hml := (List.getElem?_eq_some_iff.1 hm2).1
  rw [List.length_take] at hml
  rw [List.getElem?_take_of_lt (by omega)] at hm2
  exact ⟨m2, by omega, hm2⟩
theorem cho_nocycle {fs : List Fil} {o : List Nat} (h : Cho fs o) {a : Nat} (ha : a ∈ o) : ¬ Rch fs a a := fun hr => by
 obtain ⟨k, hk⟩ := List.mem_iff_getElem?.1 ha
 obtain ⟨m, hm, hx⟩ := cho_idx h hr k hk
 obtain ⟨h1, e1⟩ := List.getElem?_eq_some_iff.1 hk
 obtain ⟨h2, e2⟩ := List.getElem?_eq_some_iff.1 hx
 exact (List.pairwise_iff_getElem.1 h.nd) m k h2 h1 hm (by rw [e1, e2])
theorem cho_cycle {fs : List Fil} (hF : AllF fs) {o : List Nat} (h : ∀ x, x < fs.length → x ∉ o → ∃ j ∈ dpx fs x, j ∉ o) {x : Nat} (hx : x < fs.length) (hxo : x ∉ o) : ∃ a, a < fs.length ∧ Rch fs a a := by
 let T := { y : Nat // y < fs.length ∧ y ∉ o }
 have hn : ∀ y : T, ∃ z : T, z.1 ∈ dpx fs y.1 := fun y => by
  obtain ⟨j, hj, hjo⟩ := h y.1 y.2.1 y.2.2
  exact ⟨⟨j, (dpx_lt hF hj).2, hjo⟩, hj⟩
 let nx : T → T := fun y => Classical.choose (hn y)
 have hnx : ∀ y : T, (nx y).1 ∈ dpx fs y.1 := fun y => Classical.choose_spec (hn y)
 let s : Nat → T := fun n => Nat.rec ⟨x, hx, hxo⟩ (fun _ y => nx y) n
 have hs : ∀ n, (s (n + 1)).1 ∈ dpx fs (s n).1 := fun n => hnx (s n)
 have hr : ∀ a d, Rch fs (s a).1 (s (a + d + 1)).1 := fun a d => by
  induction d with
  | zero => exact .one (hs a)
  | succ d ih => exact .step ih (hs (a + d + 1))
 obtain ⟨a, b, hab, _, he⟩ := pig3 fs.length (fun n => (s n).1) (fun n => (s n).2.1)
 obtain ⟨d, rfl⟩ : ∃ d, b = a + d + 1 := ⟨b - a - 1, by omega⟩
 exact ⟨(s a).1, (s a).2.1, by have := hr a d; rw [← he] at this; exact this⟩
end Go.Proofs.Ythagpbkmakocjaa
namespace Go.Proofs.Ythagpbkmakocjaa
set_option linter.all false
open Go Go.Eng
def cyc (fs : List Fil) : Option ByteArray := firstR (fun p (f : Fil) => if (impP fs p.length).getD p.length false = true then some f.name else none) [] fs
def ordS (fs : List Fil) : ByteArray × Int :=
 if fs.length < 1 ∨ 16 < fs.length then (⟨#[]⟩, 3) else match chk1 fs with
  | some s => (s, 9)
  | none => match chk2 fs with
   | some s => (s, 10)
   | none => match cyc fs with
    | some s => (s, 19)
    | none => (⟨#[]⟩, 0)
theorem m53' (fs : List Fil) (h : fs.length ≤ 1048576) (hi : ∀ f ∈ fs, f.imports.length < 2147483648) (hF : AllF fs) (a : Nat) (ha : a < fs.length) : M_link_reaches fs (a : Int) = some ((impP fs a).getD a false) := by
 obtain ⟨b, h1, h2⟩ := m53 fs h hi hF a ha
 rw [h1]
 congr 1
 rw [Bool.eq_iff_iff, h2, imp_rch hF ha]
theorem m22_4 (fs : List Fil) (h : fs.length ≤ 1048576) (hi : ∀ f ∈ fs, f.imports.length < 2147483648) (hF : AllF fs) : loopM (B22_4 fs) big 0 = some ((cyc fs).elim (.inl ()) fun s => .inr ([], s, 19)) := by
 have := loop_pre (B := B22_4 fs) (N := big) fs (fun _ => ()) (fun p (f : Fil) => if (impP fs p.length).getD p.length false = true then some (([], f.name, 19) : List Int × ByteArray × Int) else none) (fun i _ => i) (fun _ => ()) (hN := big_gt (by omega)) (he := by simp [B22_4, T22_1, T22_2, T22_3, T22_4, T22_5, T22_6, T22_7, T22_8, T22_9, T22_10, T22_11, T22_12, al, frt, stp, br, ix, ixi, vz, vy, vw, vs, vg, v2, lr, lrt, ln, lxe, lc, lf, lfe, ap, aq, a0, a1, ad, cl, cs, cf, wa, wi, ir, ca, cp, dd, mv, st, ss, sL, Bd.c, Bd.vl]) (hs := by
  intro i f hf
  have g1 := (List.getElem?_eq_some_iff.1 hf).1
  have g2 : i + 1 < 9223372036854775808 := by omega
  have g3 := m53' fs h hi hF i g1
  have g4 : (fs.take i).length = i := by rw [List.length_take]; omega
  simp only [B22_4, T22_1, T22_2, T22_3, T22_4, T22_5, T22_6, T22_7, T22_8, T22_9, T22_10, T22_11, T22_12, al, frt, stp, br, ix, ixi, vz, vy, vw, vs, vg, v2, lr, lrt, ln, lxe, lc, lf, lfe, ap, aq, a0, a1, ad, cl, cs, cf, wa, wi, ir, ca, cp, dd, mv, st, ss, sL, Bd.c, Bd.vl, g1, g2, g3, g4, hf, Option.bind_some, Int.ofNat_lt, decide_true, if_true]
  cases (impP fs i).getD i false <;> rfl)
 rw [this]
 unfold cyc
 rw [firstR_mapR (g := fun s => (([], s, 19) : List Int × ByteArray × Int)) (R := fun p (f : Fil) => if (impP fs p.length).getD p.length false = true then some f.name else none) (fun p x => by split <;> rfl)]
 cases firstR (fun p (f : Fil) => if (impP fs p.length).getD p.length false = true then some f.name else none) [] fs <;> rfl
theorem firstR_isSome {α ρ : Type} {R : List α → α → Option ρ} : ∀ {l p : List α} {i : Nat} {x : α}, l[i]? = some x → R (p ++ l.take i) x ≠ none → ∃ r, firstR R p l = some r
 | [], p, i, x, hx, _ => by simp at hx
 | y :: l, p, i, x, hx, h => by
  rw [firstR]
  cases hr : R p y with
  | some r => exact ⟨r, rfl⟩
  | none =>
   cases i with
   | zero =>
    simp only [List.getElem?_cons_zero, Option.some.injEq] at hx
    subst hx
    exact absurd hr (by simpa using h)
   | succ i => exact firstR_isSome (l := l) (p := p ++ [y]) (i := i) (x := x) (by simpa using hx) (by simpa using h)
theorem cyc_some {fs : List Fil} (hF : AllF fs) {a : Nat} (ha : a < fs.length) (hr : Rch fs a a) : ∃ s, cyc fs = some s :=
 firstR_isSome (List.getElem?_eq_getElem ha) (by
  have e : (fs.take a).length = a := by rw [List.length_take]; omega
  simp only [List.nil_append, e]
  rw [if_pos ((imp_rch hF ha a).2 hr)]
  simp)
theorem cyc_none {fs : List Fil} (hF : AllF fs) (h : ∀ a, a < fs.length → ¬ Rch fs a a) : cyc fs = none := by
 cases hc : cyc fs with
 | none => rfl
 | some s =>
  exfalso
  unfold cyc at hc
  have key : ∀ (l p : List Fil), p ++ l = fs → firstR (fun p (f : Fil) => if (impP fs p.length).getD p.length false = true then some f.name else none) p l = some s → False := fun l => by
   induction l with
   | nil => intro p _ h; cases h
   | cons x l ih =>
    intro p hp hq
    rw [firstR] at hq
    have hlt : p.length < fs.length := by rw [← hp]; simp
    have hno : ¬ (impP fs p.length).getD p.length false = true := fun q => h _ hlt ((imp_rch hF hlt _).1 q)
    rw [if_neg hno] at hq
    exact ih (p ++ [x]) (by simpa using hp) hq
  exact key fs [] rfl hc
theorem m22 (fs : List Fil) (hi : ∀ f ∈ fs, f.imports.length < 2147483648) (h : fs.length ≤ 1048576) : ∃ l, M_link_order fs = some (l, ordS fs) := by
 unfold M_link_order ordS
 by_cases hn : fs.length < 1 ∨ 16 < fs.length
 ·have g : (decide ((fs.length : Int) < (1 : Int)) || decide ((16 : Int) < (fs.length : Int))) = true := by simp; omega
  simp only [T22_1, T22_2, T22_3, T22_4, T22_5, T22_6, T22_7, T22_8, T22_9, T22_10, T22_11, T22_12, al, frt, stp, br, ix, ixi, vz, vy, vw, vs, vg, v2, lr, lrt, ln, lxe, lc, lf, lfe, ap, aq, a0, a1, ad, cl, cs, cf, wa, wi, ir, ca, cp, dd, mv, st, ss, sL, Bd.c, Bd.vl, g, if_true, hn]
  exact ⟨[], rfl⟩
 ·have g : (decide ((fs.length : Int) < (1 : Int)) || decide ((16 : Int) < (fs.length : Int))) = false := by simp; omega
  simp only [T22_1, T22_2, T22_3, T22_4, T22_5, T22_6, T22_7, T22_8, T22_9, T22_10, T22_11, T22_12, al, frt, stp, br, ix, ixi, vz, vy, vw, vs, vg, v2, lr, lrt, ln, lxe, lc, lf, lfe, ap, aq, a0, a1, ad, cl, cs, cf, wa, wi, ir, ca, cp, dd, mv, st, ss, sL, Bd.c, Bd.vl, g, Bool.false_eq_true, if_false, hn, m22_1 fs h, Option.bind_some]
  cases h1 : chk1 fs with
  | some s => exact ⟨[], rfl⟩
  | none =>
   simp only [Option.elim, Sum.elim_inl, m22_2 fs h hi, Option.bind_some]
   cases h2 : chk2 fs with
   | some s => exact ⟨[], rfl⟩
   | none =>
    have hF : AllF fs := chk2_none h2
    have hD := dist_chk h1
    obtain ⟨o, o1, o2, o3⟩ := m52 fs h hi hF hD
    simp only [Option.elim, Sum.elim_inl, Option.bind_some, o1]
    have e0 : (intsN o).length = o.length := by simp [intsN]
    by_cases hl : o.length = fs.length
    ·have hall : ∀ a, a < fs.length → a ∈ o := fun a ha => by
      apply Classical.byContradiction
      intro hao
      have := pig1 fs.length (a :: o) (List.nodup_cons.2 ⟨hao, o2.nd⟩) (fun x hx => by rcases List.mem_cons.1 hx with rfl | hx; exact ha; exact o2.lt x hx)
      simp at this
      omega
     rw [cyc_none hF fun a ha => cho_nocycle o2 (hall a ha)]
     refine ⟨intsN o, ?_⟩
     simp [e0, hl]
    ·obtain ⟨x, hx, hxo⟩ : ∃ x, x < fs.length ∧ x ∉ o := by
      apply Classical.byContradiction
      intro hne
      have := pig2 fs.length o (fun i hi' => Classical.byContradiction fun hio => hne ⟨i, hi', hio⟩)
      have := cho_len o2
      omega
     obtain ⟨a, ha, hr⟩ := cho_cycle hF (o3.resolve_left hl) hx hxo
     obtain ⟨s, hs⟩ := cyc_some hF ha hr
     refine ⟨[], ?_⟩
     have e9 : ¬ (o.length : Int) = (fs.length : Int) := by omega
     simp [e0, e9, hl, m22_4 fs h hi hF, hs]
end Go.Proofs.Ythagpbkmakocjaa
namespace Go.Proofs.Ythagpbkmakocjaa
set_option linter.all false
open Go Go.Eng
theorem ordS_zero {fs : List Fil} (h : (ordS fs).2 = 0) : AllF fs := by
 unfold ordS at h
 split at h
 ·exact absurd h (by decide)
 ·split at h
  ·exact absurd h (by decide : ¬ (9 : Int) = 0)
  ·split at h
   ·exact absurd h (by decide : ¬ (10 : Int) = 0)
   ·rename_i h2; exact chk2_none h2
def dup0 (fs : List Fil) : Option ByteArray := firstR (dupR fun x => x) [] (namesAll fs)
theorem dup_map {ρ : Type} (n : ByteArray → ρ) (fs : List Fil) : firstR (dupR n) [] (namesAll fs) = (dup0 fs).map n :=
 firstR_mapR (fun p x => by unfold dupR; split <;> rfl) _ _
theorem base0 {fs : List Fil} (hA : SzA fs) (hG : ∀ f ∈ fs, SzG f) (hF : AllF fs) (hd : dup0 fs = none) : Base0 fs := by
 have hn := (dup_none hd).1
 exact ⟨hA, hG, hF, uniq_d hn, uniq_u hn⟩
def bigS (fs : List Fil) : Prop := 64 < sum1 fs ∨ 64 < sum2 fs ∨ 64 < sum3 fs
instance (fs : List Fil) : Decidable (bigS fs) := by unfold bigS; infer_instance
def linkE (fs : List Fil) : ByteArray × Int :=
 if (ordS fs).2 ≠ 0 then ordS fs else if bigS fs then (⟨#[]⟩, 3) else match dup0 fs with
  | some x => (x, 9)
  | none => match fs.findSome? (errF fs) with
   | some r => r
   | none => (⟨#[]⟩, 0)
theorem len_msgsF (fs l : List Fil) : (l.flatMap (msgsF fs)).length = sum1 l := len_fm _ _ (fun f => by simp [msgsF]) l
theorem len_svcsF (fs l : List Fil) : (l.flatMap (svcsF fs)).length = sum3 l := len_fm _ _ (fun f => by simp [svcsF]) l
theorem len_enmsF (l : List Fil) : (enmsAll l).length = sum2 l := len_fm enmsF _ (fun f => by simp [enmsF]) l
theorem cnt_eq (fs : List Fil) : cntOf fs = (if bigS fs then (⟨#[]⟩, 3) else match dup0 fs with | some x => (x, 9) | none => (⟨#[]⟩, 0) : ByteArray × Int) := by
 unfold cntOf bigS
 rw [dup_map]
 cases dup0 fs <;> rfl
end Go.Proofs.Ythagpbkmakocjaa
namespace Go.Proofs.Ythagpbkmakocjaa
set_option linter.all false
open Go Go.Eng
def gtB (a b : ByteArray) : Bool := !(sLt a b || decide (a = b))
end Go.Proofs.Ythagpbkmakocjaa
