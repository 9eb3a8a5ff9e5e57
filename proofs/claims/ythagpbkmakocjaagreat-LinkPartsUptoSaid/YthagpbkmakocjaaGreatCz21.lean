import Derived.Test.YthagpbkmakocjaaGreatCz20
import Derived.Test.YthagpbkmakocjaaGreatCz00
namespace Go.Proofs.YthagpbkmakocjaaGreat
set_option linter.all false
open Go Go.Eng
def Zbl (l : List Nat) : List Int := l.map fun i : Nat => (i : Int)
def rg1 (fs : List Fil) (a : Nat) (b : List Nat × List Bool) (s : ByteArray) : (List Nat × List Bool) ⊕ Bool :=
 if fi fs s = a then .inr true else if b.2.getD (fi fs s) false = true then .inl b else .inl (b.1 ++ [fi fs s], b.2.set (fi fs s) true)
theorem ZNl (fs : List Fil) (h : fs.length ≤ 1048576) (a : Nat) (f : Fil) (hl : f.imports.length < 2147483648) (hF : Zh3 fs f) (td : List Nat) (r : List Bool) (hr : r.length = fs.length) (ht : td.length ≤ 1048577) :
  Zaa (Zln fs (a : Int) f) big (Zbl td, 0, r) = some (Sum.map (fun b => (b.2, Zbl b.1)) id (Ze0 (rg1 fs a) (td, r) f.imports)) := by
 exact ZjA (B := Zln fs (a : Int) f) (N := big) f.imports (fun i b => (Zbl b.1, i, b.2)) (fun i b => b.2.length = fs.length ∧ b.1.length ≤ 1048577 + i) (rg1 fs a) (fun b => (b.2, Zbl b.1)) (he := by intro b _; simp [Zln, ZDx, br]) (b0 := (td, r)) (h0 := ⟨hr, ht⟩) (hN := Zag (by omega)) (hs := by
  intro i b s hs hI
  obtain ⟨I1, I2⟩ := hI
  have g1 := (Ya.1 hs).1
  have g2 : i + 1 < 9223372036854775808 := by omega
  obtain ⟨k1, k2⟩ := ZpN (hF s (Ye hs))
  have g3 := m51 fs s (by omega)
  rw [k2] at g3
  have g5 : (0 : Int) ≤ (fi fs s : Int) := by omega
  have g6 : fi fs s < b.2.length := by omega
  have g7 : b.2[fi fs s]? = some (b.2.getD (fi fs s) false) := by rw [Yj, Yc g6]; rfl
  have g8 : (Zbl b.1).length < 549755813887 := by unfold Zbl; rw [Yk]; omega
  constructor
  ·simp only [Zln, ZDx, br, g1, g2, g3, g5, g6, g7, g8, hs, Option.bind_some, Y7, decide_true, if_true, Yac, true_and, and_self, YaC, Int.natCast_inj, decide_eq_true_eq]
   unfold rg1
   by_cases hc : fi fs s = a
   ·simp only [hc, if_true]; rfl
   ·simp only [hc, if_false]
    cases b.2.getD (fi fs s) false with
    | true => rfl
    | false =>
     simp only [YK, if_true, Yf, if_false]
     show _ = some (Lv.nx (Zbl (b.1 ++ [fi fs s]), i + 1, b.2.set (fi fs s) true))
     unfold Zbl
     rw [YE]
     rfl
  ·intro b' hb'
   unfold rg1 at hb'
   split at hb'
   ·cases hb'
   ·split at hb'
    ·cases hb'; exact ⟨I1, by omega⟩
    ·cases hb'
     exact ⟨by rw [YaC]; exact I1, by show (b.1 ++ [fi fs s]).length ≤ _; rw [Yi, YaO]; omega⟩)
theorem ZCV {n k : Nat} {r : List Bool} (hk : k < n) (hr : r.length = n) (h : r.getD k false = false) : ZoH n r + 1 ≤ ZoH n (r.set k true) :=
 Zg7 (fun x _ hx => (ZfD (by omega)).2 (.inl hx)) ⟨k, Yas.2 hk, (ZfD (by omega)).2 (.inr rfl), h⟩
def RgL (fs : List Fil) (a : Nat) (l : List ByteArray) (b : List Nat × List Bool) : (List Nat × List Bool) ⊕ Bool → Prop
 | .inr v => v = true ∧ a ∈ l.map (fi fs)
 | .inl b' => a ∉ l.map (fi fs) ∧ b'.2.length = fs.length ∧ (∀ k, b'.2.getD k false = true ↔ b.2.getD k false = true ∨ k ∈ l.map (fi fs)) ∧ (∀ k ∈ b.1, k ∈ b'.1) ∧ (∀ k ∈ b'.1, k ∈ b.1 ∨ k ∈ l.map (fi fs)) ∧
  (∀ k, b'.2.getD k false = true → b.2.getD k false = false → k ∈ b'.1) ∧ b'.1.length + ZoH fs.length b.2 ≤ b.1.length + ZoH fs.length b'.2
theorem ZrF (fs : List Fil) (a : Nat) : ∀ (l : List ByteArray) (b : List Nat × List Bool), (∀ s ∈ l, fi fs s < fs.length) → b.2.length = fs.length → RgL fs a l b (Ze0 (rg1 fs a) b l)
 | [], b, _, hb => ⟨by simp, hb, by simp, fun _ h => h, fun _ h => .inl h, fun k h1 h2 => (by rw [h2] at h1; cases h1), Nat.le_refl _⟩
 | s :: l, b, hl, hb => by
  have h0 := hl s (Yt ..)
  by_cases hc : fi fs s = a
  ·have e : rg1 fs a b s = .inr true := by unfold rg1; rw [if_pos hc]
   rw [Ze0, e]
   exact ⟨rfl, by simp [hc]⟩
  ·by_cases hm : b.2.getD (fi fs s) false = true
   ·have e : rg1 fs a b s = .inl b := by unfold rg1; rw [if_neg hc, if_pos hm]
    rw [Ze0, e]
    show RgL fs a (s :: l) b (Ze0 (rg1 fs a) b l)
    have ih := ZrF fs a l b (fun t ht => hl t (Yq _ ht)) hb
    revert ih
    cases Ze0 (rg1 fs a) b l with
    | inr v => exact fun ⟨h1, h2⟩ => ⟨h1, by simp [h2]⟩
    | inl b' =>
     intro ⟨h1, h2, h3, h4, h5, h6, h7⟩
     refine ⟨?_, h2, fun k => ?_, h4, fun k hk => ?_, h6, h7⟩
     ·grind
     ·grind
     grind
   ·have e : rg1 fs a b s = .inl (b.1 ++ [fi fs s], b.2.set (fi fs s) true) := by unfold rg1; rw [if_neg hc, if_neg hm]
    rw [Ze0, e]
    show RgL fs a (s :: l) b (Ze0 (rg1 fs a) (b.1 ++ [fi fs s], b.2.set (fi fs s) true) l)
    have hm' : b.2.getD (fi fs s) false = false := by simpa using hm
    have ih := ZrF fs a l (b.1 ++ [fi fs s], b.2.set (fi fs s) true) (fun t ht => hl t (Yq _ ht)) (by rw [YaC]; exact hb)
    have hcs := ZCV h0 hb hm'
    revert ih
    cases Ze0 (rg1 fs a) (b.1 ++ [fi fs s], b.2.set (fi fs s) true) l with
    | inr v => exact fun ⟨h1, h2⟩ => ⟨h1, by simp [h2]⟩
    | inl b' =>
     intro ⟨h1, h2, h3, h4, h5, h6, h7⟩
     have hset : ∀ k, (b.2.set (fi fs s) true).getD k false = true ↔ b.2.getD k false = true ∨ k = fi fs s := fun k => ZfD (by omega)
     refine ⟨?_, h2, fun k => ?_, fun k hk => h4 k (by simp [hk]), fun k hk => ?_, fun k h8 h9 => ?_, ?_⟩
     ·grind
     ·grind
     ·grind
     ·grind
     grind
def ZQS (fs : List Fil) (a m : Nat) (v : List Int × List Bool) : Prop := ∃ td r, v = (Zbl td, r) ∧ (∀ x ∈ td, x < fs.length) ∧ r.length = fs.length ∧ (∀ k, r.getD k false = true → Rch fs a k) ∧ (∀ x ∈ td, x = a ∨ Rch fs a x) ∧
 (∀ x, (x = a ∨ r.getD x false = true) → x ∉ td → ∀ j ∈ dpx fs x, r.getD j false = true ∧ j ≠ a) ∧ td.length + fs.length ≤ m + ZoH fs.length r ∧ m ≤ fs.length + 1
theorem m53 (fs : List Fil) (h : fs.length ≤ 1048576) (hi : ∀ f ∈ fs, f.imports.length < 2147483648) (hF : Zkq fs) (a : Nat) (ha : a < fs.length) : ∃ b, Zc3 fs (a : Int) = some b ∧ (b = true ↔ Rch fs a a) := by
 have q : ∃ o : Unit ⊕ Bool, Zaa (ZpZ fs (a : Int)) big ([(a : Int)], List.replicate fs.length false) = some o ∧ (match o with | .inl _ => ¬ Rch fs a a | .inr b => b = true ∧ Rch fs a a) := by
  refine ZgH (ZQS fs a) (fun o : Unit ⊕ Bool => match o with | .inl _ => ¬ Rch fs a a | .inr b => b = true ∧ Rch fs a a) ?_ big (fs.length + 1) _ (Zag (by omega)) ?_
  ·rintro k v ⟨td, r, rfl, h1, h2, h3, h4, h5, h6, h7⟩
   have hcb := ZrW fs.length r
   cases td with
   | nil =>
    refine ⟨.ex (), by simp [ZpZ, ZCY, ZAq, vz, vs, Bd.vl, Zbl], fun hr => ?_⟩
    have : ∀ j, Rch fs a j → r.getD j false = true ∧ j ≠ a := fun j hj => by
     induction hj with
     | one hj => exact h5 a (.inl rfl) (by simp) _ hj
     | step _ hj ih => exact h5 _ (.inr ih.1) (by simp) _ hj
    grind
   | cons x td =>
    have hx := h1 x (Yt ..)
    have g5 : fs[x]? = some (fs.getD x Zjs) := by rw [Yj, Yc hx]; rfl
    have hm := Ye g5
    simp only [YU] at h6
    have q2 := ZNl fs h a (fs.getD x Zjs) (hi _ hm) (hF _ hm) td r h2 (by omega)
    have q3 := ZrF fs a (fs.getD x Zjs).imports (td, r) (fun s hs => (ZpN (hF _ hm s hs)).1) h2
    have g6 : (0 : Int) < ((td.length + 1 : Nat) : Int) := by omega
    have g7 : (0 : Int) ≤ (x : Int) := by omega
    have e1 : Zbl (x :: td) = (x : Int) :: Zbl td := rfl
    have e2 : (Zbl td).length = td.length := by simp [Zbl]
    have e3 : ZpZ fs (a : Int) (Zbl (x :: td), r) = (Zaa (Zln fs (a : Int) (fs.getD x Zjs)) big (Zbl td, 0, r)).bind (Sum.elim (fun x => some (.nx (x.2, x.1))) fun z => some (.rt z)) := by
     rw [e1]
     simp only [ZpZ, ZCY, ZAq, vz, vs, Bd.c, Bd.vl, g5, g7, e2, YU, YS, Option.bind_some, Yac, if_true]
     simp [e2]
    rw [e3, q2]
    revert q3
    cases Ze0 (rg1 fs a) (td, r) (fs.getD x Zjs).imports with
    | inr v =>
     rintro ⟨rfl, hv⟩
     refine ⟨.rt true, rfl, rfl, ?_⟩
     rcases h4 x (Yt ..) with rfl | hx'
     ·exact .one hv
     ·exact .step hx' hv
    | inl b' =>
     rintro ⟨c1, c2, c3, c4, c5, c6, c7⟩
     have hdp : ∀ j ∈ dpx fs x, Rch fs a j := fun j hj => by
      rcases h4 x (Yt ..) with rfl | hx'
      ·exact .one hj
      ·exact .step hx' hj
     refine ⟨.nx (Zbl b'.1, b'.2), rfl, k - 1, ?_, b'.1, b'.2, rfl, fun y hy => ?_, c2, fun j hj => ?_, fun y hy => ?_, fun y hy hn j hj => ?_, ?_, by omega⟩
     ·omega
     ·grind
     ·rcases (c3 j).1 hj with hj | hj
      ·grind
      ·exact hdp j hj
     ·rcases c5 y hy with hy | hy
      ·grind
      ·exact .inr (hdp y hy)
     ·by_cases hyx : y = x
      ·subst hyx
       exact ⟨(c3 j).2 (.inr hj), fun e => c1 (e ▸ hj)⟩
      grind
     grind
  ·have h0 : ∀ k, (List.replicate fs.length false).getD k false = false := fun k => by
    grind
   refine ⟨[a], _, rfl, fun x hx => (by simp at hx; omega), by simp, fun k hk => (by rw [h0] at hk; cases hk), fun x hx => .inl (by simpa using hx), fun x hx hn => ?_, by simp; omega, Nat.le_refl _⟩
   grind
 obtain ⟨o, q1, q2⟩ := q
 have g10 : fs.length ≤ 549755813888 := by omega
 unfold Zc3
 simp only [ZGX, ZG1, vz, lr, lf, g10, q1, Option.bind_some, if_true]
 cases o with
 | inl u => exact ⟨false, rfl, ⟨fun h => (by cases h), fun h => absurd h q2⟩⟩
 | inr b => exact ⟨b, rfl, ⟨fun _ => q2.2, fun _ => q2.1⟩⟩
end Go.Proofs.YthagpbkmakocjaaGreat
namespace Go.Proofs.YthagpbkmakocjaaGreat
set_option linter.all false
open Go Go.Eng
theorem ZLX : ∀ (n : Nat) (l : List Nat), l.Nodup → (∀ x ∈ l, x < n) → l.length ≤ n
 | 0, l, _, h => by
  cases l with
  | nil => exact Nat.le_refl _
  | cons x l => exact absurd (h x (Yt ..)) (YQ _)
 | n + 1, l, hn, h => by
  have := ZLX n (l.erase n) (hn.erase n) (fun x hx => by
   have h1 := (hn.mem_erase_iff).1 hx
   have := h x h1.2
   omega)
  have h2 := List.length_erase (a := n) (l := l)
  split at h2 <;> omega
theorem ZOo : ∀ (n : Nat) (l : List Nat), (∀ i, i < n → i ∈ l) → n ≤ l.length
 | 0, _, _ => Yaq _
 | n + 1, l, h => by
  have h1 := h n (YB n)
  have := ZOo n (l.erase n) (fun i hi => (List.mem_erase_of_ne (by omega)).2 (h i (by omega)))
  grind
theorem ZP6 (n : Nat) (s : Nat → Nat) (h : ∀ a, s a < n) : ∃ a b, a < b ∧ b ≤ n ∧ s a = s b := by
 refine Yaf fun hc => ?_
 have hnd : ((List.range (n + 1)).map s).Nodup := by
  unfold List.Nodup
  rw [Ybe]
  exact List.Pairwise.imp_of_mem (fun {a b} ha hb hab => fun e => hc ⟨a, b, hab, by have := Yas.1 hb; omega, e⟩) (List.pairwise_lt_range (n := n + 1))
 have := ZLX n _ hnd (fun x hx => by obtain ⟨a, _, rfl⟩ := Yy.1 hx; exact h a)
 grind
def Zqc (o : List Nat) (x : Int) : Bool := (Zbl o).any fun y => decide (x = y)
theorem ZgG {o : List Nat} {i : Nat} : Zqc o (i : Int) = true ↔ i ∈ o := by
 unfold Zqc Zbl
 grind
def rdF (fs : List Fil) (o : List Nat) (f : Fil) : Bool := !Zqc o (ixP fs fun y => decide (y.name = f.name)) && !(f.imports.any fun s => !Zqc o (ixP fs fun y => decide (y.name = s)))
theorem ZNw (fs : List Fil) (o : List Nat) (f : Fil) (h1 : fs.length ≤ 1048576) (h2 : o.length ≤ 1048576) (h3 : f.imports.length < 2147483648) : Zbe f (Zbl o) fs = some (rdF fs o f) := by
 have hl : (Zbl o).length < 4611686018427387904 := by unfold Zbl; rw [Yk]; omega
 have e1 : ∀ x, Za6 (Zbl o) x = some (Zqc o x) := fun x => ZMN _ x hl
 have e2 : ∀ x, Zc5 (Zbl o) x = some (Zqc o x) := fun x => m88 _ x hl
 have e2r : ∀ x, Za6 (Zbl o) x = some (Zqc o x) := e1
 have e3 : ∀ s, ZcZ s (Zbl o) fs = some (!Zqc o (ixP fs fun y => decide (y.name = s))) := fun s => by
  unfold ZcZ
  simp only [ZyO, vw, m51 fs s (by omega), e2, Option.bind_some]
 have e4 : ∀ s, ZaU s (Zbl o) fs = some (!Zqc o (ixP fs fun y => decide (y.name = s))) := fun s => by
  unfold ZaU
  simp only [Znl, vw, m51 fs s (by omega), e1, Option.bind_some]
 have e5 := m89 f.imports (fun s => ZaU s (Zbl o) fs) (fun s => !Zqc o (ixP fs fun y => decide (y.name = s))) (fun s _ => e4 s) (by omega)
 have e6 := m89 f.imports (fun s => ZcZ s (Zbl o) fs) (fun s => !Zqc o (ixP fs fun y => decide (y.name = s))) (fun s _ => e3 s) (by omega)
 unfold Zbe rdF
 simp only [ZqI, vw, m51 fs f.name (by omega), e1, e5, Option.bind_some]
 grind
def ZFr (fs : List Fil) : Prop := ∀ (i : Nat) (f : Fil), fs[i]? = some f → (ixP fs fun y => decide (y.name = f.name)) = (i : Int)
theorem Zge {α ρ : Type} {R : List α → α → Option ρ} : ∀ {l p : List α}, ZaM R p l = none → ∀ (i : Nat) (x : α), l[i]? = some x → R (p ++ l.take i) x = none
 | [], p, _, i, x, hx => by simp at hx
 | y :: l, p, h, i, x, hx => by
  rw [ZaM] at h
  cases hr : R p y with
  | some r => rw [hr] at h; cases h
  | none =>
   rw [hr] at h
   cases i with
   | zero =>
    grind
   | succ i =>
    have := Zge (l := l) (p := p ++ [y]) h i x (by simpa using hx)
    grind
theorem Zw4 {fs : List Fil} (h : ZKo fs = none) : ZFr fs := fun i f hf => by
 have h1 := Zge h i f hf
 have hlt := (Ya.1 hf).1
 simp only [Yai, Yr] at h1
 split at h1
 ·cases h1
 ·rename_i hn
  have hge : 0 ≤ ixP fs fun y => decide (y.name = f.name) := by omega
  obtain ⟨j, g, e1, e2, e3, e4⟩ := Zn0 hge
  grind
structure Cho (fs : List Fil) (o : List Nat) : Prop where
 lt : ∀ x ∈ o, x < fs.length
 nd : o.Nodup
 dep : ∀ (k x : Nat), o[k]? = some x → ∀ j ∈ dpx fs x, j ∈ o.take k
theorem Zs0 {fs : List Fil} {o : List Nat} (h : Cho fs o) : o.length ≤ fs.length := ZLX fs.length o h.nd h.lt
theorem Zzk {fs : List Fil} (hF : Zkq fs) (hD : ZFr fs) {o : List Nat} {i : Nat} {f : Fil} (hf : fs[i]? = some f) : rdF fs o f = true ↔ i ∉ o ∧ ∀ j ∈ dpx fs i, j ∈ o := by
 have e : fs.getD i Zjs = f := by rw [Yj, hf]; rfl
 have hm := Ye hf
 unfold rdF dpx
 rw [hD i f hf, e, Yd, Y3, Y3, List.any_eq_false]
 constructor
 ·rintro ⟨h1, h2⟩
  refine ⟨fun hi => (by rw [ZgG.2 hi] at h1; cases h1), fun j hj => ?_⟩
  obtain ⟨s, hs, rfl⟩ := Yy.1 hj
  have := h2 s hs
  rw [(ZpN (hF f hm s hs)).2] at this
  exact ZgG.1 (by simpa using this)
 ·rintro ⟨h1, h2⟩
  refine ⟨?_, fun s hs => ?_⟩
  ·cases hq : Zqc o (i : Int) with
   | false => rfl
   | true => exact absurd (ZgG.1 hq) h1
  ·rw [(ZpN (hF f hm s hs)).2, ZgG.2 (h2 _ (Yy.2 ⟨s, hs, rfl⟩))]
   simp
theorem m52 (fs : List Fil) (h : fs.length ≤ 1048576) (hi : ∀ f ∈ fs, f.imports.length < 2147483648) (hF : Zkq fs) (hD : ZFr fs) : ∃ o, Zd5 fs = some (Zbl o) ∧ Cho fs o ∧ (o.length = fs.length ∨ ∀ x, x < fs.length → x ∉ o → ∃ j ∈ dpx fs x, j ∉ o) := by
 have q : ∃ r : List Int ⊕ List Int, Zaa (Zpy fs) big [] = some r ∧ ∃ o, (r = .inl (Zbl o) ∨ r = .inr (Zbl o)) ∧ Cho fs o ∧ (o.length = fs.length ∨ ∀ x, x < fs.length → x ∉ o → ∃ j ∈ dpx fs x, j ∉ o) := by
  refine ZgH (fun m v => ∃ o, v = Zbl o ∧ Cho fs o ∧ fs.length ≤ m + o.length) (fun r : List Int ⊕ List Int => ∃ o, (r = .inl (Zbl o) ∨ r = .inr (Zbl o)) ∧ Cho fs o ∧ (o.length = fs.length ∨ ∀ x, x < fs.length → x ∉ o → ∃ j ∈ dpx fs x, j ∉ o)) ?_ big fs.length [] (Zag (by omega)) ⟨[], rfl, ⟨fun x hx => (by cases hx), Yb1, fun k x hx => (by simp at hx)⟩, by simp⟩
  rintro m v ⟨o, rfl, hC, hm⟩
  have hol := Zs0 hC
  have e0 : (Zbl o).length = o.length := by simp [Zbl]
  by_cases hlt : o.length < fs.length
  ·have g1 := m85 fs (fun z => Zbe z (Zbl o) fs) (rdF fs o) (fun f hf => ZNw fs o f h (by omega) (hi f hf)) (by omega)
   by_cases hn : (ixP fs (rdF fs o)) < 0
   ·refine ⟨.rt (Zbl o), by simp only [Zpy, Zxq, vw, e0, hlt, g1, hn, Option.bind_some, Y7, decide_true, if_true], o, .inr rfl, hC, .inr fun x hx hxo => ?_⟩
    apply Yaf
    intro hne
    have hr : rdF fs o fs[x] = true := (Zzk hF hD (Yc hx)).2 ⟨hxo, fun j hj => Yaf fun hjo => hne ⟨j, hj, hjo⟩⟩
    have := Zh5 (l := fs) (p := rdF fs o)
    grind
   ·obtain ⟨i, f, e1, e2, e3, _⟩ := Zn0 (l := fs) (p := rdF fs o) (by omega)
    obtain ⟨r1, r2⟩ := (Zzk hF hD e2).1 e3
    have hil := (Ya.1 e2).1
    rw [e1] at g1 hn
    have g3 : o.length < 549755813887 := by omega
    refine ⟨.nx (Zbl o ++ [(i : Int)]), by simp only [Zpy, Zxq, vw, e0, hlt, g1, hn, g3, Option.bind_some, Y7, decide_true, decide_false, if_true, Yf, if_false], m - 1, by omega, o ++ [i], by simp [Zbl], ⟨fun x hx => ?_, ?_, fun k x hx j hj => ?_⟩, by simp; omega⟩
    ·rcases YaB.1 hx with hx | hx
     ·exact hC.lt x hx
     grind
    ·rw [YaS]
     exact ⟨hC.nd, by simp, fun a ha b hb => by simp at hb; subst hb; exact fun e => r1 (e ▸ ha)⟩
    ·have hk := (Ya.1 hx).1
     rw [Yi, YaO] at hk
     rcases Yw k o.length with hk2 | hk2
     ·rw [Yn hk2] at hx
      rw [YaJ (by omega)]
      exact hC.dep k x hx j hj
     grind
  ·refine ⟨.ex (Zbl o), by simp [Zpy, Zxq, vw, e0, hlt], o, .inl rfl, hC, .inl (by omega)⟩
 obtain ⟨r, q1, o, q2, q3, q4⟩ := q
 refine ⟨o, ?_, q3, q4⟩
 unfold Zd5
 simp only [ZGp, ZKO, ZJD, vw, lc, q1, Option.bind_some]
 grind
theorem ZCa {fs : List Fil} {o : List Nat} (h : Cho fs o) {a j : Nat} (hr : Rch fs a j) : ∀ k : Nat, o[k]? = some a → ∃ m : Nat, m < k ∧ o[m]? = some j := by
 induction hr with
 | one hj =>
  intro k hk
  have := h.dep k _ hk _ hj
  obtain ⟨m, hm⟩ := Yam.1 this
  grind
 | step _ hj ih =>
  intro k hk
  obtain ⟨m, hm, hx⟩ := ih k hk
  have := h.dep m _ hx _ hj
  obtain ⟨m2, hm2⟩ := Yam.1 this
  grind
theorem Zmv {fs : List Fil} {o : List Nat} (h : Cho fs o) {a : Nat} (ha : a ∈ o) : ¬ Rch fs a a := fun hr => by
 obtain ⟨k, hk⟩ := Yam.1 ha
 obtain ⟨m, hm, hx⟩ := ZCa h hr k hk
 obtain ⟨h1, e1⟩ := Ya.1 hk
 obtain ⟨h2, e2⟩ := Ya.1 hx
 exact (Ya8.1 h.nd) m k h2 h1 hm (by rw [e1, e2])
theorem Zqm {fs : List Fil} (hF : Zkq fs) {o : List Nat} (h : ∀ x, x < fs.length → x ∉ o → ∃ j ∈ dpx fs x, j ∉ o) {x : Nat} (hx : x < fs.length) (hxo : x ∉ o) : ∃ a, a < fs.length ∧ Rch fs a a := by
 let T := { y : Nat // y < fs.length ∧ y ∉ o }
 have hn : ∀ y : T, ∃ z : T, z.1 ∈ dpx fs y.1 := fun y => by
  obtain ⟨j, hj, hjo⟩ := h y.1 y.2.1 y.2.2
  exact ⟨⟨j, (ZnO hF hj).2, hjo⟩, hj⟩
 let nx : T → T := fun y => Classical.choose (hn y)
 have hnx : ∀ y : T, (nx y).1 ∈ dpx fs y.1 := fun y => Classical.choose_spec (hn y)
 let s : Nat → T := fun n => Nat.rec ⟨x, hx, hxo⟩ (fun _ y => nx y) n
 have hs : ∀ n, (s (n + 1)).1 ∈ dpx fs (s n).1 := fun n => hnx (s n)
 have hr : ∀ a d, Rch fs (s a).1 (s (a + d + 1)).1 := fun a d => by
  induction d with
  | zero => exact .one (hs a)
  | succ d ih => exact .step ih (hs (a + d + 1))
 obtain ⟨a, b, hab, _, he⟩ := ZP6 fs.length (fun n => (s n).1) (fun n => (s n).2.1)
 obtain ⟨d, rfl⟩ : ∃ d, b = a + d + 1 := ⟨b - a - 1, by omega⟩
 exact ⟨(s a).1, (s a).2.1, by have := hr a d; rw [← he] at this; exact this⟩
def cyc (fs : List Fil) : Option ByteArray := ZaM (fun p (f : Fil) => if (ZuH fs p.length).getD p.length false = true then some f.name else none) [] fs
def ZBg (fs : List Fil) : ByteArray × Int :=
 if fs.length < 1 ∨ 16 < fs.length then (⟨#[]⟩, 3) else match ZKo fs with
  | some s => (s, 9)
  | none => match ZKk fs with
   | some s => (s, 10)
   | none => match cyc fs with
    | some s => (s, 19)
    | none => (⟨#[]⟩, 0)
theorem ZRn (fs : List Fil) (h : fs.length ≤ 1048576) (hi : ∀ f ∈ fs, f.imports.length < 2147483648) (hF : Zkq fs) (a : Nat) (ha : a < fs.length) : Zc3 fs (a : Int) = some ((ZuH fs a).getD a false) := by
 obtain ⟨b, h1, h2⟩ := m53 fs h hi hF a ha
 rw [h1]
 congr 1
 rw [YbT, h2, Zme hF ha]
theorem ZNi (fs : List Fil) (h : fs.length ≤ 1048576) (hi : ∀ f ∈ fs, f.imports.length < 2147483648) (hF : Zkq fs) : Zaa (Zpj fs) big 0 = some ((cyc fs).elim (.inl ()) fun s => .inr ([], s, 19)) := by
 have := ZbU (B := Zpj fs) (N := big) fs (fun _ => ()) (fun p (f : Fil) => if (ZuH fs p.length).getD p.length false = true then some (([], f.name, 19) : List Int × ByteArray × Int) else none) (fun i _ => i) (fun _ => ()) (hN := Zag (by omega)) (he := by simp [Zpj, ZD7, br]) (hs := by
  intro i f hf
  have g1 := (Ya.1 hf).1
  have g2 : i + 1 < 9223372036854775808 := by omega
  have g3 := ZRn fs h hi hF i g1
  have g4 : (fs.take i).length = i := by rw [Yr]; omega
  simp only [Zpj, ZD7, br, g1, g2, g3, g4, hf, Option.bind_some, Y7, decide_true, if_true]
  cases (ZuH fs i).getD i false <;> rfl)
 rw [this]
 unfold cyc
 rw [Zd6 (g := fun s => (([], s, 19) : List Int × ByteArray × Int)) (R := fun p (f : Fil) => if (ZuH fs p.length).getD p.length false = true then some f.name else none) (fun p x => by split <;> rfl)]
 cases ZaM (fun p (f : Fil) => if (ZuH fs p.length).getD p.length false = true then some f.name else none) [] fs <;> rfl
theorem ZfL {α ρ : Type} {R : List α → α → Option ρ} : ∀ {l p : List α} {i : Nat} {x : α}, l[i]? = some x → R (p ++ l.take i) x ≠ none → ∃ r, ZaM R p l = some r
 | [], p, i, x, hx, _ => by simp at hx
 | y :: l, p, i, x, hx, h => by
  rw [ZaM]
  cases hr : R p y with
  | some r => exact ⟨r, rfl⟩
  | none =>
   cases i with
   | zero =>
    grind
   | succ i => exact ZfL (l := l) (p := p ++ [y]) (i := i) (x := x) (by simpa using hx) (by simpa using h)
theorem ZxH {fs : List Fil} (hF : Zkq fs) {a : Nat} (ha : a < fs.length) (hr : Rch fs a a) : ∃ s, cyc fs = some s :=
 ZfL (Yc ha) (by
  have e : (fs.take a).length = a := by rw [Yr]; omega
  simp only [Yai, e]
  rw [if_pos ((Zme hF ha a).2 hr)]
  simp)
theorem ZvQ {fs : List Fil} (hF : Zkq fs) (h : ∀ a, a < fs.length → ¬ Rch fs a a) : cyc fs = none := by
 cases hc : cyc fs with
 | none => rfl
 | some s =>
  exfalso
  unfold cyc at hc
  have key : ∀ (l p : List Fil), p ++ l = fs → ZaM (fun p (f : Fil) => if (ZuH fs p.length).getD p.length false = true then some f.name else none) p l = some s → False := fun l => by
   induction l with
   | nil => intro p _ h; cases h
   | cons x l ih =>
    intro p hp hq
    rw [ZaM] at hq
    have hlt : p.length < fs.length := by rw [← hp]; simp
    have hno : ¬ (ZuH fs p.length).getD p.length false = true := fun q => h _ hlt ((Zme hF hlt _).1 q)
    grind
  grind
theorem m22 (fs : List Fil) (hi : ∀ f ∈ fs, f.imports.length < 2147483648) (h : fs.length ≤ 1048576) : ∃ l, ZeI fs = some (l, ZBg fs) := by
 unfold ZeI ZBg
 by_cases hn : fs.length < 1 ∨ 16 < fs.length
 ·have g : (decide ((fs.length : Int) < (1 : Int)) || decide ((16 : Int) < (fs.length : Int))) = true := by simp; omega
  simp only [ZDb, ZB8, ZA6, Ztv, Zuc, Zs3, vz, lr, lf, cl, g, if_true, hn]
  grind
 ·have g : (decide ((fs.length : Int) < (1 : Int)) || decide ((16 : Int) < (fs.length : Int))) = false := by simp; omega
  simp only [ZDb, ZB8, ZA6, Ztv, Zuc, Zs3, vz, lr, lf, cl, g, Yf, if_false, hn, ZNE fs h, Option.bind_some]
  cases h1 : ZKo fs with
  | some s => exact ⟨[], rfl⟩
  | none =>
   simp only [Option.elim, Sum.elim_inl, ZM3 fs h hi, Option.bind_some]
   cases h2 : ZKk fs with
   | some s => exact ⟨[], rfl⟩
   | none =>
    have hF : Zkq fs := Zj1 h2
    have hD := Zw4 h1
    obtain ⟨o, o1, o2, o3⟩ := m52 fs h hi hF hD
    simp only [Sum.elim_inl, Option.bind_some, o1]
    have e0 : (Zbl o).length = o.length := by simp [Zbl]
    by_cases hl : o.length = fs.length
    ·have hall : ∀ a, a < fs.length → a ∈ o := fun a ha => by
      apply Yaf
      intro hao
      have := ZLX fs.length (a :: o) (Ya7.2 ⟨hao, o2.nd⟩) (fun x hx => by rcases Yx.1 hx with rfl | hx; exact ha; exact o2.lt x hx)
      grind
     rw [ZvQ hF fun a ha => Zmv o2 (hall a ha)]
     refine ⟨Zbl o, ?_⟩
     grind
    ·obtain ⟨x, hx, hxo⟩ : ∃ x, x < fs.length ∧ x ∉ o := by
      apply Yaf
      intro hne
      have := ZOo fs.length o (fun i hi' => Yaf fun hio => hne ⟨i, hi', hio⟩)
      have := Zs0 o2
      omega
     obtain ⟨a, ha, hr⟩ := Zqm hF (o3.resolve_left hl) hx hxo
     obtain ⟨s, hs⟩ := ZxH hF ha hr
     refine ⟨[], ?_⟩
     have e9 : ¬ (o.length : Int) = (fs.length : Int) := by omega
     simp [e0, e9, ZNi fs h hi hF, hs]
theorem Zq0 {fs : List Fil} (h : (ZBg fs).2 = 0) : Zkq fs := by
 unfold ZBg at h
 split at h
 ·grind
 ·split at h
  ·grind
  ·split at h
   ·grind
   ·rename_i h2; exact Zj1 h2
def ZIx (fs : List Fil) : Option ByteArray := ZaM (Zqf fun x => x) [] (Zai fs)
theorem ZDE {ρ : Type} (n : ByteArray → ρ) (fs : List Fil) : ZaM (Zqf n) [] (Zai fs) = (ZIx fs).map n :=
 Zd6 (fun p x => by unfold Zqf; split <;> rfl) _ _
theorem ZMK {fs : List Fil} (hA : SzA fs) (hG : ∀ f ∈ fs, SzG f) (hF : Zkq fs) (hd : ZIx fs = none) : Base0 fs := by
 have hn := (ZeP hd).1
 exact ⟨hA, hG, hF, Zyw hn, ZHy hn⟩
def Zn8 (fs : List Fil) : Prop := 64 < Zlk fs ∨ 64 < ZlG fs ∨ 64 < ZlX fs
instance (fs : List Fil) : Decidable (Zn8 fs) := by unfold Zn8; infer_instance
def Zfx (fs : List Fil) : ByteArray × Int :=
 if (ZBg fs).2 ≠ 0 then ZBg fs else if Zn8 fs then (⟨#[]⟩, 3) else match ZIx fs with
  | some x => (x, 9)
  | none => match fs.findSome? (Zh0 fs) with
   | some r => r
   | none => (⟨#[]⟩, 0)
theorem Zg6 (fs l : List Fil) : (l.flatMap (Zef fs)).length = Zlk l := ZhU _ _ (fun f => by simp [Zef]) l
theorem Zg1 (fs l : List Fil) : (l.flatMap (ZdU fs)).length = ZlX l := ZhU _ _ (fun f => by simp [ZdU]) l
theorem Zfy (l : List Fil) : (ZaK l).length = ZlG l := ZhU Zmd _ (fun f => by simp [Zmd]) l
theorem ZKT (fs : List Fil) : Zvz fs = (if Zn8 fs then (⟨#[]⟩, 3) else match ZIx fs with | some x => (x, 9) | none => (⟨#[]⟩, 0) : ByteArray × Int) := by
 unfold Zvz Zn8
 rw [ZDE]
 grind
def gtB (a b : ByteArray) : Bool := !(sLt a b || decide (a = b))
end Go.Proofs.YthagpbkmakocjaaGreat
