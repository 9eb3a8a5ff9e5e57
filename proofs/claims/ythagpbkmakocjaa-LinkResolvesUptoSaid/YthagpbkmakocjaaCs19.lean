import Derived.Test.YthagpbkmakocjaaCs18
namespace Go.Proofs.Ythagpbkmakocjaa
set_option linter.all false
open Go Go.Eng
theorem sum_take {α : Type} (f : α → Nat) : ∀ (l : List α) (i : Nat), ((l.take i).map f).sum ≤ (l.map f).sum
 | [], i => by simp
 | x :: l, 0 => by simp
 | x :: l, i + 1 => by simp only [List.take_succ_cons, List.map_cons, List.sum_cons]; have := sum_take f l i; omega
theorem sum_take_at {α : Type} (f : α → Nat) {l : List α} {i : Nat} {x : α} (h : l[i]? = some x) : ((l.take i).map f).sum + f x ≤ (l.map f).sum := by
 obtain ⟨h1, rfl⟩ := List.getElem?_eq_some_iff.1 h
 have := sum_take f l (i + 1)
 rw [List.take_succ_eq_append_getElem h1, List.map_append, List.sum_append] at this
 simpa using this
theorem m47 (ls : List (List ByteArray)) (h : (ls.map List.length).sum < 549755813888) (hl : ls.length < 4611686018427387904) : M_Concat_string ls = some ls.flatten := by
 have q1 : loopM (B47_1 ls) big (0, 0) = some (.inl (ls.map List.length).sum) := loop_pre0 ls (fun p => (p.map List.length).sum) (fun i b => (b, i)) id (hN := big_gt hl) (he := by simp [B47_1, B47_2, T47_1, T47_2, T47_3, T47_4, T47_5, T47_6, T47_7, T47_8, al, frt, stp, br, ix, ixi, vz, vy, vw, vs, vg, v2, lr, lrt, ln, lxe, lc, lf, lfe, ap, aq, a0, a1, ad, cl, cs, cf, wa, wi, ir, ca, cp, dd, mv, st, ss, sL, Bd.c, Bd.vl]) (hs := by
  intro i x hx
  have h3 := sum_take_at List.length hx
  obtain ⟨h1, rfl⟩ := List.getElem?_eq_some_iff.1 hx
  have h2 : i + 1 < 9223372036854775808 := by omega
  have h4 : ((ls.take i).map List.length).sum + (ls[i]).length < 9223372036854775808 := by omega
  have h5 : ¬ (((ls.take i).map List.length).sum : Int) + ((ls[i]).length : Int) < 0 := by omega
  simp only [List.map_append, List.sum_append, List.map_cons, List.map_nil, List.sum_cons, List.sum_nil, Nat.add_zero]
  simp [B47_1, B47_2, T47_1, T47_2, T47_3, T47_4, T47_5, T47_6, T47_7, T47_8, al, frt, stp, br, ix, ixi, vz, vy, vw, vs, vg, v2, lr, lrt, ln, lxe, lc, lf, lfe, ap, aq, a0, a1, ad, cl, cs, cf, wa, wi, ir, ca, cp, dd, mv, st, ss, sL, Bd.c, Bd.vl, h1, h2, h4, h5, -List.map_take])
 have q2 : loopM (B47_2 ls) big ([], 0) = some (.inl ls.flatten) := loop_pre0 ls (fun p => p.flatten) (fun i b => (b, i)) id (hN := big_gt hl) (he := by simp [B47_1, B47_2, T47_1, T47_2, T47_3, T47_4, T47_5, T47_6, T47_7, T47_8, al, frt, stp, br, ix, ixi, vz, vy, vw, vs, vg, v2, lr, lrt, ln, lxe, lc, lf, lfe, ap, aq, a0, a1, ad, cl, cs, cf, wa, wi, ir, ca, cp, dd, mv, st, ss, sL, Bd.c, Bd.vl]) (hs := by
  intro i x hx
  have h3 := sum_take_at List.length hx
  obtain ⟨h1, rfl⟩ := List.getElem?_eq_some_iff.1 hx
  have h2 : i + 1 < 9223372036854775808 := by omega
  have h4 : (ls.take i).flatten.length + (ls[i]).length < 549755813888 := by rw [List.length_flatten]; omega
  simp only [List.flatten_append, List.flatten_cons, List.flatten_nil, List.append_nil]
  simp only [B47_1, B47_2, T47_1, T47_2, T47_3, T47_4, T47_5, T47_6, T47_7, T47_8, al, frt, stp, br, ix, ixi, vz, vy, vw, vs, vg, v2, lr, lrt, ln, lxe, lc, lf, lfe, ap, aq, a0, a1, ad, cl, cs, cf, wa, wi, ir, ca, cp, dd, mv, st, ss, sL, Bd.c, Bd.vl]
  simp [h1, h2, h4, -List.length_flatten, -List.length_append])
 unfold M_Concat_string
 simp only [T47_1, T47_2, T47_3, T47_4, T47_5, T47_6, T47_7, T47_8, al, frt, stp, br, ix, ixi, vz, vy, vw, vs, vg, v2, lr, lrt, ln, lxe, lc, lf, lfe, ap, aq, a0, a1, ad, cl, cs, cf, wa, wi, ir, ca, cp, dd, mv, st, ss, sL, Bd.c, Bd.vl, q1, q2, M_Grow_str, h, if_true, Option.bind_some, Sum.elim_inl]
def tot (f : Fil) : Nat := f.messages.length + f.enums.length + f.services.length
def namesOf (f : Fil) : List ByteArray := own1 f ++ own2 f ++ own3 f
theorem len_own1 (f : Fil) : (own1 f).length = f.messages.length := by unfold own1; rw [List.length_map]
theorem len_own2 (f : Fil) : (own2 f).length = f.enums.length := by unfold own2; rw [List.length_map]
theorem len_own3 (f : Fil) : (own3 f).length = f.services.length := by unfold own3; rw [List.length_map]
theorem len_names (f : Fil) : (namesOf f).length = tot f := by unfold namesOf tot; rw [List.length_append, List.length_append, len_own1, len_own2, len_own3]
structure SzA (fs : List Fil) : Prop where
 f : ∀ f ∈ fs, SzF f
 n : fs.length ≤ 1048576
 t : (fs.map tot).sum ≤ 1048576
 i : ∀ f ∈ fs, ∀ g ∈ fs, g.imports.length + tot f ≤ 1048576
def sum1 (l : List Fil) : Nat := (l.map fun f => f.messages.length).sum
def sum2 (l : List Fil) : Nat := (l.map fun f => f.enums.length).sum
def sum3 (l : List Fil) : Nat := (l.map fun f => f.services.length).sum
theorem sums : ∀ l : List Fil, sum1 l + sum2 l + sum3 l = (l.map tot).sum
 | [] => rfl
 | f :: l => by
  have := sums l
  simp only [sum1, sum2, sum3, tot, List.map_cons, List.sum_cons] at *
  omega
theorem sum1_snoc (l : List Fil) (x : Fil) : sum1 (l ++ [x]) = sum1 l + x.messages.length := by simp [sum1]
theorem sum2_snoc (l : List Fil) (x : Fil) : sum2 (l ++ [x]) = sum2 l + x.enums.length := by simp [sum2]
theorem sum3_snoc (l : List Fil) (x : Fil) : sum3 (l ++ [x]) = sum3 l + x.services.length := by simp [sum3]
theorem sums_take {l : List Fil} {i : Nat} {x : Fil} (h : l[i]? = some x) : sum1 (l.take i) + sum2 (l.take i) + sum3 (l.take i) + tot x ≤ (l.map tot).sum := by
 rw [sums]; exact sum_take_at tot h
theorem ixP_at {α : Type} {l : List α} {p : α → Bool} (h : 0 ≤ ixP l p) : ∃ (i : Nat) (x : α), ixP l p = (i : Int) ∧ l[i]? = some x ∧ p x = true ∧ ∀ j : Nat, j < i → ∀ y, l[j]? = some y → p y = false := by
 unfold ixP at h ⊢
 cases hf : l.findIdx? p with
 | none => rw [hf] at h; exact absurd h (by decide)
 | some i =>
  rw [List.findIdx?_eq_some_iff_getElem] at hf
  obtain ⟨h1, h2, h3⟩ := hf
  exact ⟨i, l[i], rfl, List.getElem?_eq_getElem h1, h2, fun j hj y hy => by
   obtain ⟨h4, rfl⟩ := List.getElem?_eq_some_iff.1 hy
   exact Bool.eq_false_iff.2 (h3 j hj)⟩
def dupR {ρ : Type} (n : ByteArray → ρ) (p : List ByteArray) (x : ByteArray) : Option ρ := if (p.any fun y => decide (x = y)) = true then some (n x) else none
def namesAll (fs : List Fil) : List ByteArray := fs.flatMap namesOf
theorem namesAll_snoc (l : List Fil) (x : Fil) : namesAll (l ++ [x]) = namesAll l ++ namesOf x := by simp [namesAll]
theorem len_namesAll : ∀ l : List Fil, (namesAll l).length = (l.map tot).sum
 | [] => rfl
 | f :: l => by
  have := len_namesAll l
  simp only [namesAll, List.flatMap_cons, List.length_append, len_names, List.map_cons, List.sum_cons] at *
  omega
def cntOf (fs : List Fil) : ByteArray × Int := if 64 < sum1 fs ∨ 64 < sum2 fs ∨ 64 < sum3 fs then (⟨#[]⟩, 3) else match firstR (dupR fun x => (x, (9 : Int))) [] (namesAll fs) with
 | some r => r
 | none => (⟨#[]⟩, 0)
theorem m23 (fs : List Fil) (h : SzA fs) : M_link_counts fs = some (cntOf fs) := by
 have hn := h.n
 have ht := h.t
 have q1 : loopM (B23_1 fs) big ([], 0, 0, 0, 0) = some (.inl (sum1 fs, sum2 fs, sum3 fs, namesAll fs)) := loop_pre0 fs (fun p => (namesAll p, sum1 p, sum2 p, sum3 p)) (fun i b => (b.1, b.2.1, b.2.2.1, b.2.2.2, i)) (fun b => (b.2.1, b.2.2.1, b.2.2.2, b.1)) (hN := big_gt (by omega)) (he := by simp [B23_1, B23_2, T23_1, T23_2, T23_3, T23_4, T23_5, T23_6, T23_7, T23_8, T23_9, T23_10, T23_11, T23_12, T23_13, al, frt, stp, br, ix, ixi, vz, vy, vw, vs, vg, v2, lr, lrt, ln, lxe, lc, lf, lfe, ap, aq, a0, a1, ad, cl, cs, cf, wa, wi, ir, ca, cp, dd, mv, st, ss, sL, Bd.c, Bd.vl]) (hs := by
  intro i x hx
  have h3 := sums_take hx
  have hz := h.f x (List.mem_of_getElem? hx)
  have h7 := sum_take_at tot hx
  rw [← len_namesAll] at h7
  obtain ⟨h1, rfl⟩ := List.getElem?_eq_some_iff.1 hx
  have h6 : tot (fs[i]) = (fs[i]).messages.length + (fs[i]).enums.length + (fs[i]).services.length := rfl
  have h2 : i + 1 < 9223372036854775808 := by omega
  have g1 : sum1 (fs.take i) + (own1 fs[i]).length < 9223372036854775808 := by rw [len_own1]; omega
  have g2 : sum2 (fs.take i) + (own2 fs[i]).length < 9223372036854775808 := by rw [len_own2]; omega
  have g3 : sum3 (fs.take i) + (own3 fs[i]).length < 9223372036854775808 := by rw [len_own3]; omega
  have g4 : M_Concat_string [own1 fs[i], own2 fs[i], own3 fs[i]] = some (namesOf fs[i]) := by
   rw [m47 _ (by simp only [List.map_cons, List.map_nil, List.sum_cons, List.sum_nil, len_own1, len_own2, len_own3]; omega) (by simp)]
   simp [namesOf]
  have g5 : (namesAll (fs.take i)).length + (namesOf fs[i]).length < 549755813888 := by rw [len_names]; omega
  simp only [namesAll_snoc, sum1_snoc, sum2_snoc, sum3_snoc, B23_1, B23_2, T23_1, T23_2, T23_3, T23_4, T23_5, T23_6, T23_7, T23_8, T23_9, T23_10, T23_11, T23_12, T23_13, al, frt, stp, br, ix, ixi, vz, vy, vw, vs, vg, v2, lr, lrt, ln, lxe, lc, lf, lfe, ap, aq, a0, a1, ad, cl, cs, cf, wa, wi, ir, ca, cp, dd, mv, st, ss, sL, Bd.c, Bd.vl]
  have h8 := m24 _ hz
  simp only [← len_own1, ← len_own2, ← len_own3]
  simp [h1, h2, h8, g1, g2, g3, g4, g5])
 have hl : (namesAll fs).length ≤ 1048576 := by rw [len_namesAll]; exact ht
 have q2 : loopM (B23_2 (namesAll fs)) big 0 = some ((firstR (dupR fun x => (x, (9 : Int))) [] (namesAll fs)).elim (.inl ()) .inr) := loop_pre (B := B23_2 (namesAll fs)) (namesAll fs) (fun _ => ()) (dupR fun x => (x, (9 : Int))) (fun i _ => i) id (hN := big_gt (by omega)) (he := by simp [B23_1, B23_2, T23_1, T23_2, T23_3, T23_4, T23_5, T23_6, T23_7, T23_8, T23_9, T23_10, T23_11, T23_12, T23_13, al, frt, stp, br, ix, ixi, vz, vy, vw, vs, vg, v2, lr, lrt, ln, lxe, lc, lf, lfe, ap, aq, a0, a1, ad, cl, cs, cf, wa, wi, ir, ca, cp, dd, mv, st, ss, sL, Bd.c, Bd.vl]) (hs := by
  intro i x hx
  obtain ⟨h1, rfl⟩ := List.getElem?_eq_some_iff.1 hx
  have h2 : i + 1 < 9223372036854775808 := by omega
  have h3 : i ≤ (namesAll fs).length := by omega
  have h4 := m54 ((namesAll fs).take i) (namesAll fs)[i] (by rw [List.length_take]; omega)
  simp only [B23_1, B23_2, T23_1, T23_2, T23_3, T23_4, T23_5, T23_6, T23_7, T23_8, T23_9, T23_10, T23_11, T23_12, T23_13, al, frt, stp, br, ix, ixi, vz, vy, vw, vs, vg, v2, lr, lrt, ln, lxe, lc, lf, lfe, ap, aq, a0, a1, ad, cl, cs, cf, wa, wi, ir, ca, cp, dd, mv, st, ss, sL, Bd.c, Bd.vl, dupR]
  simp only [h1, h2, h3, h4, Option.bind_some, decide_true, if_true, Int.ofNat_lt, true_and, and_self, and_true, Nat.zero_le, Nat.sub_zero, List.drop_zero, hx]
  cases ((namesAll fs).take i).any fun y => decide ((namesAll fs)[i] = y) <;> rfl)
 unfold M_link_counts
 simp only [T23_1, T23_2, T23_3, T23_4, T23_5, T23_6, T23_7, T23_8, T23_9, T23_10, T23_11, T23_12, T23_13, al, frt, stp, br, ix, ixi, vz, vy, vw, vs, vg, v2, lr, lrt, ln, lxe, lc, lf, lfe, ap, aq, a0, a1, ad, cl, cs, cf, wa, wi, ir, ca, cp, dd, mv, st, ss, sL, Bd.c, Bd.vl, q1, q2, Option.bind_some, Sum.elim_inl]
 unfold cntOf
 have hmm : (64 : Int) < mmI true (mmI true (sum1 fs : Int) (sum2 fs : Int)) (sum3 fs : Int) ↔ (64 < sum1 fs ∨ 64 < sum2 fs ∨ 64 < sum3 fs) := by
  simp only [mmI, if_true]
  omega
 simp only [decide_eq_true_eq, hmm]
 split
 ·rfl
 ·cases firstR (dupR fun x => (x, (9 : Int))) [] (namesAll fs) <;> rfl
end Go.Proofs.Ythagpbkmakocjaa
namespace Go.Proofs.Ythagpbkmakocjaa
set_option linter.all false
open Go Go.Eng
theorem sq4 (a b : Nat) : 4 * (a * b) ≤ (a + b) * (a + b) := by
 rcases Nat.le_total a b with h | h
 ·obtain ⟨d, rfl⟩ := Nat.le.dest h
  have h1 : (a + (a + d)) * (a + (a + d)) = 4 * (a * (a + d)) + d * d := by
   simp only [Nat.mul_add, Nat.add_mul, Nat.mul_comm d a]; omega
  omega
 ·obtain ⟨d, rfl⟩ := Nat.le.dest h
  have h1 : (b + d + b) * (b + d + b) = 4 * ((b + d) * b) + d * d := by
   simp only [Nat.mul_add, Nat.add_mul, Nat.mul_comm d b]; omega
  omega
theorem ab_le {a b : Nat} (h : a + b ≤ 1048576) : a * b ≤ 274877906944 := by
 have h1 := sq4 a b
 have h2 : (a + b) * (a + b) ≤ 1048576 * 1048576 := Nat.mul_le_mul h h
 omega
theorem sum_le {α : Type} (f : α → Nat) (c : Nat) : ∀ l : List α, (∀ x ∈ l, f x ≤ c) → (l.map f).sum ≤ l.length * c
 | [], _ => by simp
 | x :: l, h => by
  have h1 := sum_le f c l fun y hy => h y (List.mem_cons_of_mem _ hy)
  have h2 := h x (List.mem_cons_self ..)
  simp only [List.map_cons, List.sum_cons, List.length_cons, Nat.add_mul, Nat.one_mul]
  omega
def fileOf (fs : List Fil) (s : ByteArray) : Fil := fs.getD (ixP fs fun y => decide (y.name = s)).toNat zFil
theorem fileOf_at {fs : List Fil} {s : ByteArray} (h : 0 ≤ ixP fs fun y => decide (y.name = s)) : fs[(ixP fs fun y => decide (y.name = s)).toNat]? = some (fileOf fs s) ∧ (fileOf fs s).name = s ∧ fileOf fs s ∈ fs := by
 obtain ⟨i, x, h1, h2, h3, _⟩ := ixP_at h
 have : fileOf fs s = x := by unfold fileOf; rw [h1, List.getD_eq_getElem?_getD, Int.toNat_natCast, h2]; rfl
 rw [this, h1, Int.toNat_natCast]
 exact ⟨h2, by simpa using h3, List.mem_of_getElem? h2⟩
def visB (fs : List Fil) (f : Fil) (p : List ByteArray) : List ByteArray := namesOf f ++ p.flatMap fun s => namesOf (fileOf fs s)
theorem visB_snoc (fs : List Fil) (f : Fil) (p : List ByteArray) (s : ByteArray) : visB fs f (p ++ [s]) = visB fs f p ++ namesOf (fileOf fs s) := by simp [visB]
theorem len_flatMap {α β : Type} (f : α → List β) : ∀ l : List α, (l.flatMap f).length = (l.map fun x => (f x).length).sum
 | [] => rfl
 | x :: l => by rw [List.flatMap_cons, List.length_append, len_flatMap f l]; rfl
def FoundI (fs : List Fil) (f : Fil) : Prop := ∀ s ∈ f.imports, 0 ≤ ixP fs fun y => decide (y.name = s)
theorem visB_len {fs : List Fil} {f : Fil} (h : SzA fs) (hf : f ∈ fs) (hF : FoundI fs f) {i : Nat} : (visB fs f (f.imports.take i)).length ≤ 274878955520 := by
 unfold visB
 rw [List.length_append, len_names, len_flatMap]
 have h0 := h.i f hf f hf
 have h1 := sum_take (fun s => (namesOf (fileOf fs s)).length) f.imports i
 have h2 := sum_le (fun s => (namesOf (fileOf fs s)).length) (1048576 - f.imports.length) f.imports fun s hs => by
  have := h.i (fileOf fs s) (fileOf_at (hF s hs)).2.2 f hf
  simp only [len_names]
  omega
 have h3 := ab_le (a := f.imports.length) (b := 1048576 - f.imports.length) (by omega)
 omega
def visOf (fs : List Fil) (f : Fil) : List ByteArray := visB fs f f.imports
theorem m27 (fs : List Fil) (f : Fil) (h : SzA fs) (hf : f ∈ fs) (hF : FoundI fs f) : M_link_visible fs f = some (visOf fs f) := by
 have hn := h.n
 have hz := h.f f hf
 have hi := hz.is
 have hl : f.imports.length + tot f ≤ 1048576 := h.i f hf f hf
 have cc : ∀ g : Fil, SzF g → tot g ≤ 1048576 → M_Concat_string [own1 g, own2 g, own3 g] = some (namesOf g) := fun g hg ht => by
  have h6 : tot g = g.messages.length + g.enums.length + g.services.length := rfl
  rw [m47 _ (by simp only [List.map_cons, List.map_nil, List.sum_cons, List.sum_nil, len_own1, len_own2, len_own3]; omega) (by simp)]
  simp [namesOf]
 have q1 : loopM (B27_1 fs f) big (namesOf f, 0) = some (.inl (visOf fs f)) := by
  have := loop_pre0 (B := B27_1 fs f) (N := big) f.imports (visB fs f) (fun i b => (b, i)) id (hN := big_gt (by omega)) (he := by simp [B27_1, T27_1, T27_2, T27_3, T27_4, T27_5, T27_6, T27_7, T27_8, T27_9, T27_10, T27_11, al, frt, stp, br, ix, ixi, vz, vy, vw, vs, vg, v2, lr, lrt, ln, lxe, lc, lf, lfe, ap, aq, a0, a1, ad, cl, cs, cf, wa, wi, ir, ca, cp, dd, mv, st, ss, sL, Bd.c, Bd.vl]) (hs := by
   intro i x hx
   obtain ⟨e1, e2, e3⟩ := fileOf_at (hF x (List.mem_of_getElem? hx))
   have g0 := hF x (List.mem_of_getElem? hx)
   have g1 := visB_len h hf hF (i := i)
   have g2 := h.f _ e3
   have g3 := h.i _ e3 f hf
   have g4 := m51 fs x (by omega)
   have g5 := m24 _ g2
   have g6 : M_Concat_string [visB fs f (f.imports.take i), own1 (fileOf fs x), own2 (fileOf fs x), own3 (fileOf fs x)] = some (visB fs f (f.imports.take i ++ [x])) := by
    have h6 : tot (fileOf fs x) = (fileOf fs x).messages.length + (fileOf fs x).enums.length + (fileOf fs x).services.length := rfl
    rw [m47 _ (by simp only [List.map_cons, List.map_nil, List.sum_cons, List.sum_nil, len_own1, len_own2, len_own3]; omega) (by simp), visB_snoc]
    simp [namesOf]
   obtain ⟨h1, rfl⟩ := List.getElem?_eq_some_iff.1 hx
   have h2 : i + 1 < 9223372036854775808 := by omega
   simp only [B27_1, T27_1, T27_2, T27_3, T27_4, T27_5, T27_6, T27_7, T27_8, T27_9, T27_10, T27_11, al, frt, stp, br, ix, ixi, vz, vy, vw, vs, vg, v2, lr, lrt, ln, lxe, lc, lf, lfe, ap, aq, a0, a1, ad, cl, cs, cf, wa, wi, ir, ca, cp, dd, mv, st, ss, sL, Bd.c, Bd.vl]
   simp only [h1, h2, g0, e1, g4, g5, g6, Option.bind_some, decide_true, if_true, Int.ofNat_lt, hx])
  have e : visB fs f [] = namesOf f := by simp [visB]
  rw [e] at this
  exact this
 unfold M_link_visible
 simp only [T27_1, T27_2, T27_3, T27_4, T27_5, T27_6, T27_7, T27_8, T27_9, T27_10, T27_11, al, frt, stp, br, ix, ixi, vz, vy, vw, vs, vg, v2, lr, lrt, ln, lxe, lc, lf, lfe, ap, aq, a0, a1, ad, cl, cs, cf, wa, wi, ir, ca, cp, dd, mv, st, ss, sL, Bd.c, Bd.vl, m24 f hz, cc f hz (by omega), q1, Option.bind_some, Sum.elim_inl]
end Go.Proofs.Ythagpbkmakocjaa
namespace Go.Proofs.Ythagpbkmakocjaa
set_option linter.all false
open Go Go.Eng
def ldot (s : ByteArray) : Nat → Option Nat
 | 0 => none
 | n + 1 => if ((s.data.toList.getD n 0).toNat : Int) = 46 then some n else ldot s n
theorem ldot_lt {s : ByteArray} : ∀ {n i : Nat}, ldot s n = some i → i < n
 | 0, i, h => by cases h
 | n + 1, i, h => by
  unfold ldot at h
  split at h
  ·cases h; omega
  ·have := ldot_lt h; omega
theorem m147_L (s : ByteArray) (hs : s.size < 4611686018427387904) : ∀ (n N : Nat), n ≤ s.size → n < N → loopM (B147_1 s 46) N ((n : Int) - 1) = some (match ldot s n with | some i => .inr (i : Int) | none => .inl ())
 | 0, N, _, hN => by
  obtain ⟨N, rfl⟩ : ∃ m, N = m + 1 := ⟨N - 1, by omega⟩
  rw [loopM]
  simp only [B147_1, T147_1, T147_2, T147_3, T147_4, al, frt, stp, br, ix, ixi, vz, vy, vw, vs, vg, v2, lr, lrt, ln, lxe, lc, lf, lfe, ap, aq, a0, a1, ad, cl, cs, cf, wa, wi, ir, ca, cp, dd, mv, st, ss, sL, Bd.c, Bd.vl]
  rfl
 | n + 1, N, hn, hN => by
  obtain ⟨N, rfl⟩ : ∃ m, N = m + 1 := ⟨N - 1, by omega⟩
  have ih := m147_L s hs n N (by omega) (by omega)
  have h1 : n < s.data.toList.length := by simpa using (show n < s.size by omega)
  rw [loopM, ldot]
  have e : ((n + 1 : Nat) : Int) - 1 = (n : Int) := by omega
  have g1 : (0 : Int) ≤ (n : Int) := by omega
  have g2 : ((n : Int)).toNat = n := by omega
  have g3 : -9223372036854775808 ≤ (n : Int) - 1 ∧ (n : Int) - 1 < 9223372036854775808 := by omega
  have g4 : (n : Int) < (s.size : Int) := by omega
  have g5 : s.data.toList[n]? = some (s.data.toList.getD n 0) := by rw [List.getD_eq_getElem?_getD, List.getElem?_eq_getElem h1]; rfl
  simp only [B147_1, T147_1, T147_2, T147_3, T147_4, al, frt, stp, br, ix, ixi, vz, vy, vw, vs, vg, v2, lr, lrt, ln, lxe, lc, lf, lfe, ap, aq, a0, a1, ad, cl, cs, cf, wa, wi, ir, ca, cp, dd, mv, st, ss, sL, Bd.c, Bd.vl, ibi, e, g1, g2, g3, g4, g5, Option.bind_some, decide_true, if_true, and_self]
  by_cases hd : ((s.data.toList.getD n 0).toNat : Int) = 46
  ·simp only [hd, decide_true, if_true]
  ·simp only [hd, decide_false, Bool.false_eq_true, if_false]
   exact ih
theorem m143 (s : ByteArray) (hs : s.size < 4611686018427387904) : M_strings_LastIndexByte s 46 = some (match ldot s s.size with | some i => (i : Int) | none => -1) := by
 have g3 : -9223372036854775808 ≤ (s.size : Int) - 1 ∧ (s.size : Int) - 1 < 9223372036854775808 := by omega
 unfold M_strings_LastIndexByte
 simp only [T143_1, al, frt, stp, br, ix, ixi, vz, vy, vw, vs, vg, v2, lr, lrt, ln, lxe, lc, lf, lfe, ap, aq, a0, a1, ad, cl, cs, cf, wa, wi, ir, ca, cp, dd, mv, st, ss, sL, Bd.c, Bd.vl, M_bytealg_LastIndexByteString, T147_1, T147_2, T147_3, T147_4, g3, and_self, if_true, m147_L s hs s.size big (Nat.le_refl _) (big_gt hs), Option.bind_some]
 cases ldot s s.size <;> rfl
def splitB (s : ByteArray) : ByteArray × ByteArray := match ldot s s.size with
 | some i => (s.extract 0 i, s.extract (i + 1) s.size)
 | none => (⟨#[]⟩, s)
theorem m136 (s : ByteArray) (hs : s.size < 4611686018427387904) : M_ident_Split s = some (splitB s) := by
 unfold M_ident_Split splitB
 simp only [T136_1, al, frt, stp, br, ix, ixi, vz, vy, vw, vs, vg, v2, lr, lrt, ln, lxe, lc, lf, lfe, ap, aq, a0, a1, ad, cl, cs, cf, wa, wi, ir, ca, cp, dd, mv, st, ss, sL, Bd.c, Bd.vl, m143 s hs, Option.bind_some]
 cases h : ldot s s.size with
 | none => rfl
 | some i =>
  have h1 := ldot_lt h
  have g1 : ¬ (i : Int) < 0 := by omega
  have g2 : (0 : Int) ≤ i := by omega
  have g3 : -9223372036854775808 ≤ (i : Int) + 1 ∧ (i : Int) + 1 < 9223372036854775808 := by omega
  have g4 : (0 : Int) ≤ (i : Int) + 1 := by omega
  have g5 : i ≤ s.size := by omega
  have g6 : ((i : Int) + 1).toNat = i + 1 := by omega
  have g7 : i + 1 ≤ s.size := by omega
  simp [ss, g1, g2, g3, g4, g5, g6, g7]
theorem split_size {s : ByteArray} (h : s ≠ ⟨#[]⟩) : (splitB s).1.size < s.size := by
 have h0 : s.size ≠ 0 := fun e => h (by
  obtain ⟨d⟩ := s
  have : d = #[] := Array.eq_empty_of_size_eq_zero e
  rw [this])
 unfold splitB
 cases hl : ldot s s.size with
 | none => exact Nat.pos_of_ne_zero h0
 | some i =>
  have := ldot_lt hl
  simp only [ByteArray.size_extract]
  omega
def upF : Nat → ByteArray → List ByteArray
 | 0, _ => []
 | n + 1, s => if s = ⟨#[]⟩ then [] else (splitB s).1 :: upF n (splitB s).1
theorem upF_size : ∀ (n : Nat) (s : ByteArray), ∀ x ∈ upF n s, x.size ≤ s.size
 | 0, s, x, h => by cases h
 | n + 1, s, x, h => by
  unfold upF at h
  split at h
  ·cases h
  ·rename_i hs
   have := split_size hs
   rcases List.mem_cons.1 h with rfl | h
   ·omega
   ·have := upF_size n _ x h; omega
theorem upF_len : ∀ (n : Nat) (s : ByteArray), (upF n s).length ≤ n
 | 0, s => Nat.le_refl _
 | n + 1, s => by
  unfold upF
  split
  ·simp
  ·have := upF_len n (splitB s).1
   simp only [List.length_cons]
   omega
def upB (s : ByteArray) : List ByteArray := s :: upF (s.size + 1) s
theorem upB_size {s x : ByteArray} (h : x ∈ upB s) : x.size ≤ s.size := by
 rcases List.mem_cons.1 h with rfl | h
 ·exact Nat.le_refl _
 ·exact upF_size _ _ x h
theorem upB_len (s : ByteArray) : (upB s).length ≤ s.size + 2 := by
 have := upF_len (s.size + 1) s
 simp only [upB, List.length_cons]
 omega
theorem m119_L : ∀ (n : Nat) (s : ByteArray) (r : List ByteArray) (N : Nat), s.size < n → n ≤ N → r.length + n < 549755813887 → loopM B119_1 N (s, r) = some (.inl (r ++ upF n s))
 | 0, s, r, N, h, _, _ => absurd h (Nat.not_lt_zero _)
 | n + 1, s, r, N, h, hN, hr => by
  obtain ⟨N, rfl⟩ : ∃ m, N = m + 1 := ⟨N - 1, by omega⟩
  have g1 := m136 s (by omega)
  have g2 : r.length < 549755813887 := by omega
  rw [loopM, upF]
  simp only [B119_1, T119_1, T119_2, T119_3, al, frt, stp, br, ix, ixi, vz, vy, vw, vs, vg, v2, lr, lrt, ln, lxe, lc, lf, lfe, ap, aq, a0, a1, ad, cl, cs, cf, wa, wi, ir, ca, cp, dd, mv, st, ss, sL, Bd.c, Bd.vl, g1, g2, Option.bind_some, if_true]
  by_cases hs : s = ⟨#[]⟩
  ·simp [hs]
  ·have := split_size hs
   have ih := m119_L n (splitB s).1 (r ++ [(splitB s).1]) N (by omega) (by omega) (by rw [List.length_append, List.length_singleton]; omega)
   simp only [hs, decide_false, Bool.not_false, if_true, if_false]
   rw [ih]
   simp
theorem m119 (s : ByteArray) (hs : s.size < 274877906944) : M_ident_Up s = some (upB s) := by
 unfold M_ident_Up upB
 simp only [T119_1, T119_2, T119_3, al, frt, stp, br, ix, ixi, vz, vy, vw, vs, vg, v2, lr, lrt, ln, lxe, lc, lf, lfe, ap, aq, a0, a1, ad, cl, cs, cf, wa, wi, ir, ca, cp, dd, mv, st, ss, sL, Bd.c, Bd.vl, m119_L (s.size + 1) s [s] big (by omega) (Nat.le_of_lt (big_gt (by omega))) (by simp only [List.length_singleton]; omega), Option.bind_some]
 rfl
def memB (l : List ByteArray) (x : ByteArray) : Bool := l.any fun y => decide (x = y)
def resB (scope name : ByteArray) (known : List ByteArray) : ByteArray × Bool :=
 if 0 < name.size ∧ ((name.data.toList.getD 0 0).toNat : Int) = 46 then (if memB known (name.extract 1 name.size) = true then (name.extract 1 name.size, true) else (⟨#[]⟩, false))
 else match (upB scope).find? fun s => memB known (joinB s name) with
  | some s => (joinB s name, true)
  | none => (⟨#[]⟩, false)
theorem first_dot {s : ByteArray} (h : 0 < s.size) : s.extract 0 1 = ⟨#[46]⟩ ↔ ((s.data.toList.getD 0 0).toNat : Int) = 46 := by
 obtain ⟨d⟩ := s
 have h' : 0 < d.size := h
 have e : (ByteArray.extract ⟨d⟩ 0 1).data = d.extract 0 1 := by rw [ByteArray.data_extract]
 have e2 : d.extract 0 1 = #[d[0]] := by
  apply Array.ext
  ·simp; omega
  ·intro i h1 h2
   have : i = 0 := by simp at h2; omega
   subst this
   simp
 have e3 : d.toList.getD 0 0 = d[0] := by simp [List.getD_eq_getElem?_getD, h']
 show _ ↔ ((d.toList.getD 0 0).toNat : Int) = 46
 rw [e3]
 constructor
 ·intro hh
  have := congrArg ByteArray.data hh
  rw [e, e2] at this
  simp at this
  rw [this]; rfl
 ·intro hh
  have : d[0] = 46 := UInt8.toNat_inj.1 (by have : (46 : UInt8).toNat = 46 := rfl; omega)
  apply ByteArray.ext
  rw [e, e2, this]
theorem m118 (s : ByteArray) (hs : s.size < 4611686018427387904) : M_strings_CutPrefix s ⟨#[46]⟩ = some (if 0 < s.size ∧ ((s.data.toList.getD 0 0).toNat : Int) = 46 then (s.extract 1 s.size, true) else (s, false)) := by
 have e : (⟨#[46]⟩ : ByteArray).size = 1 := rfl
 simp only [M_strings_CutPrefix, M_stringslite_CutPrefix, M_stringslite_HasPrefix, T118_1, T135_1, T142_1, al, frt, stp, br, ix, ixi, vz, vy, vw, vs, vg, v2, lr, lrt, ln, lxe, lc, lf, lfe, ap, aq, a0, a1, ad, cl, cs, cf, wa, wi, ir, ca, cp, dd, mv, st, ss, sL, Bd.c, Bd.vl, ssg, e]
 by_cases h : 0 < s.size
 ·have h1 : (1 : Int) ≤ (s.size : Int) := by omega
  have h2 : 1 ≤ s.size := h
  by_cases hd : ((s.data.toList.getD 0 0).toNat : Int) = 46
  ·have h3 := (first_dot h).2 hd
   generalize s.data.toList.getD 0 0 = b at *
   simp [h, hd, h1, h2, h3]
  ·have h3 : ¬ s.extract 0 1 = ⟨#[46]⟩ := fun q => hd ((first_dot h).1 q)
   generalize s.data.toList.getD 0 0 = b at *
   simp [h, hd, h1, h2, h3]
 ·have h1 : ¬ (1 : Int) ≤ (s.size : Int) := by omega
  have h0 : s.size = 0 := by omega
  simp [h, h1, h0]
theorem find_idx {α : Type} (l : List α) (p : α → Bool) : l.find? p = (l.findIdx? p).bind fun i => l[i]? := by
 induction l with
 | nil => rfl
 | cons x l ih =>
  rw [List.find?_cons, List.findIdx?_cons]
  cases p x with
  | true => simp
  | false =>
   simp only [Bool.false_eq_true, if_false]
   rw [ih]
   cases l.findIdx? p <;> simp
theorem m92 (scope name : ByteArray) (known : List ByteArray) (h1 : scope.size < 274877906944) (h2 : name.size < 274877906944) (h3 : known.length < 4611686018427387904) : M_ident_Resolve scope name known = some (resB scope name known) := by
 have hl := upB_len scope
 have q1 : loopM (B92_1 name known (upB scope)) big 0 = some (match (upB scope).findIdx? (fun s => memB known (joinB s name)) with | some i => .inr (joinB ((upB scope).getD i ⟨#[]⟩) name, true) | none => .inl ()) := by
  refine loop_find (upB scope) (fun s => memB known (joinB s name)) (fun i => (joinB ((upB scope).getD i ⟨#[]⟩) name, true)) () (hN := big_gt (by omega)) (he := by simp [B92_1, T92_1, T92_2, T92_3, T92_4, al, frt, stp, br, ix, ixi, vz, vy, vw, vs, vg, v2, lr, lrt, ln, lxe, lc, lf, lfe, ap, aq, a0, a1, ad, cl, cs, cf, wa, wi, ir, ca, cp, dd, mv, st, ss, sL, Bd.c, Bd.vl]) (hs := ?_)
  intro i x hx
  have g := upB_size (List.mem_of_getElem? hx)
  have e : (upB scope).getD i ⟨#[]⟩ = x := by rw [List.getD_eq_getElem?_getD, hx]; rfl
  have g1 := m25 x name (by omega) (by omega)
  have g2 : M_Contains_string known (joinB x name) = some (memB known (joinB x name)) := m54 known (joinB x name) h3
  have g3 := (List.getElem?_eq_some_iff.1 hx).1
  have g4 : i + 1 < 9223372036854775808 := by omega
  simp only [B92_1, T92_1, T92_2, T92_3, T92_4, al, frt, stp, br, ix, ixi, vz, vy, vw, vs, vg, v2, lr, lrt, ln, lxe, lc, lf, lfe, ap, aq, a0, a1, ad, cl, cs, cf, wa, wi, ir, ca, cp, dd, mv, st, ss, sL, Bd.c, Bd.vl, g1, g2, g3, g4, e, hx, Option.bind_some, Int.ofNat_lt, decide_true, if_true]
  cases memB known (joinB x name) <;> rfl
 unfold M_ident_Resolve resB
 simp only [T92_1, T92_2, T92_3, T92_4, al, frt, stp, br, ix, ixi, vz, vy, vw, vs, vg, v2, lr, lrt, ln, lxe, lc, lf, lfe, ap, aq, a0, a1, ad, cl, cs, cf, wa, wi, ir, ca, cp, dd, mv, st, ss, sL, Bd.c, Bd.vl, m118 name (by omega), Option.bind_some]
 by_cases hd : 0 < name.size ∧ ((name.data.toList.getD 0 0).toNat : Int) = 46
 ·have g2 : M_Contains_string known (name.extract 1 name.size) = some (memB known (name.extract 1 name.size)) := m54 known _ h3
  simp only [hd, and_self, if_true, g2, Option.bind_some]
  cases memB known (name.extract 1 name.size) <;> rfl
 ·simp only [if_neg hd, Bool.false_eq_true, if_false, m119 scope h1, Option.bind_some, q1]
  rw [find_idx]
  cases hf : (upB scope).findIdx? (fun s => memB known (joinB s name)) with
  | none => rfl
  | some i =>
   have hlt : i < (upB scope).length := (List.findIdx?_eq_some_iff_getElem.1 hf).1
   simp [List.getD_eq_getElem?_getD, hlt]
end Go.Proofs.Ythagpbkmakocjaa
namespace Go.Proofs.Ythagpbkmakocjaa
set_option linter.all false
open Go Go.Eng
theorem firstR_some {α ρ : Type} (g : α → Option ρ) : ∀ (l p : List α), firstR (fun _ x => g x) p l = l.findSome? g
 | [], p => rfl
 | x :: l, p => by
  rw [firstR, List.findSome?_cons]
  cases g x with
  | some r => rfl
  | none => exact firstR_some g l _
def msgsAll (fs : List Fil) : List ByteArray := fs.flatMap own1
def enumR (fs : List Fil) (x : ByteArray) : Option Enm := fs.findSome? fun f => f.enums.find? fun y => decide (joinB f.space y.name = x)
theorem m93 (L : Lnk) (x : ByteArray) (h : L.enums.length < 4611686018427387904) : M_link_linker_isEnum L x = some (L.enums.any fun e => decide (e.name = x)) := by
 unfold M_link_linker_isEnum
 simp only [T93_1, al, frt, stp, br, ix, ixi, vz, vy, vw, vs, vg, v2, lr, lrt, ln, lxe, lc, lf, lfe, ap, aq, a0, a1, ad, cl, cs, cf, wa, wi, ir, ca, cp, dd, mv, st, ss, sL, Bd.c, Bd.vl]
 rw [m120 L.enums _ (fun y => decide (y.name = x)) (fun y _ => (by simp only [M_link_linker_isEnum_1, T121_1, al, frt, stp, br, ix, ixi, vz, vy, vw, vs, vg, v2, lr, lrt, ln, lxe, lc, lf, lfe, ap, aq, a0, a1, ad, cl, cs, cf, wa, wi, ir, ca, cp, dd, mv, st, ss, sL, Bd.c, Bd.vl] : M_link_linker_isEnum_1 y x = _)) h]
 rfl
def itemS (en : List Enm) (nm it : ByteArray) : Option Int := en.findSome? fun e => if e.name = nm then (e.items.find? fun i => decide (i.name = it)).map fun i => IntKind.u64.wrap i.num else none
theorem m94 (L : Lnk) (nm it : ByteArray) (h : L.enums.length < 4611686018427387904) (hi : ∀ e ∈ L.enums, e.items.length < 4611686018427387904) : M_link_linker_item L nm it = some (match itemS L.enums nm it with | some n => (n, true) | none => (0, false)) := by
 have q2 : ∀ (v : Nat) (e : Enm), e.items.length < 4611686018427387904 → loopM (B94_2 L nm it v e) big 0 = some (((e.items.find? fun i => decide (i.name = it)).map fun i => (IntKind.u64.wrap i.num, true)).elim (.inl ()) .inr) := fun v e he => by
  have := loop_pre (B := B94_2 L nm it v e) (N := big) e.items (fun _ => ()) (fun _ y => if (decide (y.name = it)) = true then some (IntKind.u64.wrap y.num, true) else none) (fun i _ => i) (fun _ => ()) (hN := big_gt he) (he := by simp [B94_2, B94_1, T94_1, T94_2, T94_3, T94_4, T94_5, T94_6, T94_7, T94_8, al, frt, stp, br, ix, ixi, vz, vy, vw, vs, vg, v2, lr, lrt, ln, lxe, lc, lf, lfe, ap, aq, a0, a1, ad, cl, cs, cf, wa, wi, ir, ca, cp, dd, mv, st, ss, sL, Bd.c, Bd.vl]) (hs := by
   intro i y hy
   have h1 := (List.getElem?_eq_some_iff.1 hy).1
   have h2 : i + 1 < 9223372036854775808 := by omega
   simp only [B94_2, B94_1, T94_1, T94_2, T94_3, T94_4, T94_5, T94_6, T94_7, T94_8, al, frt, stp, br, ix, ixi, vz, vy, vw, vs, vg, v2, lr, lrt, ln, lxe, lc, lf, lfe, ap, aq, a0, a1, ad, cl, cs, cf, wa, wi, ir, ca, cp, dd, mv, st, ss, sL, Bd.c, Bd.vl, h1, h2, hy, Option.bind_some, Int.ofNat_lt, decide_true, if_true]
   split <;> rfl)
  rw [this, firstR_some]
  congr 1
  clear this he
  induction e.items with
  | nil => rfl
  | cons y l ih =>
   rw [List.findSome?_cons, List.find?_cons]
   cases decide (y.name = it) with
   | true => rfl
   | false => exact ih
 have q1 : loopM (B94_1 L nm it) big 0 = some (((itemS L.enums nm it).map fun n => (n, true)).elim (.inl ()) .inr) := by
  have := loop_pre (B := B94_1 L nm it) (N := big) L.enums (fun _ => ()) (fun _ e => if e.name = nm then ((e.items.find? fun i => decide (i.name = it)).map fun i => (IntKind.u64.wrap i.num, true)) else none) (fun i _ => i) (fun _ => ()) (hN := big_gt h) (he := by simp [B94_2, B94_1, T94_1, T94_2, T94_3, T94_4, T94_5, T94_6, T94_7, T94_8, al, frt, stp, br, ix, ixi, vz, vy, vw, vs, vg, v2, lr, lrt, ln, lxe, lc, lf, lfe, ap, aq, a0, a1, ad, cl, cs, cf, wa, wi, ir, ca, cp, dd, mv, st, ss, sL, Bd.c, Bd.vl]) (hs := by
   intro i e he
   have h1 := (List.getElem?_eq_some_iff.1 he).1
   have h2 : i + 1 < 9223372036854775808 := by omega
   have h3 := q2 i e (hi _ (List.mem_of_getElem? he))
   simp only [B94_2, B94_1, T94_1, T94_2, T94_3, T94_4, T94_5, T94_6, T94_7, T94_8, al, frt, stp, br, ix, ixi, vz, vy, vw, vs, vg, v2, lr, lrt, ln, lxe, lc, lf, lfe, ap, aq, a0, a1, ad, cl, cs, cf, wa, wi, ir, ca, cp, dd, mv, st, ss, sL, Bd.c, Bd.vl, h1, h2, he, Option.bind_some, Int.ofNat_lt, decide_true, if_true]
   by_cases hne : e.name = nm
   ·simp only [hne, decide_true, Bool.not_true, Bool.false_eq_true, if_false, if_true, h3, Option.bind_some]
    cases e.items.find? (fun i => decide (i.name = it)) <;> rfl
   ·simp only [hne, decide_false, Bool.not_false, if_true, if_false])
  rw [this, firstR_some]
  congr 1
  clear this q2
  unfold itemS
  clear h hi
  induction L.enums with
  | nil => rfl
  | cons e l ih =>
   rw [List.findSome?_cons, List.findSome?_cons]
   by_cases hne : e.name = nm
   ·simp only [hne, if_true]
    cases e.items.find? (fun i => decide (i.name = it)) with
    | some n => rfl
    | none => exact ih
   ·simp only [hne, if_false]
    exact ih
 unfold M_link_linker_item
 simp only [T94_1, T94_2, T94_3, T94_4, T94_5, T94_6, T94_7, T94_8, al, frt, stp, br, ix, ixi, vz, vy, vw, vs, vg, v2, lr, lrt, ln, lxe, lc, lf, lfe, ap, aq, a0, a1, ad, cl, cs, cf, wa, wi, ir, ca, cp, dd, mv, st, ss, sL, Bd.c, Bd.vl, q1, Option.bind_some]
 cases itemS L.enums nm it <;> rfl
def sideS (known msgs : List ByteArray) (space s : ByteArray) : ByteArray × Int := if (resB space s known).2 = false then (⟨#[]⟩, 8) else if memB msgs (resB space s known).1 = false then (⟨#[]⟩, 12) else ((resB space s known).1, 0)
theorem m58 (L : Lnk) (s : ByteArray) (h1 : L.f.space.size < 274877906944) (h2 : s.size < 274877906944) (h3 : L.known.length < 4611686018427387904) (h4 : L.messages.length < 4611686018427387904) : M_link_linker_side L s = some (sideS L.known L.messages L.f.space s) := by
 unfold M_link_linker_side sideS
 have e : M_Contains_string L.messages (resB L.f.space s L.known).1 = some (memB L.messages (resB L.f.space s L.known).1) := m54 _ _ h4
 simp only [T58_1, al, frt, stp, br, ix, ixi, vz, vy, vw, vs, vg, v2, lr, lrt, ln, lxe, lc, lf, lfe, ap, aq, a0, a1, ad, cl, cs, cf, wa, wi, ir, ca, cp, dd, mv, st, ss, sL, Bd.c, Bd.vl, m92 L.f.space s L.known h1 h2 h3, e, Option.bind_some]
 cases (resB L.f.space s L.known).2 <;> cases memB L.messages (resB L.f.space s L.known).1 <;> rfl
def enmsAll (fs : List Fil) : List Enm := fs.flatMap fun f => f.enums.map fun e => { e with name := joinB f.space e.name }
def fieldS (known msgs : List ByteArray) (en : List Enm) (scope : ByteArray) (d : Fld) : Fld × Int :=
 if d.type.kind = 0 then
  if (resB scope d.type.name known).2 = false then (d, 8)
  else if memB msgs (resB scope d.type.name known).1 = true then
   (if d.hasDefault = true then (d, 12) else ({ d with type := ⟨10, (resB scope d.type.name known).1⟩ }, 0))
  else match en.find? fun e => decide (e.name = (resB scope d.type.name known).1) with
   | none => (d, 12)
   | some e => if d.hasDefault = false then ({ d with type := ⟨9, (resB scope d.type.name known).1⟩ }, 0)
    else if d.dflt.kind ≠ 9 then (d, 12)
    else match e.items.find? fun i => decide (i.name = d.dflt.text) with
     | none => (d, 16)
     | some i => ({ d with type := ⟨9, (resB scope d.type.name known).1⟩, dflt := .mk 9 (IntKind.u64.wrap i.num) ⟨#[]⟩ [] [] [] [] }, 0)
 else if d.hasDefault = false then (d, 0)
 else if d.dflt.kind ≠ d.type.kind then (d, 12) else (d, 0)
theorem itemS_one {en : List Enm} (hu : en.Pairwise fun a b => a.name ≠ b.name) (nm it : ByteArray) : itemS en nm it = (en.find? fun e => decide (e.name = nm)).bind fun e => (e.items.find? fun i => decide (i.name = it)).map fun i => IntKind.u64.wrap i.num := by
 unfold itemS
 induction en with
 | nil => rfl
 | cons e l ih =>
  rw [List.findSome?_cons, List.find?_cons]
  have hl := List.pairwise_cons.1 hu
  by_cases hne : e.name = nm
  ·simp only [hne, decide_true, if_true, Option.bind_some]
   cases (e.items.find? fun i => decide (i.name = it)) with
   | some i => rfl
   | none =>
    have : ∀ l : List Enm, (∀ b ∈ l, nm ≠ b.name) → (l.findSome? fun e => if e.name = nm then (e.items.find? fun i => decide (i.name = it)).map fun i => IntKind.u64.wrap i.num else none) = none := fun l h => by
     rw [List.findSome?_eq_none_iff]
     intro b hb
     rw [if_neg fun q => h b hb q.symm]
    exact this l fun b hb => hne ▸ hl.1 b hb
  ·simp only [hne, decide_false, if_false]
   exact ih hl.2
end Go.Proofs.Ythagpbkmakocjaa
namespace Go.Proofs.Ythagpbkmakocjaa
set_option linter.all false
open Go Go.Eng
theorem any_find {α : Type} (l : List α) (p : α → Bool) : l.any p = (l.find? p).isSome := by
 induction l with
 | nil => rfl
 | cons x l ih =>
  rw [List.any_cons, List.find?_cons]
  cases p x with
  | true => rfl
  | false => simpa using ih
theorem m56 (L : Lnk) (scope : ByteArray) (d : Fld) (h1 : scope.size < 274877906944) (h2 : d.type.name.size < 274877906944) (h3 : L.known.length < 4611686018427387904) (h4 : L.messages.length < 4611686018427387904) (h5 : L.enums.length < 4611686018427387904) (h6 : ∀ e ∈ L.enums, e.items.length < 4611686018427387904) (hu : L.enums.Pairwise fun a b => a.name ≠ b.name) :
  ∃ y, M_link_linker_field L scope d = some (y, (fieldS L.known L.messages L.enums scope d).2) ∧ ((fieldS L.known L.messages L.enums scope d).2 = 0 → y = (fieldS L.known L.messages L.enums scope d).1) := by
 have e : ∀ x, M_Contains_string L.messages x = some (memB L.messages x) := fun x => m54 _ _ h4
 have e2 : ∀ x, M_link_linker_isEnum L x = some (L.enums.find? fun e => decide (e.name = x)).isSome := fun x => by rw [m93 L x h5, any_find]
 unfold M_link_linker_field fieldS
 simp only [T56_1, al, frt, stp, br, ix, ixi, vz, vy, vw, vs, vg, v2, lr, lrt, ln, lxe, lc, lf, lfe, ap, aq, a0, a1, ad, cl, cs, cf, wa, wi, ir, ca, cp, dd, mv, st, ss, sL, Bd.c, Bd.vl, m92 scope d.type.name L.known h1 h2 h3, e, e2, m94 L _ _ h5 h6, itemS_one hu, Option.bind_some]
 generalize resB scope d.type.name L.known = r
 obtain ⟨full, ok⟩ := r
 by_cases hk : d.type.kind = 0
 ·simp only [hk, decide_true, if_true, Bool.true_or, Bool.true_and]
  cases ok with
  | false => exact ⟨_, rfl, fun h => by cases h⟩
  | true =>
   simp only [Bool.not_true, Bool.false_eq_true, if_false, Bool.true_eq_false]
   cases memB L.messages full with
   | true =>
    simp only [if_true]
    cases d.hasDefault with
    | false => exact ⟨_, rfl, fun _ => rfl⟩
    | true => exact ⟨_, rfl, fun h => by cases h⟩
   | false =>
    simp only [Bool.false_eq_true, if_false]
    cases hf : L.enums.find? fun e => decide (e.name = full) with
    | none => exact ⟨_, rfl, fun h => by cases h⟩
    | some en =>
     simp only [Option.isSome_some, if_true, Option.bind_some]
     cases d.hasDefault with
     | false => exact ⟨_, rfl, fun _ => rfl⟩
     | true =>
      simp only [Bool.not_true, Bool.false_eq_true, if_false, Bool.true_eq_false]
      by_cases h9 : d.dflt.kind = 9
      ·simp only [h9, decide_true, Bool.not_true, Bool.false_eq_true, if_false, ne_eq, not_true_eq_false]
       cases en.items.find? fun i => decide (i.name = d.dflt.text) with
       | none => exact ⟨_, rfl, fun h => by cases h⟩
       | some i => exact ⟨_, rfl, fun _ => rfl⟩
      ·simp only [h9, decide_false, Bool.not_false, if_true, ne_eq, not_false_eq_true]
       exact ⟨_, rfl, fun h => by cases h⟩
 ·simp only [hk, decide_false, Bool.false_eq_true, if_false, Bool.false_or, Bool.false_and]
  cases d.hasDefault with
  | false => exact ⟨_, rfl, fun _ => rfl⟩
  | true =>
   simp only [Bool.not_true, Bool.false_eq_true, if_false, Bool.true_eq_false]
   by_cases h9 : d.dflt.kind = d.type.kind
   ·simp only [h9, decide_true, Bool.not_true, Bool.false_eq_true, if_false, ne_eq, not_true_eq_false]
    exact ⟨_, rfl, fun _ => rfl⟩
   ·simp only [h9, decide_false, Bool.not_false, if_true, ne_eq, not_false_eq_true]
    exact ⟨_, rfl, fun h => by cases h⟩
end Go.Proofs.Ythagpbkmakocjaa
namespace Go.Proofs.Ythagpbkmakocjaa
set_option linter.all false
open Go Go.Eng
structure SzG (f : Fil) : Prop where
 fl : ∀ m ∈ f.messages, m.fields.length < 2147483648
 ft : ∀ m ∈ f.messages, ∀ d ∈ m.fields, d.type.name.size < 2147483648
 ml : ∀ v ∈ f.services, v.methods.length < 2147483648
 mi : ∀ v ∈ f.services, ∀ d ∈ v.methods, d.inn.size < 2147483648 ∧ d.out.size < 2147483648
 ei : ∀ e ∈ f.enums, e.items.length < 2147483648
theorem firstR_map {α ρ τ : Type} {R : List α → α → Option ρ} {g : ρ → τ} {k : α → Option τ} (h : ∀ p x, (R p x).map g = k x) : ∀ (l p : List α), (firstR R p l).map g = l.findSome? k
 | [], p => rfl
 | x :: l, p => by
  rw [firstR, List.findSome?_cons, ← h p x]
  cases R p x with
  | some r => rfl
  | none => exact firstR_map h l _
theorem firstR_from {α ρ : Type} {R : List α → α → Option ρ} {r : ρ} : ∀ {l p : List α}, firstR R p l = some r → ∃ q x, R q x = some r
 | [], p, h => by cases h
 | x :: l, p, h => by
  rw [firstR] at h
  cases hr : R p x with
  | some r' => rw [hr] at h; cases h; exact ⟨p, x, hr⟩
  | none => rw [hr] at h; exact firstR_from h
def errS {α β : Type} (g : α → β × Int) (l : List α) : Option Int := l.findSome? fun x => if (g x).2 = 0 then none else some (g x).2
theorem errS_none {α β : Type} {g : α → β × Int} {l : List α} (h : errS g l = none) {x : α} (hx : x ∈ l) : (g x).2 = 0 := by
 have := List.findSome?_eq_none_iff.1 h x hx
 split at this
 ·assumption
 ·cases this
theorem errS_ne {α β : Type} {g : α → β × Int} {l : List α} {c : Int} (h : errS g l = some c) : c ≠ 0 := by
 obtain ⟨x, _, hx⟩ := List.exists_of_findSome?_eq_some h
 split at hx
 ·cases hx
 ·rename_i h0; cases hx; exact h0
def msgS (known msgs : List ByteArray) (en : List Enm) (space : ByteArray) (m : Msg) : Msg × Int := match errS (fieldS known msgs en (joinB space m.name)) m.fields with
 | some c => (m, c)
 | none => ({ m with name := joinB space m.name, fields := m.fields.map fun d => (fieldS known msgs en (joinB space m.name) d).1 }, 0)
theorem drop_at {α : Type} {l : List α} {i : Nat} {x : α} (h : l[i]? = some x) : l.drop i = x :: l.drop (i + 1) := by
 obtain ⟨h1, rfl⟩ := List.getElem?_eq_some_iff.1 h
 exact List.drop_eq_getElem_cons h1
theorem row_at {α : Type} {l : List α} {i : Nat} {x : α} (g : α → α) (h : l[i]? = some x) : ((l.take i).map g ++ l.drop i)[i]? = some x ∧ ((l.take i).map g ++ l.drop i).length = l.length ∧ ∀ y, y = g x → ((l.take i).map g ++ l.drop i).set i y = (l.take i ++ [x]).map g ++ l.drop (i + 1) := by
 have hl := (List.getElem?_eq_some_iff.1 h).1
 have e : ((l.take i).map g).length = i := by rw [List.length_map, List.length_take]; omega
 refine ⟨?_, ?_, fun y hy => ?_⟩
 ·rw [drop_at h, List.getElem?_append_right (by omega), e, Nat.sub_self]; rfl
 ·rw [List.length_append, e, List.length_drop]; omega
 ·rw [drop_at h, List.set_append_right _ _ (by omega), e, Nat.sub_self, hy]
  simp
theorem m55 (l : List Fld) (h : l.length < 549755813888) : M_Clone_Field l = some l := by
 unfold M_Clone_Field
 simp only [T55_1, al, frt, stp, br, ix, ixi, vz, vy, vw, vs, vg, v2, lr, lrt, ln, lxe, lc, lf, lfe, ap, aq, a0, a1, ad, cl, cs, cf, wa, wi, ir, ca, cp, dd, mv, st, ss, sL, Bd.c, Bd.vl, Bool.false_eq_true, if_false, h, if_true]
theorem m57 (l : List Mth) (h : l.length < 549755813888) : M_Clone_Method l = some l := by
 unfold M_Clone_Method
 simp only [T57_1, al, frt, stp, br, ix, ixi, vz, vy, vw, vs, vg, v2, lr, lrt, ln, lxe, lc, lf, lfe, ap, aq, a0, a1, ad, cl, cs, cf, wa, wi, ir, ca, cp, dd, mv, st, ss, sL, Bd.c, Bd.vl, Bool.false_eq_true, if_false, h, if_true]
theorem m28 (L : Lnk) (m : Msg) (h1 : L.f.space.size < 2147483648) (h0 : m.name.size < 2147483648) (hl : m.fields.length < 2147483648) (h2 : ∀ d ∈ m.fields, d.type.name.size < 2147483648) (h3 : L.known.length < 4611686018427387904) (h4 : L.messages.length < 4611686018427387904) (h5 : L.enums.length < 4611686018427387904) (h6 : ∀ e ∈ L.enums, e.items.length < 4611686018427387904) (hu : L.enums.Pairwise fun a b => a.name ≠ b.name) :
  ∃ y, M_link_linker_message L m = some (y, (msgS L.known L.messages L.enums L.f.space m).2) ∧ y.name = joinB L.f.space m.name ∧ ((msgS L.known L.messages L.enums L.f.space m).2 = 0 → y = (msgS L.known L.messages L.enums L.f.space m).1) := by
 have hj := joinB_size L.f.space m.name
 have e0 := m25 L.f.space m.name (by omega) (by omega)
 generalize hsc : joinB L.f.space m.name = sc at *
 have q := loop_pre (B := B28_1 L m sc m.fields) (N := big) m.fields (fun p => p.map (fun d => (fieldS L.known L.messages L.enums sc d).1) ++ m.fields.drop p.length)
  (fun p d => if (fieldS L.known L.messages L.enums sc d).2 = 0 then none else some (Msg.mk sc (p.map (fun d => (fieldS L.known L.messages L.enums sc d).1) ++ m.fields.drop p.length) m.reserved m.gone m.notes, (fieldS L.known L.messages L.enums sc d).2)) (fun i c => (i, c)) (fun c => c) (hN := big_gt (by omega)) (he := by simp [B28_1, T28_1, T28_2, T28_3, T28_4, T28_5, T28_6, al, frt, stp, br, ix, ixi, vz, vy, vw, vs, vg, v2, lr, lrt, ln, lxe, lc, lf, lfe, ap, aq, a0, a1, ad, cl, cs, cf, wa, wi, ir, ca, cp, dd, mv, st, ss, sL, Bd.c, Bd.vl]) (hs := by
  intro i d hd
  have g1 := (List.getElem?_eq_some_iff.1 hd).1
  have g2 : i + 1 < 9223372036854775808 := by omega
  obtain ⟨r1, r2, r3⟩ := row_at (fun d => (fieldS L.known L.messages L.enums sc d).1) hd
  obtain ⟨y, hy1, hy2⟩ := m56 L sc d (by omega) (by have := h2 d (List.mem_of_getElem? hd); omega) h3 h4 h5 h6 hu
  have e1 : (m.fields.take i).length = i := by rw [List.length_take]; omega
  have e2 : (m.fields.take i ++ [d]).length = i + 1 := by rw [List.length_append, e1]; rfl
  simp only [B28_1, T28_1, T28_2, T28_3, T28_4, T28_5, T28_6, al, frt, stp, br, ix, ixi, vz, vy, vw, vs, vg, v2, lr, lrt, ln, lxe, lc, lf, lfe, ap, aq, a0, a1, ad, cl, cs, cf, wa, wi, ir, ca, cp, dd, mv, st, ss, sL, Bd.c, Bd.vl, e1, e2, g1, g2, r1, r2, hy1, Option.bind_some, Int.ofNat_lt, decide_true, if_true]
  by_cases hc : (fieldS L.known L.messages L.enums sc d).2 = 0
  ·have := r3 y (hy2 hc)
   simp only [hc, decide_true, Bool.not_true, Bool.false_eq_true, if_false, if_true, this]
  ·simp only [hc, decide_false, Bool.not_false, if_true, if_false])
 rw [List.map_nil, List.nil_append, List.length_nil, List.drop_zero] at q
 unfold M_link_linker_message msgS
 rw [hsc]
 simp only [T28_1, T28_2, T28_3, T28_4, T28_5, T28_6, al, frt, stp, br, ix, ixi, vz, vy, vw, vs, vg, v2, lr, lrt, ln, lxe, lc, lf, lfe, ap, aq, a0, a1, ad, cl, cs, cf, wa, wi, ir, ca, cp, dd, mv, st, ss, sL, Bd.c, Bd.vl, e0, m55 m.fields (by omega), Option.bind_some, q]
 have hm := firstR_map (R := fun p d => if (fieldS L.known L.messages L.enums sc d).2 = 0 then none else some (Msg.mk sc (p.map (fun d => (fieldS L.known L.messages L.enums sc d).1) ++ m.fields.drop p.length) m.reserved m.gone m.notes, (fieldS L.known L.messages L.enums sc d).2)) (g := fun r => r.2) (k := fun d => if (fieldS L.known L.messages L.enums sc d).2 = 0 then none else some (fieldS L.known L.messages L.enums sc d).2) (fun p x => by split <;> rfl) m.fields []
 cases hf : firstR (fun p d => if (fieldS L.known L.messages L.enums sc d).2 = 0 then none else some (Msg.mk sc (p.map (fun d => (fieldS L.known L.messages L.enums sc d).1) ++ m.fields.drop p.length) m.reserved m.gone m.notes, (fieldS L.known L.messages L.enums sc d).2)) [] m.fields with
 | none =>
  rw [hf] at hm
  have hz : errS (fieldS L.known L.messages L.enums sc) m.fields = none := hm.symm
  rw [hz]
  simp only [Option.elim, Option.bind_some, Sum.elim_inl, List.length_append, List.length_map, List.drop_length, List.length_nil, Nat.add_zero, if_true, List.append_nil]
  exact ⟨_, rfl, rfl, fun _ => rfl⟩
 | some r =>
  rw [hf] at hm
  have hz : errS (fieldS L.known L.messages L.enums sc) m.fields = some r.2 := hm.symm
  rw [hz]
  have hne := errS_ne hz
  obtain ⟨p, x, hx⟩ := firstR_from hf
  split at hx
  ·cases hx
  ·cases hx
   exact ⟨_, rfl, rfl, fun h => absurd h hne⟩
def mthS (known msgs : List ByteArray) (space : ByteArray) (d : Mth) : Mth × Int :=
 if (sideS known msgs space d.inn).2 ≠ 0 then (d, (sideS known msgs space d.inn).2)
 else if (sideS known msgs space d.out).2 ≠ 0 then (d, (sideS known msgs space d.out).2)
 else ({ d with inn := (sideS known msgs space d.inn).1, out := (sideS known msgs space d.out).1 }, 0)
def svcS (known msgs : List ByteArray) (space : ByteArray) (v : Svc) : Svc × Int := match errS (mthS known msgs space) v.methods with
 | some c => (v, c)
 | none => ({ v with name := joinB space v.name, methods := v.methods.map fun d => (mthS known msgs space d).1 }, 0)
theorem m29 (L : Lnk) (v : Svc) (h1 : L.f.space.size < 2147483648) (h0 : v.name.size < 2147483648) (hl : v.methods.length < 2147483648) (h2 : ∀ d ∈ v.methods, d.inn.size < 2147483648 ∧ d.out.size < 2147483648) (h3 : L.known.length < 4611686018427387904) (h4 : L.messages.length < 4611686018427387904) :
  ∃ y, M_link_linker_service L v = some (y, (svcS L.known L.messages L.f.space v).2) ∧ y.name = joinB L.f.space v.name ∧ ((svcS L.known L.messages L.f.space v).2 = 0 → y = (svcS L.known L.messages L.f.space v).1) := by
 have hj := joinB_size L.f.space v.name
 have e0 := m25 L.f.space v.name (by omega) (by omega)
 generalize hsc : joinB L.f.space v.name = sc at *
 have q := loop_pre (B := B29_1 L v sc v.methods) (N := big) v.methods (fun p => p.map (fun d => (mthS L.known L.messages L.f.space d).1) ++ v.methods.drop p.length)
  (fun p d => if (mthS L.known L.messages L.f.space d).2 = 0 then none else some (Svc.mk sc (p.map (fun d => (mthS L.known L.messages L.f.space d).1) ++ v.methods.drop p.length) v.notes, (mthS L.known L.messages L.f.space d).2)) (fun i c => (i, c)) (fun c => c) (hN := big_gt (by omega)) (he := by simp [B29_1, T29_1, T29_2, T29_3, T29_4, T29_5, T29_6, al, frt, stp, br, ix, ixi, vz, vy, vw, vs, vg, v2, lr, lrt, ln, lxe, lc, lf, lfe, ap, aq, a0, a1, ad, cl, cs, cf, wa, wi, ir, ca, cp, dd, mv, st, ss, sL, Bd.c, Bd.vl]) (hs := by
  intro i d hd
  have g1 := (List.getElem?_eq_some_iff.1 hd).1
  have g2 : i + 1 < 9223372036854775808 := by omega
  obtain ⟨r1, r2, r3⟩ := row_at (fun d => (mthS L.known L.messages L.f.space d).1) hd
  have g3 := h2 d (List.mem_of_getElem? hd)
  have s1 := m58 L d.inn (by omega) (by omega) h3 h4
  have s2 := m58 L d.out (by omega) (by omega) h3 h4
  have e1 : (v.methods.take i).length = i := by rw [List.length_take]; omega
  have e2 : (v.methods.take i ++ [d]).length = i + 1 := by rw [List.length_append, e1]; rfl
  have r4 : i < ((v.methods.take i).map (fun d => (mthS L.known L.messages L.f.space d).1) ++ v.methods.drop i).length := by omega
  simp only [B29_1, T29_1, T29_2, T29_3, T29_4, T29_5, T29_6, al, frt, stp, br, ix, ixi, vz, vy, vw, vs, vg, v2, lr, lrt, ln, lxe, lc, lf, lfe, ap, aq, a0, a1, ad, cl, cs, cf, wa, wi, ir, ca, cp, dd, mv, st, ss, sL, Bd.c, Bd.vl, e1, e2, g1, g2, r1, r2, s1, s2, Option.bind_some, Int.ofNat_lt, decide_true, if_true]
  by_cases hc : (sideS L.known L.messages L.f.space d.inn).2 = 0
  ·by_cases hc2 : (sideS L.known L.messages L.f.space d.out).2 = 0
   ·have hm : mthS L.known L.messages L.f.space d = ({ d with inn := (sideS L.known L.messages L.f.space d.inn).1, out := (sideS L.known L.messages L.f.space d.out).1 }, 0) := by unfold mthS; simp [hc, hc2]
    have := r3 _ rfl
    simp only [hm] at this
    simp only [hc, hc2, hm, decide_true, Bool.not_true, Bool.false_eq_true, if_false, if_true, List.getElem?_set_self r4, Option.bind_some, List.set_set, this]
   ·have hm : mthS L.known L.messages L.f.space d = (d, (sideS L.known L.messages L.f.space d.out).2) := by unfold mthS; simp [hc, hc2]
    simp only [hc, hc2, hm, decide_true, decide_false, Bool.not_true, Bool.not_false, Bool.false_eq_true, if_false, if_true]
  ·have hm : mthS L.known L.messages L.f.space d = (d, (sideS L.known L.messages L.f.space d.inn).2) := by unfold mthS; simp [hc]
   simp only [hc, hm, decide_false, Bool.not_false, if_true, if_false])
 rw [List.map_nil, List.nil_append, List.length_nil, List.drop_zero] at q
 unfold M_link_linker_service svcS
 rw [hsc]
 simp only [T29_1, T29_2, T29_3, T29_4, T29_5, T29_6, al, frt, stp, br, ix, ixi, vz, vy, vw, vs, vg, v2, lr, lrt, ln, lxe, lc, lf, lfe, ap, aq, a0, a1, ad, cl, cs, cf, wa, wi, ir, ca, cp, dd, mv, st, ss, sL, Bd.c, Bd.vl, e0, m57 v.methods (by omega), Option.bind_some, q]
 have hm := firstR_map (R := fun p d => if (mthS L.known L.messages L.f.space d).2 = 0 then none else some (Svc.mk sc (p.map (fun d => (mthS L.known L.messages L.f.space d).1) ++ v.methods.drop p.length) v.notes, (mthS L.known L.messages L.f.space d).2)) (g := fun r => r.2) (k := fun d => if (mthS L.known L.messages L.f.space d).2 = 0 then none else some (mthS L.known L.messages L.f.space d).2) (fun p x => by split <;> rfl) v.methods []
 cases hf : firstR (fun p d => if (mthS L.known L.messages L.f.space d).2 = 0 then none else some (Svc.mk sc (p.map (fun d => (mthS L.known L.messages L.f.space d).1) ++ v.methods.drop p.length) v.notes, (mthS L.known L.messages L.f.space d).2)) [] v.methods with
 | none =>
  rw [hf] at hm
  have hz : errS (mthS L.known L.messages L.f.space) v.methods = none := hm.symm
  rw [hz]
  simp only [Option.elim, Option.bind_some, Sum.elim_inl, List.length_append, List.length_map, List.drop_length, List.length_nil, Nat.add_zero, if_true, List.append_nil]
  exact ⟨_, rfl, rfl, fun _ => rfl⟩
 | some r =>
  rw [hf] at hm
  have hz : errS (mthS L.known L.messages L.f.space) v.methods = some r.2 := hm.symm
  rw [hz]
  have hne := errS_ne hz
  obtain ⟨p, x, hx⟩ := firstR_from hf
  split at hx
  ·cases hx
  ·cases hx
   exact ⟨_, rfl, rfl, fun h => absurd h hne⟩
end Go.Proofs.Ythagpbkmakocjaa
namespace Go.Proofs.Ythagpbkmakocjaa
set_option linter.all false
open Go Go.Eng
def errN {α β : Type} (g : α → β × Int) (nm : α → ByteArray) (l : List α) : Option (ByteArray × Int) := l.findSome? fun x => if (g x).2 = 0 then none else some (nm x, (g x).2)
theorem find_errN {α β τ : Type} (g : α → β × Int) (nm : α → ByteArray) (F : ByteArray → Int → τ) (l : List α) : (l.findSome? fun x => if (g x).2 = 0 then none else some (F (nm x) (g x).2)) = (errN g nm l).map fun r => F r.1 r.2 := by
 unfold errN
 induction l with
 | nil => rfl
 | cons x l ih =>
  rw [List.findSome?_cons, List.findSome?_cons]
  by_cases h : (g x).2 = 0
  ·simp only [h, if_true]; exact ih
  ·simp only [h, if_false]; rfl
theorem errN_ne {α β : Type} {g : α → β × Int} {nm : α → ByteArray} {l : List α} {c : ByteArray × Int} (h : errN g nm l = some c) : c.2 ≠ 0 := by
 obtain ⟨x, _, hx⟩ := List.exists_of_findSome?_eq_some h
 split at hx
 ·cases hx
 ·rename_i h0; cases hx; exact h0
structure Base0 (fs : List Fil) : Prop where
 a : SzA fs
 g : ∀ f ∈ fs, SzG f
 i : ∀ f ∈ fs, FoundI fs f
 d : ∀ x, memB (msgsAll fs) x = true → enumR fs x = none
 u : (enmsAll fs).Pairwise fun a b => a.name ≠ b.name
def mS (fs : List Fil) (f : Fil) : Msg → Msg × Int := msgS (visOf fs f) (msgsAll fs) (enmsAll fs) f.space
def vS' (fs : List Fil) (f : Fil) : Svc → Svc × Int := svcS (visOf fs f) (msgsAll fs) f.space
def err1 (fs : List Fil) (f : Fil) : Option (ByteArray × Int) := errN (mS fs f) (fun m => joinB f.space m.name) f.messages
def err2 (fs : List Fil) (f : Fil) : Option (ByteArray × Int) := errN (vS' fs f) (fun v => joinB f.space v.name) f.services
theorem vis_len {fs : List Fil} (h : Base0 fs) {f : Fil} (hf : f ∈ fs) : (visOf fs f).length ≤ 274878955520 := by
 have := visB_len h.a hf (h.i f hf) (i := f.imports.length)
 rwa [List.take_length] at this
def errF (fs : List Fil) (f : Fil) : Option (ByteArray × Int) := (err1 fs f).or (err2 fs f)
end Go.Proofs.Ythagpbkmakocjaa
