/-
  The order of files, in plain Lean: what the program chooses is what the document sorts; all are chosen if and only if no file imports itself.
-/
import Derived.Test.YthagpbkmakocjaaAf
namespace Go.Proofs.Ythagpbkmakocjaa
open Go Go.Eng
set_option linter.all false

/-! ### Counting -/
theorem pig1 : ∀ (n : Nat) (l : List Nat), l.Nodup → (∀ x ∈ l, x < n) → l.length ≤ n
  | 0, l, _, h => by
    cases l with
    | nil => exact Nat.le_refl _
    | cons x l => exact absurd (h x (List.mem_cons_self ..)) (Nat.not_lt_zero _)
  | n + 1, l, hn, h => by
    have := pig1 n (l.erase n) (hn.erase n) (fun x hx => by
      have h1 := (hn.mem_erase_iff).1 hx
      have := h x h1.2
      omega)
    have h2 := List.length_erase (a := n) (l := l)
    split at h2 <;> omega
theorem pig2 : ∀ (n : Nat) (l : List Nat), (∀ i, i < n → i ∈ l) → n ≤ l.length
  | 0, _, _ => Nat.zero_le _
  | n + 1, l, h => by
    have h1 := h n (Nat.lt_succ_self n)
    have := pig2 n (l.erase n) (fun i hi => (List.mem_erase_of_ne (by omega)).2 (h i (by omega)))
    rw [List.length_erase_of_mem h1] at this
    have := List.length_pos_of_mem h1
    omega
theorem pig3 (n : Nat) (s : Nat → Nat) (h : ∀ a, s a < n) : ∃ a b, a < b ∧ b ≤ n ∧ s a = s b := by
  refine Classical.byContradiction fun hc => ?_
  have hnd : ((List.range (n + 1)).map s).Nodup := by
    unfold List.Nodup
    rw [List.pairwise_map]
    exact List.Pairwise.imp_of_mem (fun {a b} ha hb hab => fun e => hc ⟨a, b, hab, by have := List.mem_range.1 hb; omega, e⟩) (List.pairwise_lt_range (n := n + 1))
  have := pig1 n _ hnd (fun x hx => by obtain ⟨a, _, rfl⟩ := List.mem_map.1 hx; exact h a)
  simp at this
  omega

/-! ### What is ready -/
def dp (files : List Fil) (i : Nat) : List Nat := (files.getD i zFil).imports.map fun s => (M_wireschemaref11_file files s).toNat
/-- the names are different ones -/
def Dist (files : List Fil) : Prop := ∀ i, i < files.length → M_wireschemaref11_file files (files.getD i zFil).name = (i : Int)
def rd (files : List Fil) (o : List Nat) (i : Nat) : Bool := !decide (i ∈ o) && (dp files i).all fun j => decide (j ∈ o)
def nx (files : List Fil) (o : List Nat) : Option Nat := (List.range files.length).find? (rd files o)
def stp (files : List Fil) (o : List Nat) : List Nat := match nx files o with | some k => o ++ [k] | none => o
def itr (files : List Fil) : Nat → List Nat → List Nat
  | 0, o => o
  | m + 1, o => itr files m (stp files o)
def ints (o : List Nat) : List Int := o.map fun (i : Nat) => (i : Int)
theorem mem_ints {o : List Nat} {i : Nat} : (i : Int) ∈ ints o ↔ i ∈ o := by
  unfold ints
  rw [List.mem_map]
  constructor
  · rintro ⟨j, hj, e⟩
    have : j = i := by omega
    exact this ▸ hj
  · exact fun h => ⟨i, h, rfl⟩
section
variable {files : List Fil}
theorem dp_lt (hF : Found files) {i j : Nat} (hi : i < files.length) (h : j ∈ dp files i) : j < files.length := by
  obtain ⟨s, hs, rfl⟩ := List.mem_map.1 h
  have e : files.getD i zFil = files[i] := by rw [List.getD_eq_getElem?_getD, List.getElem?_eq_getElem hi]; rfl
  rw [e] at hs
  have := hF _ (List.getElem_mem hi) s hs
  have := (file_lt files s).1
  omega
theorem file_nat (hF : Found files) {i : Nat} (hi : i < files.length) {s : ByteArray} (h : s ∈ (files.getD i zFil).imports) : M_wireschemaref11_file files s = ((M_wireschemaref11_file files s).toNat : Int) := by
  have e : files.getD i zFil = files[i] := by rw [List.getD_eq_getElem?_getD, List.getElem?_eq_getElem hi]; rfl
  rw [e] at h
  have := hF _ (List.getElem_mem hi) s h
  omega
theorem index_int_L (x : Int) : ∀ (l : List Int) (i : Nat), (x ∈ l → ∃ v, M_Index_int_L1 x l i = .inr v ∧ 0 ≤ v) ∧ (x ∉ l → M_Index_int_L1 x l i = .inl ())
  | [], i => ⟨fun h => by simp at h, fun _ => rfl⟩
  | y :: l, i => by
    rw [M_Index_int_L1]
    cases hd : decide (x = y) with
    | true =>
      have := of_decide_eq_true hd
      subst this
      exact ⟨fun _ => ⟨_, rfl, by omega⟩, fun h => absurd (List.mem_cons_self ..) h⟩
    | false =>
      have hne := of_decide_eq_false hd
      obtain ⟨h1, h2⟩ := index_int_L x l (i + 1)
      exact ⟨fun h => h1 (by simpa [hne] using h), fun h => h2 (by simpa [hne] using h)⟩
theorem contains_int (l : List Int) (x : Int) : M_Contains_int l x = decide (x ∈ l) := by
  rw [M_Contains_int, M_Index_int]
  obtain ⟨h1, h2⟩ := index_int_L x l 0
  by_cases h : x ∈ l
  · obtain ⟨v, e, hv⟩ := h1 h
    rw [e, Sum.elim_inr, decide_eq_true hv, decide_eq_true h]
  · rw [h2 h, Sum.elim_inl, decide_eq_false h]; rfl
theorem containsFunc_str (l : List ByteArray) (p : ByteArray → Bool) : M_ContainsFunc_str l p = l.any p := by
  rw [M_ContainsFunc_str, indexFunc_str]
  cases h : l.findIdx? p with
  | none =>
    have := List.findIdx?_eq_none_iff.1 h
    have h2 : l.any p = false := by
      rw [List.any_eq_false]
      intro x hx
      rw [this x hx]; simp
    rw [h2]; rfl
  | some k =>
    obtain ⟨hk, hp, _⟩ := List.findIdx?_eq_some_iff_getElem.1 h
    have h2 : l.any p = true := List.any_eq_true.2 ⟨_, List.getElem_mem hk, hp⟩
    rw [h2, decide_eq_true_eq]
    show (0 : Int) ≤ (k : Nat)
    omega
theorem getD_at {i : Nat} (hi : i < files.length) : files.getD i zFil = files[i] := by rw [List.getD_eq_getElem?_getD, List.getElem?_eq_getElem hi]; rfl
theorem chosen_rd (hD : Dist files) (hF : Found files) (o : List Nat) {i : Nat} (hi : i < files.length) : M_chosen_1 (files.getD i zFil) (ints o) files = rd files o i := by
  unfold M_chosen_1 rd
  rw [fileAt_eq, hD i hi, contains_int, containsFunc_str]
  by_cases h : i ∈ o
  · rw [decide_eq_true (mem_ints.2 h), decide_eq_true h]; rfl
  · rw [decide_eq_false (fun h' => h (mem_ints.1 h')), decide_eq_false h, cond_false, Bool.not_false, Bool.true_and]
    unfold dp
    rw [List.all_map, Bool.eq_iff_iff, Bool.not_eq_true', List.any_eq_false, List.all_eq_true]
    have key : ∀ s ∈ (files.getD i zFil).imports, M_chosen_1_1 s (ints o) files = !decide ((M_wireschemaref11_file files s).toNat ∈ o) := fun s hs => by
      rw [M_chosen_1_1, fileAt_eq, contains_int]
      congr 1
      rw [file_nat hF hi hs, decide_eq_decide]
      simp only [Int.toNat_natCast]
      exact mem_ints
    constructor
    · intro h s hs
      have := h s hs
      rw [key s hs] at this
      simpa using this
    · intro h s hs
      have := h s hs
      rw [key s hs]
      simpa using this
theorem nx_some {o : List Nat} {k : Nat} (h : nx files o = some k) : k < files.length ∧ rd files o k = true ∧ ∀ j, j < k → rd files o j = false := by
  unfold nx at h
  obtain ⟨h1, pre, bs, h2, h3⟩ := List.find?_eq_some_iff_append.1 h
  have hk := List.mem_of_find?_eq_some h
  refine ⟨List.mem_range.1 hk, h1, fun j hj => ?_⟩
  have hlen : pre.length = k := by
    have : (List.range files.length)[pre.length]? = some k := by rw [h2]; simp
    rw [List.getElem?_range (by
      have := congrArg List.length h2
      simp at this
      omega)] at this
    simpa using this
  have : j ∈ pre := by
    have h4 : (List.range files.length)[j]? = some j := by
      have := List.mem_range.1 hk
      rw [List.getElem?_range (by omega)]
    rw [h2, List.getElem?_append_left (by omega)] at h4
    exact List.mem_of_getElem? h4
  have := h3 j this
  simpa using this
theorem nx_none {o : List Nat} (h : nx files o = none) : ∀ j, j < files.length → rd files o j = false := fun j hj => by
  have := List.find?_eq_none.1 h j (List.mem_range.2 hj)
  simpa using this
theorem nx_of {o : List Nat} {k : Nat} (hk : k < files.length) (h : rd files o k = true) (hl : ∀ j, j < k → rd files o j = false) : nx files o = some k := by
  cases e : nx files o with
  | none => rw [nx_none e k hk] at h; cases h
  | some q =>
    obtain ⟨h1, h2, h3⟩ := nx_some e
    rcases Nat.lt_trichotomy q k with h4 | h4 | h4
    · rw [hl q h4] at h2; cases h2
    · rw [h4]
    · rw [h3 k h4] at h; cases h
theorem nx_of_none {o : List Nat} (h : ∀ j, j < files.length → rd files o j = false) : nx files o = none := by
  cases e : nx files o with
  | none => rfl
  | some q =>
    obtain ⟨h1, h2, h3⟩ := nx_some e
    rw [h q h1] at h2; cases h2
/-- the program's next file -/
theorem next_eq (hD : Dist files) (hF : Found files) (o : List Nat) : M_IndexFunc_Fil files (fun z => M_chosen_1 z (ints o) files) = (match nx files o with | some k => (k : Int) | none => -1) := by
  rw [indexFunc_Fil]
  have key : ∀ i (hi : i < files.length), M_chosen_1 files[i] (ints o) files = rd files o i := fun i hi => by rw [← chosen_rd hD hF o hi, getD_at hi]
  cases h : files.findIdx? (fun z => M_chosen_1 z (ints o) files) with
  | none =>
    have := List.findIdx?_eq_none_iff.1 h
    rw [nx_of_none fun j hj => by rw [← key j hj]; exact this _ (List.getElem_mem hj)]
  | some k =>
    obtain ⟨hk, hp, hl⟩ := List.findIdx?_eq_some_iff_getElem.1 h
    rw [nx_of hk (by rw [← key k hk]; exact hp) fun j hj => by
      have := hl j hj
      rw [key j (by omega)] at this
      simpa using this]
theorem ints_snoc (o : List Nat) (k : Nat) : ints o ++ [(k : Int)] = ints (o ++ [k]) := by simp [ints]
theorem ints_len (o : List Nat) : (ints o).length = o.length := by simp [ints]
theorem itr_none {o : List Nat} (h : nx files o = none) : ∀ m, itr files m o = o
  | 0 => rfl
  | m + 1 => by rw [itr, stp, h]; exact itr_none h m
theorem chosen_L (hD : Dist files) (hF : Found files) : ∀ (fu : Nat) (o : List Nat), files.length - o.length < fu → o.length ≤ files.length →
    Sum.elim (fun a0 => a0) (fun v => v) (M_link_chosen_L1 files fu (ints o)) = ints (itr files (files.length - o.length) o)
  | 0, o, h, _ => absurd h (Nat.not_lt_zero _)
  | fu + 1, o, h, hl => by
    rw [M_link_chosen_L1, ints_len, next_eq hD hF o]
    rcases Nat.lt_or_ge o.length files.length with h1 | h1
    · rw [decide_eq_true (by omega), cond_true]
      cases hn : nx files o with
      | none =>
        simp only
        rw [itr_none hn]
        rfl
      | some k =>
        simp only
        rw [decide_eq_false (by omega), cond_false, ints_snoc, chosen_L hD hF fu (o ++ [k]) (by simp; omega) (by simp; omega)]
        congr 1
        have e : files.length - o.length = (files.length - (o ++ [k]).length) + 1 := by simp; omega
        rw [e, itr, stp, hn]
    · rw [decide_eq_false (by omega), cond_false]
      have : files.length - o.length = 0 := by omega
      rw [this]
      rfl
theorem chosen_eq (hD : Dist files) (hF : Found files) : M_link_chosen files = ints (itr files files.length []) := by
  rw [M_link_chosen]
  exact chosen_L hD hF _ [] (by simp) (Nat.zero_le _)

/-! ### The document's order -/
def chr (n : Nat) (o : List Nat) : List Bool := (List.range n).map fun j => decide (j ∈ o)
theorem chr_at {n : Nat} {o : List Nat} {j : Nat} (hj : j < n) : (chr n o).getD j false = decide (j ∈ o) := by
  unfold chr
  rw [List.getD_eq_getElem?_getD, List.getElem?_map, List.getElem?_range hj]
  rfl
theorem chr_set {n : Nat} {o : List Nat} {k : Nat} : (chr n o).set k true = chr n (o ++ [k]) := by
  refine List.ext_getElem? fun j => ?_
  unfold chr
  rw [List.getElem?_set]
  simp only [List.length_map, List.length_range, List.getElem?_map]
  by_cases hjk : k = j
  · subst hjk
    rcases Nat.lt_or_ge k n with h | h
    · simp [h, List.getElem?_range]
    · simp [h]
  · rw [if_neg hjk]
    rcases Nat.lt_or_ge j n with h | h
    · simp [List.getElem?_range h, Ne.symm hjk]
    · simp [h]
theorem sorted_L7_eq (hF : Found files) {o : List Nat} {i : Nat} (hi : i < files.length) : ∀ (l : List ByteArray), (∀ s ∈ l, s ∈ (files.getD i zFil).imports) → ∀ b : Bool, M_wireschemaref11_sorted_L7 files (chr files.length o) l b = .inl (b && l.all fun s => decide ((M_wireschemaref11_file files s).toNat ∈ o))
  | [], _, b => by simp [M_wireschemaref11_sorted_L7]
  | s :: l, h, b => by
    have hs := h s (List.mem_cons_self ..)
    rw [M_wireschemaref11_sorted_L7, sorted_L7_eq hF hi l (fun s hs => h s (List.mem_cons_of_mem _ hs)), chr_at (dp_lt hF hi (List.mem_map.2 ⟨s, hs, rfl⟩)), List.all_cons, Bool.and_assoc]
theorem sorted_L6_eq (hF : Found files) (o : List Nat) : ∀ (fu i : Nat), files.length - i < fu → (∀ j, j < i → rd files o j = false) →
    ∃ w, M_wireschemaref11_sorted_L6 files fu (ints o) i (chr files.length o) = .inl (ints (stp files o), w, chr files.length (stp files o))
  | 0, i, h, _ => absurd h (Nat.not_lt_zero _)
  | fu + 1, i, h, hl => by
    rw [M_wireschemaref11_sorted_L6]
    rcases Nat.lt_or_ge i files.length with h1 | h1
    · rw [decide_eq_true (by omega), cond_true, sorted_L7_eq hF h1 _ (fun s hs => hs), chr_at h1, Sum.elim_inl]
      have e : (!decide (i ∈ o) && (files.getD i zFil).imports.all fun s => decide ((M_wireschemaref11_file files s).toNat ∈ o)) = rd files o i := by
        unfold rd dp; rw [List.all_map]; rfl
      rw [e]
      cases hr : rd files o i with
      | true =>
        rw [cond_true, stp, nx_of h1 hr hl, ints_snoc, chr_set]
        exact ⟨_, rfl⟩
      | false =>
        rw [cond_false]
        exact sorted_L6_eq hF o fu (i + 1) (by omega) fun j hj => by
          rcases Nat.lt_or_ge j i with h2 | h2
          · exact hl j h2
          · rw [show j = i from by omega]; exact hr
    · rw [decide_eq_false (by omega), cond_false, stp, nx_of_none fun j hj => hl j (by omega)]
      exact ⟨_, rfl⟩
theorem sorted_L5_eq (hF : Found files) : ∀ (fu r : Nat) (o : List Nat), files.length - r < fu →
    ∃ w, M_wireschemaref11_sorted_L5 files fu (ints o) r (chr files.length o) = .inl (ints (itr files (files.length - r) o), w)
  | 0, r, o, h => absurd h (Nat.not_lt_zero _)
  | fu + 1, r, o, h => by
    rw [M_wireschemaref11_sorted_L5]
    rcases Nat.lt_or_ge r files.length with h1 | h1
    · rw [decide_eq_true (by omega), cond_true]
      obtain ⟨w, e⟩ := sorted_L6_eq hF o (files.length - 0 + 1) 0 (by omega) (fun j hj => absurd hj (Nat.not_lt_zero _))
      rw [e, Sum.elim_inl]
      obtain ⟨w', e'⟩ := sorted_L5_eq hF fu (r + 1) (stp files o) (by omega)
      simp only
      rw [e']
      refine ⟨w', ?_⟩
      have e2 : files.length - r = (files.length - (r + 1)) + 1 := by omega
      rw [e2, itr]
    · rw [decide_eq_false (by omega), cond_false]
      have : files.length - r = 0 := by omega
      rw [this]
      exact ⟨_, rfl⟩

/-! ### What has been chosen stands behind what it imports -/
structure Topo (files : List Fil) (o : List Nat) : Prop where
  nd : o.Nodup
  lt : ∀ x ∈ o, x < files.length
  bf : ∀ k x, o[k]? = some x → ∀ j ∈ dp files x, j ∈ o.take k
theorem topo_nil : Topo files [] := ⟨List.nodup_nil, fun x hx => (by cases hx), fun k x h => (by simp at h)⟩
theorem topo_stp {o : List Nat} (h : Topo files o) : Topo files (stp files o) := by
  unfold stp
  cases hn : nx files o with
  | none => exact h
  | some k =>
    obtain ⟨h1, h2, _⟩ := nx_some hn
    unfold rd at h2
    rw [Bool.and_eq_true, Bool.not_eq_true', decide_eq_false_iff_not, List.all_eq_true] at h2
    obtain ⟨h3, h4⟩ := h2
    refine ⟨?_, fun x hx => ?_, fun q x hq j hj => ?_⟩
    · rw [List.nodup_append]
      exact ⟨h.nd, by simp, fun a ha b hb e => h3 (by rw [List.mem_singleton] at hb; rw [← hb, ← e]; exact ha)⟩
    · rcases List.mem_append.1 hx with hx | hx
      · exact h.lt x hx
      · rw [List.mem_singleton.1 hx]; exact h1
    · rcases Nat.lt_or_ge q o.length with hlt | hge
      · rw [List.getElem?_append_left hlt] at hq
        rw [List.take_append_of_le_length (by omega)]
        exact h.bf q x hq j hj
      · have hq2 : q = o.length ∧ k = x := by
          rw [List.getElem?_append_right hge] at hq
          cases hd : q - o.length with
          | zero => rw [hd] at hq; simp at hq; exact ⟨by omega, hq⟩
          | succ m => rw [hd] at hq; simp at hq
        obtain ⟨rfl, rfl⟩ := hq2
        rw [List.take_append_of_le_length (Nat.le_refl _), List.take_length]
        exact of_decide_eq_true (h4 j hj)
theorem topo_itr : ∀ (m : Nat) {o : List Nat}, Topo files o → Topo files (itr files m o)
  | 0, _, h => h
  | m + 1, _, h => topo_itr m (topo_stp h)
theorem itr_len : ∀ (m : Nat) (o : List Nat), (itr files m o).length = o.length + m ∨ nx files (itr files m o) = none
  | 0, o => .inl rfl
  | m + 1, o => by
    rw [itr]
    cases hn : nx files o with
    | none => rw [stp, hn, itr_none hn]; exact .inr hn
    | some k =>
      rcases itr_len m (stp files o) with h | h
      · refine .inl ?_
        rw [h, stp, hn]
        simp; omega
      · exact .inr h

/-! ### What a file imports, directly or not -/
/-- all marks that this one has -/
def Mk (n : Nat) (s : List Bool) : Prop := s.length = n
theorem getD_set {s : List Bool} {k x : Nat} (hk : k < s.length) : (s.set k true).getD x false = true ↔ s.getD x false = true ∨ x = k := by
  rw [List.getD_eq_getElem?_getD, List.getD_eq_getElem?_getD, List.getElem?_set]
  by_cases h : k = x
  · subst h; simp [hk]
  · rw [if_neg h]
    constructor
    · exact fun e => .inl e
    · rintro (e | e)
      · exact e
      · exact absurd e.symm h
theorem imp_L1 (hF : Found files) {a : Nat} (ha : a < files.length) : ∀ (fu v : Nat) (s : List Bool), (files.getD a zFil).imports.length - v < fu → s.length = files.length →
    ∃ w s', M_wireschemaref11_imports_L1 files a fu v s = .inl (w, s') ∧ s'.length = files.length ∧ ∀ x, s'.getD x false = true ↔ s.getD x false = true ∨ x ∈ (dp files a).drop v
  | 0, v, s, h, _ => absurd h (Nat.not_lt_zero _)
  | fu + 1, v, s, h, hs => by
    rw [M_wireschemaref11_imports_L1]
    rcases Nat.lt_or_ge v (files.getD a zFil).imports.length with h1 | h1
    · rw [decide_eq_true (by omega), cond_true]
      have hv : v < (dp files a).length := by unfold dp; simpa using h1
      have he : (dp files a)[v] = (M_wireschemaref11_file files ((files.getD a zFil).imports.getD v ⟨#[]⟩)).toNat := by
        have e1 : (dp files a)[v] = (M_wireschemaref11_file files (files.getD a zFil).imports[v]).toNat := List.getElem_map _
        have e2 : (files.getD a zFil).imports.getD v ⟨#[]⟩ = (files.getD a zFil).imports[v] := by
          generalize (files.getD a zFil).imports = l at h1
          rw [List.getD_eq_getElem?_getD, List.getElem?_eq_getElem h1]; rfl
        rw [e1, e2]
      have hk : (M_wireschemaref11_file files ((files.getD a zFil).imports.getD v ⟨#[]⟩)).toNat < s.length := by
        rw [hs, ← he]; exact dp_lt hF ha (List.getElem_mem hv)
      obtain ⟨w, s', e1, e2, e3⟩ := imp_L1 hF ha fu (v + 1) (s.set (M_wireschemaref11_file files ((files.getD a zFil).imports.getD v ⟨#[]⟩)).toNat true) (by omega) (by simpa using hs)
      refine ⟨w, s', e1, e2, fun x => ?_⟩
      rw [e3, getD_set hk, List.drop_eq_getElem_cons hv, List.mem_cons, he]
      constructor
      · rintro ((h | h) | h)
        · exact .inl h
        · exact .inr (.inl h)
        · exact .inr (.inr h)
      · rintro (h | h | h)
        · exact .inl (.inl h)
        · exact .inl (.inr h)
        · exact .inr h
    · rw [decide_eq_false (by omega), cond_false]
      refine ⟨_, _, rfl, hs, fun x => ?_⟩
      rw [List.drop_eq_nil_of_le (by unfold dp; simpa using h1)]
      simp
theorem imp_L4 (a : Nat) : ∀ (fu v : Nat) (s : List Bool), M_wireschemaref11_imports_L4 files a fu v s = M_wireschemaref11_imports_L1 files a fu v s
  | 0, _, _ => rfl
  | fu + 1, v, s => by rw [M_wireschemaref11_imports_L4, M_wireschemaref11_imports_L1, imp_L4 a fu]
def Clo (files : List Fil) (Q : Nat → Prop) : Prop := ∀ x, x < files.length → Q x → ∀ j ∈ dp files x, Q j
theorem imp_L3 (hF : Found files) : ∀ (fu v : Nat) (s : List Bool), files.length - v < fu → s.length = files.length →
    ∃ w s', M_wireschemaref11_imports_L3 files fu v s = .inl (w, s') ∧ s'.length = files.length ∧ (∀ x, s.getD x false = true → s'.getD x false = true) ∧
      (∀ x, v ≤ x → x < files.length → s.getD x false = true → ∀ j ∈ dp files x, s'.getD j false = true) ∧
      ∀ Q, Clo files Q → (∀ x, s.getD x false = true → Q x) → ∀ x, s'.getD x false = true → Q x
  | 0, v, s, h, _ => absurd h (Nat.not_lt_zero _)
  | fu + 1, v, s, h, hs => by
    rw [M_wireschemaref11_imports_L3]
    rcases Nat.lt_or_ge v files.length with h1 | h1
    · rw [decide_eq_true (by omega), cond_true]
      cases hb : s.getD v false with
      | false =>
        rw [Bool.not_false, cond_true]
        obtain ⟨w, s', e1, e2, e3, e4, e5⟩ := imp_L3 hF fu (v + 1) s (by omega) hs
        refine ⟨w, s', e1, e2, e3, fun x hx => ?_, e5⟩
        rcases Nat.lt_or_ge v x with h2 | h2
        · exact e4 x h2
        · intro _ hx2
          rw [show x = v from by omega, hb] at hx2
          cases hx2
      | true =>
        rw [Bool.not_true, cond_false, imp_L4]
        obtain ⟨w, s', e1, e2, e3⟩ := imp_L1 hF h1 ((files.getD v zFil).imports.length - 0 + 1) 0 s (by omega) hs
        rw [e1, Sum.elim_inl]
        obtain ⟨w', s'', f1, f2, f3, f4, f5⟩ := imp_L3 hF fu (v + 1) s' (by omega) e2
        refine ⟨w', s'', f1, f2, fun x hx => f3 x ((e3 x).2 (.inl hx)), fun x hx hx1 hx2 j hj => ?_, fun Q hQ hq x hx => ?_⟩
        · rcases Nat.lt_or_ge v x with h2 | h2
          · exact f4 x h2 hx1 ((e3 x).2 (.inl hx2)) j hj
          · rw [show x = v from by omega] at hj
            exact f3 j ((e3 j).2 (.inr hj))
        · refine f5 Q hQ (fun y hy => ?_) x hx
          rcases (e3 y).1 hy with hy | hy
          · exact hq y hy
          · exact hQ v h1 (hq v hb) y hy
    · rw [decide_eq_false (by omega), cond_false]
      exact ⟨_, _, rfl, hs, fun x hx => hx, fun x h2 h3 => absurd h3 (by omega), fun Q _ hq => hq⟩
theorem imp_L2 (hF : Found files) : ∀ (fu v : Nat) (s : List Bool), files.length - v < fu → s.length = files.length →
    ∃ w s', M_wireschemaref11_imports_L2 files fu v s = .inl (w, s') ∧ (∀ x, s.getD x false = true → s'.getD x false = true) ∧
      (∀ (m : Nat) (p : Nat → Nat), m ≤ files.length - v → (∀ k, p k < files.length) → s.getD (p 0) false = true → (∀ k, k < m → p (k + 1) ∈ dp files (p k)) → s'.getD (p m) false = true) ∧
      ∀ Q, Clo files Q → (∀ x, s.getD x false = true → Q x) → ∀ x, s'.getD x false = true → Q x
  | 0, v, s, h, _ => absurd h (Nat.not_lt_zero _)
  | fu + 1, v, s, h, hs => by
    rw [M_wireschemaref11_imports_L2]
    rcases Nat.lt_or_ge v files.length with h1 | h1
    · rw [decide_eq_true (by omega), cond_true]
      obtain ⟨w, s', e1, e2, e3, e4, e5⟩ := imp_L3 hF (files.length - 0 + 1) 0 s (by omega) hs
      rw [e1, Sum.elim_inl]
      obtain ⟨w', s'', f1, f3, f4, f5⟩ := imp_L2 hF fu (v + 1) s' (by omega) e2
      refine ⟨w', s'', f1, fun x hx => f3 x (e3 x hx), fun m p hm hp h0 hc => ?_, fun Q hQ hq => f5 Q hQ (e5 Q hQ hq)⟩
      cases m with
      | zero => exact f3 _ (e3 _ h0)
      | succ m => exact f4 m (fun k => p (k + 1)) (by omega) (fun k => hp _) (e4 (p 0) (Nat.zero_le _) (hp 0) h0 _ (hc 0 (Nat.succ_pos m))) fun k hk => hc (k + 1) (by omega)
    · rw [decide_eq_false (by omega), cond_false]
      refine ⟨_, _, rfl, fun x hx => hx, fun m p hm hp h0 hc => ?_, fun Q _ hq => hq⟩
      have : m = 0 := by omega
      subst this
      exact h0
theorem imp_law (hF : Found files) {a : Nat} (ha : a < files.length) :
    (∀ (m : Nat) (p : Nat → Nat), m ≤ files.length → (∀ k, p k < files.length) → p 0 ∈ dp files a → (∀ k, k < m → p (k + 1) ∈ dp files (p k)) → ∀ b, b = p m → M_wireschemaref11_imports files a b = true) ∧
      ∀ Q, Clo files Q → (∀ x ∈ dp files a, Q x) → ∀ b, M_wireschemaref11_imports files a b = true → Q b := by
  obtain ⟨w, s, e1, e2, e3⟩ := imp_L1 hF ha ((files.getD a zFil).imports.length - 0 + 1) 0 (List.replicate files.length false) (by omega) (by simp)
  obtain ⟨w', s', f1, f3, f4, f5⟩ := imp_L2 hF (files.length - 0 + 1) 0 s (by omega) e2
  have hz : ∀ x, (List.replicate files.length false).getD x false = false := fun x => by
    rw [List.getD_eq_getElem?_getD, List.getElem?_replicate]; split <;> rfl
  have hs : ∀ x, s.getD x false = true ↔ x ∈ dp files a := fun x => by rw [e3, hz, List.drop_zero]; simp
  have hi : ∀ b, M_wireschemaref11_imports files a b = s'.getD b false := fun b => by rw [M_wireschemaref11_imports, e1, Sum.elim_inl, f1, Sum.elim_inl]
  refine ⟨fun m p hm hp h0 hc b hb => ?_, fun Q hQ hq b hb => ?_⟩
  · rw [hi, hb]; exact f4 m p (by omega) hp ((hs _).2 h0) hc
  · rw [hi] at hb
    exact f5 Q hQ (fun x hx => hq x ((hs x).1 hx)) b hb

/-- all are chosen: nothing imports itself -/
theorem no_cycle (hF : Found files) {o : List Nat} (h : Topo files o) {a : Nat} (ha : a ∈ o) : M_wireschemaref11_imports files a a = false := by
  obtain ⟨k, hk⟩ := List.mem_iff_getElem?.1 ha
  cases hi : M_wireschemaref11_imports files a a with
  | false => rfl
  | true =>
    exfalso
    have hlt := h.lt a ha
    have := (imp_law hF hlt).2 (fun x => x ∈ o.take k) (fun x hx hq j hj => by
      obtain ⟨q, hq⟩ := List.mem_iff_getElem?.1 hq
      have hqk : q < k := by
        rcases Nat.lt_or_ge q k with h1 | h1
        · exact h1
        · rw [List.getElem?_eq_none (by rw [List.length_take]; omega)] at hq; cases hq
      rw [List.getElem?_take_of_lt hqk] at hq
      have := h.bf q x hq j hj
      exact (List.take_sublist_take_left (Nat.le_of_lt hqk)).subset this) (h.bf k a hk) a hi
    obtain ⟨q, hq⟩ := List.mem_iff_getElem?.1 this
    have hqk : q < k := by
      rcases Nat.lt_or_ge q k with h1 | h1
      · exact h1
      · rw [List.getElem?_eq_none (by rw [List.length_take]; omega)] at hq; cases hq
    rw [List.getElem?_take_of_lt hqk] at hq
    have hnd := h.nd
    have hql : q < o.length := (List.getElem?_eq_some_iff.1 hq).1
    have hkl : k < o.length := (List.getElem?_eq_some_iff.1 hk).1
    refine List.pairwise_iff_getElem.1 hnd q k hql hkl hqk ?_
    have e1 := (List.getElem?_eq_some_iff.1 hq).2
    have e2 := (List.getElem?_eq_some_iff.1 hk).2
    rw [e1, e2]
/-- not all are chosen: something imports itself -/
theorem cycle (hF : Found files) {o : List Nat} (h : Topo files o) (hn : nx files o = none) (hl : o.length ≠ files.length) : ∃ a, a < files.length ∧ M_wireschemaref11_imports files a a = true := by
  have h0 : ∃ i, i < files.length ∧ i ∉ o := Classical.byContradiction fun hc => hl (Nat.le_antisymm (pig1 _ o h.nd h.lt) (pig2 _ o fun i hi => Classical.byContradiction fun hi' => hc ⟨i, hi, hi'⟩))
  have hstep : ∀ x, x < files.length ∧ x ∉ o → ∃ y, (y < files.length ∧ y ∉ o) ∧ y ∈ dp files x := fun x ⟨hx, hxo⟩ => by
    have := nx_none hn x hx
    unfold rd at this
    rw [decide_eq_false hxo, Bool.not_false, Bool.true_and, List.all_eq_false] at this
    obtain ⟨y, hy, hyo⟩ := this
    exact ⟨y, ⟨dp_lt hF hx hy, by simpa using hyo⟩, hy⟩
  obtain ⟨i0, hi0⟩ := h0
  let S := { x : Nat // x < files.length ∧ x ∉ o }
  let nxt : S → S := fun x => ⟨Classical.choose (hstep x.1 x.2), (Classical.choose_spec (hstep x.1 x.2)).1⟩
  have hnxt : ∀ x : S, (nxt x).1 ∈ dp files x.1 := fun x => (Classical.choose_spec (hstep x.1 x.2)).2
  let s : Nat → S := fun k => Nat.rec ⟨i0, hi0⟩ (fun _ x => nxt x) k
  have hs : ∀ k, (s (k + 1)).1 ∈ dp files (s k).1 := fun k => hnxt (s k)
  obtain ⟨a, b, hab, hb, e⟩ := pig3 files.length (fun k => (s k).1) (fun k => (s k).2.1)
  refine ⟨(s a).1, (s a).2.1, (imp_law hF (s a).2.1).1 (b - a - 1) (fun k => (s (a + 1 + k)).1) (by omega) (fun k => (s _).2.1) (hs a) (fun k _ => hs _) _ ?_⟩
  show _ = (s (a + 1 + (b - a - 1))).1
  rw [show a + 1 + (b - a - 1) = b from by omega]
  exact e
end
end Go.Proofs.Ythagpbkmakocjaa
