/-
  LinkOrders, in plain Lean: the order is the document's, and each file stands once, behind what it imports.
-/
import Derived.Test.YthagpbkmakocjaaLawO
import Derived.Test.YthagpbkmakocjaaBb
namespace Go.Proofs.Ythagpbkmakocjaa
open Go Go.Eng
set_option linter.all false
theorem order_L1_eq (files : List Fil) : ∀ (l : List Fil) i, M_link_order_L1 files l i = M_wireschemaref11_sorted_L1 files l i
  | [], _ => rfl
  | x :: l, i => by rw [M_link_order_L1, M_wireschemaref11_sorted_L1, fileAt_eq, order_L1_eq files l]
theorem order_L3_eq (files : List Fil) (e1 : Fil) : ∀ (l : List ByteArray), M_link_order_L3 files e1 l = M_wireschemaref11_sorted_L3 files e1 l
  | [] => rfl
  | x :: l => by rw [M_link_order_L3, M_wireschemaref11_sorted_L3, fileAt_eq, order_L3_eq files e1 l]
theorem order_L2_eq (files : List Fil) : ∀ (l : List Fil), M_link_order_L2 files l = M_wireschemaref11_sorted_L2 files l
  | [] => rfl
  | x :: l => by rw [M_link_order_L2, M_wireschemaref11_sorted_L2, order_L3_eq, order_L2_eq files l]
theorem sorted_L1_ge (files : List Fil) : ∀ (l : List Fil) (i : Nat), M_wireschemaref11_sorted_L1 files l i = .inl () → ∀ j (hj : j < l.length), ((i + j : Nat) : Int) ≤ M_wireschemaref11_file files l[j].name
  | [], _, _, j, hj => absurd hj (Nat.not_lt_zero _)
  | x :: l, i, h, j, hj => by
    rw [M_wireschemaref11_sorted_L1] at h
    cases hd : decide (M_wireschemaref11_file files x.name < ((i : Nat) : Int)) with
    | true => rw [hd] at h; cases h
    | false =>
      rw [hd, cond_false] at h
      cases j with
      | zero => have := of_decide_eq_false hd; simp only [List.getElem_cons_zero]; omega
      | succ j =>
        have := sorted_L1_ge files l (i + 1) h j (by simpa using hj)
        simp only [List.getElem_cons_succ]; omega
theorem file_first {files : List Fil} {i : Nat} (hi : i < files.length) : M_wireschemaref11_file files files[i].name ≤ (i : Int) := by
  rw [file_eq]
  cases h : files.findIdx? (fun x => decide (x.name = files[i].name)) with
  | none => have := List.findIdx?_eq_none_iff.1 h _ (List.getElem_mem hi); simp at this
  | some k =>
    obtain ⟨hk, hp, hl⟩ := List.findIdx?_eq_some_iff_getElem.1 h
    rcases Nat.lt_or_ge i k with h1 | h1
    · have := hl i h1; simp at this
    · simp only; omega
theorem dist_of {files : List Fil} (h : M_wireschemaref11_sorted_L1 files files 0 = .inl ()) : Dist files := fun i hi => by
  have h1 := sorted_L1_ge files files 0 h i hi
  have h2 := file_first hi
  rw [getD_at hi]
  omega
theorem sorted_L4_none (files : List Fil) : ∀ (l : List Fil) (i : Nat), (∀ j, i ≤ j → j < i + l.length → M_wireschemaref11_imports files j j = false) → M_wireschemaref11_sorted_L4 files l i = .inl ()
  | [], _, _ => rfl
  | x :: l, i, h => by
    rw [M_wireschemaref11_sorted_L4, h i (Nat.le_refl _) (by simp), cond_false]
    exact sorted_L4_none files l (i + 1) fun j h1 h2 => h j (by omega) (by simp; omega)
theorem sorted_L4_some (files : List Fil) {a : Nat} (ha : M_wireschemaref11_imports files a a = true) : ∀ (l : List Fil) (i : Nat), i ≤ a → a < i + l.length → ∃ q, M_wireschemaref11_sorted_L4 files l i = .inr ([], q, 19)
  | [], i, h1, h2 => absurd h2 (by simp; omega)
  | x :: l, i, h1, h2 => by
    rw [M_wireschemaref11_sorted_L4]
    cases hd : M_wireschemaref11_imports files i i with
    | true => exact ⟨_, rfl⟩
    | false =>
      have : i ≠ a := fun e => by rw [e, ha] at hd; cases hd
      exact sorted_L4_some files ha l (i + 1) (by omega) (by simp at h2; omega)
theorem link_L4 (files : List Fil) : ∀ (l : List Fil) (i : Nat), M_link_order_L4 files l i = .inl () ∨ ∃ q, M_link_order_L4 files l i = .inr ([], q, 19)
  | [], _ => .inl rfl
  | x :: l, i => by
    rw [M_link_order_L4]
    cases M_link_reaches files i with
    | true => exact .inr ⟨_, rfl⟩
    | false => exact link_L4 files l (i + 1)
/-- the order that there is -/
structure Ord (files : List Fil) (o : List Nat) : Prop where
  len : o.length = files.length
  top : Topo files o
  dst : Dist files
  fnd : Found files
theorem order_cases (files : List Fil) : (∃ e, e ≠ 0 ∧ M_link_Order files = ([], e) ∧ M_wireschemaref11_Order files = ([], e)) ∨ ∃ o, Ord files o ∧ M_link_Order files = (ints o, 0) ∧ M_wireschemaref11_Order files = (ints o, 0) := by
  unfold M_link_Order M_wireschemaref11_Order
  rw [M_link_order, M_wireschemaref11_sorted]
  cases hc : (decide (((files.length : Nat) : Int) < (1 : Int)) || decide ((16 : Int) < ((files.length : Nat) : Int))) with
  | true => exact .inl ⟨3, by decide, rfl, rfl⟩
  | false =>
    rw [cond_false, cond_false, order_L1_eq, order_L2_eq]
    cases h1 : M_wireschemaref11_sorted_L1 files files 0 with
    | inr v =>
      refine .inl ⟨9, by decide, ?_⟩
      have : ∀ (l : List Fil) i v, M_wireschemaref11_sorted_L1 files l i = .inr v → v.1 = [] ∧ v.2.2 = 9 := by
        intro l
        induction l with
        | nil => intro i v h; cases h
        | cons x l ih =>
          intro i v h
          rw [M_wireschemaref11_sorted_L1] at h
          cases hd : decide (M_wireschemaref11_file files x.name < ((i : Nat) : Int)) with
          | true => rw [hd] at h; cases h; exact ⟨rfl, rfl⟩
          | false => rw [hd] at h; exact ih _ _ h
      obtain ⟨e1, e2⟩ := this _ _ _ h1
      simp only [Sum.elim_inr, e1, e2, and_self]
    | inl u =>
      cases u
      rw [Sum.elim_inl, Sum.elim_inl]
      cases h2 : M_wireschemaref11_sorted_L2 files files with
      | inr v =>
        refine .inl ⟨10, by decide, ?_⟩
        have h3 : ∀ (f : Fil) (l : List ByteArray) v, M_wireschemaref11_sorted_L3 files f l = .inr v → v.1 = [] ∧ v.2.2 = 10 := by
          intro f l
          induction l with
          | nil => intro v h; cases h
          | cons x l ih =>
            intro v h
            rw [M_wireschemaref11_sorted_L3] at h
            cases hd : decide (M_wireschemaref11_file files x < (0 : Int)) with
            | true => rw [hd] at h; cases h; exact ⟨rfl, rfl⟩
            | false => rw [hd] at h; exact ih _ h
        have : ∀ (l : List Fil) v, M_wireschemaref11_sorted_L2 files l = .inr v → v.1 = [] ∧ v.2.2 = 10 := by
          intro l
          induction l with
          | nil => intro v h; cases h
          | cons x l ih =>
            intro v h
            rw [M_wireschemaref11_sorted_L2] at h
            cases hd : M_wireschemaref11_sorted_L3 files x x.imports with
            | inr w => rw [hd] at h; cases h; exact h3 _ _ _ hd
            | inl u => rw [hd] at h; exact ih _ h
        obtain ⟨e1, e2⟩ := this _ _ h2
        simp only [Sum.elim_inr, e1, e2, and_self]
      | inl u =>
        have hD := dist_of h1
        have hF := sorted_found h2
        rw [Sum.elim_inl, Sum.elim_inl, chosen_eq hD hF, ints_len]
        have hT := topo_itr files.length topo_nil (files := files)
        by_cases hl : (itr files files.length []).length = files.length
        · rw [decide_eq_true (by omega), cond_true, sorted_L4_none files files 0 fun j _ hj => no_cycle hF hT (by
            refine Classical.byContradiction fun hn => ?_
            have := pig1 files.length (itr files files.length [] ++ [j]) (by rw [List.nodup_append]; exact ⟨hT.nd, by simp, fun a ha b hb e => hn (by rw [List.mem_singleton] at hb; rw [← hb, ← e]; exact ha)⟩) (fun x hx => by
              rcases List.mem_append.1 hx with hx | hx
              · exact hT.lt x hx
              · rw [List.mem_singleton.1 hx]; omega)
            simp at this; omega)]
          obtain ⟨w, e⟩ := sorted_L5_eq hF (files.length - 0 + 1) 0 [] (by omega)
          have e0 : chr files.length [] = List.replicate files.length false := by
            unfold chr
            simp only [List.not_mem_nil, decide_false]
            rw [List.map_const']; simp
          have e' : M_wireschemaref11_sorted_L5 files (files.length - 0 + 1) [] 0 (List.replicate files.length false) = .inl (ints (itr files (files.length - 0) []), w) := by rw [← e0]; exact e
          rw [Sum.elim_inl, e', Sum.elim_inl]
          exact .inr ⟨_, ⟨hl, hT, hD, hF⟩, rfl, rfl⟩
        · rw [decide_eq_false (by omega), cond_false]
          have hn : nx files (itr files files.length []) = none := by
            rcases itr_len files.length [] (files := files) with h | h
            · exact absurd (by simpa using h) hl
            · exact h
          obtain ⟨a, ha, hi⟩ := cycle hF hT hn hl
          obtain ⟨q, e⟩ := sorted_L4_some files hi files 0 (Nat.zero_le _) (by omega)
          refine .inl ⟨19, by decide, ?_⟩
          rw [e]
          rcases link_L4 files files 0 with h | ⟨q', h⟩ <;> rw [h] <;> exact ⟨rfl, rfl⟩
theorem ints_L1 (b : List Int) : ∀ (l : List Int) (i : Nat), b.drop i = l → M_wireschemalaw11_ints_L1 b l i = .inl ()
  | [], _, _ => rfl
  | x :: l, i, h => by
    obtain ⟨h1, _, h3⟩ := drop_get h
    rw [M_wireschemalaw11_ints_L1, show b.getD i 0 = x from by rw [List.getD_eq_getElem?_getD, h1]; rfl]
    simp only [decide_true, Bool.not_true, cond_false]
    exact ints_L1 b l (i + 1) h3
theorem ints_same (a : List Int) : M_wireschemalaw11_ints a a = true := by
  rw [M_wireschemalaw11_ints, ints_L1 a a 0 rfl]; simp
theorem has_L (s : ByteArray) : ∀ (l : List ByteArray), (s ∈ l → M_wireschemalaw11_has_L1 s l = .inr true) ∧ (s ∉ l → M_wireschemalaw11_has_L1 s l = .inl ())
  | [] => ⟨fun h => (by cases h), fun _ => rfl⟩
  | x :: l => by
    obtain ⟨h1, h2⟩ := has_L s l
    rw [M_wireschemalaw11_has_L1]
    by_cases e : x = s
    · rw [decide_eq_true e, cond_true]
      exact ⟨fun _ => rfl, fun h => absurd (e ▸ List.mem_cons_self ..) h⟩
    · rw [decide_eq_false e, cond_false]
      exact ⟨fun h => h1 (by rcases List.mem_cons.1 h with h | h; exact absurd h.symm e; exact h), fun h => h2 fun h' => h (List.mem_cons_of_mem _ h')⟩
theorem has_t {l : List ByteArray} {s : ByteArray} (h : s ∈ l) : M_wireschemalaw11_has l s = true := by
  rw [M_wireschemalaw11_has, (has_L s l).1 h]; rfl
theorem has_f {l : List ByteArray} {s : ByteArray} (h : s ∉ l) : M_wireschemalaw11_has l s = false := by
  rw [M_wireschemalaw11_has, (has_L s l).2 h]; rfl
def nmOf (files : List Fil) (i : Nat) : ByteArray := (files.getD i zFil).name
theorem nm_inj {files : List Fil} (h : Dist files) {i j : Nat} (hi : i < files.length) (hj : j < files.length) (e : nmOf files i = nmOf files j) : i = j := by
  have h1 := h i hi
  have h2 := h j hj
  unfold nmOf at e
  rw [e] at h1
  omega
theorem file_nm {files : List Fil} {s : ByteArray} (h : 0 ≤ M_wireschemaref11_file files s) : nmOf files (M_wireschemaref11_file files s).toNat = s := by
  rw [file_eq] at h ⊢
  cases e : files.findIdx? (fun x => decide (x.name = s)) with
  | none => rw [e] at h; simp at h
  | some k =>
    obtain ⟨hk, hp, _⟩ := List.findIdx?_eq_some_iff_getElem.1 e
    simp only [Int.toNat_natCast]
    rw [nmOf, getD_at hk]
    exact of_decide_eq_true hp
theorem orders_L2 (v : List ByteArray) : ∀ (l : List ByteArray), (∀ s ∈ l, s ∈ v) → M_wireschemalaw11_LinkOrders_L2 v l = .inl ()
  | [], _ => rfl
  | x :: l, h => by
    rw [M_wireschemalaw11_LinkOrders_L2, has_t (h x (List.mem_cons_self ..))]
    exact orders_L2 v l fun s hs => h s (List.mem_cons_of_mem _ hs)
theorem orders_L1 {files : List Fil} {o : List Nat} (hO : Ord files o) : ∀ (l : List Nat) (k : Nat), o.drop k = l → M_wireschemalaw11_LinkOrders_L1 files (ints l) ((o.take k).map (nmOf files)) = .inl (o.map (nmOf files))
  | [], k, h => by
    have := drop_nil h
    rw [List.take_of_length_le this]; rfl
  | x :: l, k, h => by
    obtain ⟨h1, hk, h3⟩ := drop_get h
    have hx := hO.top.lt x (List.mem_of_getElem? h1)
    show M_wireschemalaw11_LinkOrders_L1 files ((x : Int) :: ints l) _ = _
    rw [M_wireschemalaw11_LinkOrders_L1, decide_eq_false (by omega : ¬ (x : Int) < 0), decide_eq_false (by omega : ¬ ((files.length : Nat) : Int) ≤ x), Int.toNat_natCast, has_f (fun hm => by
      obtain ⟨y, hy, e⟩ := List.mem_map.1 hm
      have hyo : y ∈ o := List.mem_of_mem_take hy
      have := nm_inj hO.dst (hO.top.lt y hyo) hx e
      subst this
      obtain ⟨q, hq⟩ := List.mem_iff_getElem?.1 hy
      have hqk : q < k := by
        rcases Nat.lt_or_ge q k with h1 | h1
        · exact h1
        · rw [List.getElem?_eq_none (by rw [List.length_take]; omega)] at hq; cases hq
      rw [List.getElem?_take_of_lt hqk] at hq
      refine List.pairwise_iff_getElem.1 hO.top.nd q k (List.getElem?_eq_some_iff.1 hq).1 hk hqk ?_
      rw [(List.getElem?_eq_some_iff.1 hq).2, (List.getElem?_eq_some_iff.1 h1).2]), orders_L2 _ _ (fun s hs => by
      refine List.mem_map.2 ⟨_, hO.top.bf k x h1 _ (List.mem_map.2 ⟨s, hs, rfl⟩), ?_⟩
      refine file_nm ?_
      have := file_nat hO.fnd hx hs
      omega)]
    simp only [Bool.or_false, cond_false, Sum.elim_inl]
    have e : (o.take k).map (nmOf files) ++ [(files.getD x zFil).name] = (o.take (k + 1)).map (nmOf files) := by
      rw [List.take_add_one, h1, List.map_append]; rfl
    rw [e]
    exact orders_L1 hO l (k + 1) h3
theorem LinkOrders_true (files : List Fil) : M_wireschemalaw11_LinkOrders files = true := by
  rw [M_wireschemalaw11_LinkOrders]
  rcases order_cases files with ⟨e, he, h1, h2⟩ | ⟨o, hO, h1, h2⟩
  · rw [h1, h2, ints_same, decide_eq_true rfl, decide_eq_false he]
    rfl
  · rw [h1, h2, ints_same, decide_eq_true rfl]
    have := orders_L1 hO o 0 rfl
    simp only [List.take_zero, List.map_nil] at this
    simp only [Bool.not_true, Bool.or_false, cond_false, this, Sum.elim_inl, ints_len, hO.len, decide_true, Bool.true_and, M_awake]
end Go.Proofs.Ythagpbkmakocjaa
