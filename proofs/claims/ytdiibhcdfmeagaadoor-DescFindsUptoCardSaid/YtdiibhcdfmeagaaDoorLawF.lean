/-
  Law of the models: what is in a schema is found by its name and by its number.
-/
import Derived.Test.YtdiibhcdfmeagaaDoorLb
import Derived.Test.YtdiibhcdfmeagaaDoorLaw
namespace Go.Proofs.YtdiibhcdfmeagaaDoor
set_option linter.all false
open Go Go.Eng
theorem scan_L {β : Type} (L : List Nat → Nat → Bool → Bool ⊕ β) (g : Nat → Bool) (h0 : ∀ i v, L [] i v = .inl v) (h1 : ∀ x s i v, L (x :: s) i v = L s (i + 1) (v && g i)) :
    ∀ (suf : List Nat) (i : Nat) (v : Bool), ∃ b, L suf i v = .inl b ∧ (b = true → v = true ∧ ∀ k, i ≤ k → k < i + suf.length → g k = true)
  | [], i, v => ⟨v, h0 i v, fun h => ⟨h, fun k h1 h2 => by simp at h2; omega⟩⟩
  | x :: suf, i, v => by
    obtain ⟨b, e, h⟩ := scan_L L g h0 h1 suf (i + 1) (v && g i)
    refine ⟨b, by rw [h1, e], fun hb => ?_⟩
    obtain ⟨h2, h3⟩ := h hb
    rw [Bool.and_eq_true] at h2
    refine ⟨h2.1, fun k hk hl => ?_⟩
    rcases Nat.eq_or_lt_of_le hk with rfl | hk
    · exact h2.2
    · exact h3 k hk (by simp only [List.length_cons] at hl; omega)
theorem scan_L2 {β : Type} (L : List Nat → Nat → Bool → Bool → (Bool × Bool) ⊕ β) (g g' : Nat → Bool) (h0 : ∀ i v w, L [] i v w = .inl (v, w)) (h1 : ∀ x s i v w, L (x :: s) i v w = L s (i + 1) (v && g i) (w && g' i)) :
    ∀ (suf : List Nat) (i : Nat) (v w : Bool), ∃ b c, L suf i v w = .inl (b, c) ∧ (b = true → v = true ∧ ∀ k, i ≤ k → k < i + suf.length → g k = true) ∧ (c = true → w = true ∧ ∀ k, i ≤ k → k < i + suf.length → g' k = true)
  | [], i, v, w => ⟨v, w, h0 i v w, fun h => ⟨h, fun k h1 h2 => by simp at h2; omega⟩, fun h => ⟨h, fun k h1 h2 => by simp at h2; omega⟩⟩
  | x :: suf, i, v, w => by
    obtain ⟨b, c, e, h, h'⟩ := scan_L2 L g g' h0 h1 suf (i + 1) (v && g i) (w && g' i)
    refine ⟨b, c, by rw [h1, e], fun hb => ?_, fun hb => ?_⟩
    · obtain ⟨h2, h3⟩ := h hb
      rw [Bool.and_eq_true] at h2
      refine ⟨h2.1, fun k hk hl => ?_⟩
      rcases Nat.eq_or_lt_of_le hk with rfl | hk
      · exact h2.2
      · exact h3 k hk (by simp only [List.length_cons] at hl; omega)
    · obtain ⟨h2, h3⟩ := h' hb
      rw [Bool.and_eq_true] at h2
      refine ⟨h2.1, fun k hk hl => ?_⟩
      rcases Nat.eq_or_lt_of_le hk with rfl | hk
      · exact h2.2
      · exact h3 k hk (by simp only [List.length_cons] at hl; omega)
theorem find_at {α : Type} {p : α → Bool} {z : α} : ∀ {l : List α} {i : Nat} {m : α}, l[i]? = some m → p m = true → ∃ x, l.find? p = some x ∧ p x = true ∧ ((∀ k, k < i → p (l.getD k z) = false) → x = m)
  | [], i, m, h, _ => by simp at h
  | y :: l, i, m, h, hp => by
    rw [List.find?_cons]
    cases hy : p y with
    | true =>
      refine ⟨y, rfl, hy, fun hk => ?_⟩
      cases i with
      | zero => simpa using h
      | succ i => have := hk 0 (by omega); simp at this; rw [this] at hy; cases hy
    | false =>
      cases i with
      | zero => simp at h; subst h; rw [hp] at hy; cases hy
      | succ i =>
        obtain ⟨x, h1, h2, h3⟩ := find_at (p := p) (z := z) (l := l) (i := i) (by simpa using h) hp
        exact ⟨x, h1, h2, fun hk => h3 fun k hki => by have := hk (k + 1) (by omega); simpa using this⟩
theorem finds_message {s : Scm} {i : Nat} {m : Msg} (h : s.messages[i]? = some m) : ∃ x, M_desc_Message s m.name = (x, true) ∧ x.name = m.name ∧ ((∀ k, k < i → (!decide ((s.messages.getD k zMsg).name = m.name)) = true) → x = m) := by
  obtain ⟨x, h1, h2, h3⟩ := find_at (p := fun z => M_desc_Message_1 z m.name) (z := zMsg) h (by simp [M_desc_Message_1])
  refine ⟨x, by rw [M_desc_Message, pair_eta, first_Msg, h1]; rfl, by simpa [M_desc_Message_1] using h2, fun hk => h3 fun k hki => ?_⟩
  have := hk k hki
  simpa [M_desc_Message_1] using this
theorem finds_enum {s : Scm} {i : Nat} {m : Enm} (h : s.enums[i]? = some m) : ∃ x, M_desc_Enum s m.name = (x, true) ∧ x.name = m.name ∧ ((∀ k, k < i → (!decide ((s.enums.getD k zEnm).name = m.name)) = true) → x = m) := by
  obtain ⟨x, h1, h2, h3⟩ := find_at (p := fun z => M_desc_Enum_1 z m.name) (z := zEnm) h (by simp [M_desc_Enum_1])
  refine ⟨x, by rw [M_desc_Enum, pair_eta, first_Enm, h1]; rfl, by simpa [M_desc_Enum_1] using h2, fun hk => h3 fun k hki => ?_⟩
  have := hk k hki
  simpa [M_desc_Enum_1] using this
theorem finds_field {m : Msg} {i : Nat} {f : Fld} (h : m.fields[i]? = some f) : ∃ x, M_desc_Field m f.num = (x, true) ∧ ((∀ k, k < i → (!decide ((m.fields.getD k zFld).num = f.num)) = true) → x = f) := by
  obtain ⟨x, h1, h2, h3⟩ := find_at (p := fun z => M_desc_Field_1 z f.num) (z := zFld) h (by simp [M_desc_Field_1])
  refine ⟨x, by rw [M_desc_Field, pair_eta, first_Fld, h1]; rfl, fun hk => h3 fun k hki => ?_⟩
  have := hk k hki
  simpa [M_desc_Field_1] using this
theorem finds_fieldNamed {m : Msg} {i : Nat} {f : Fld} (h : m.fields[i]? = some f) : ∃ x, M_desc_FieldNamed m f.name = (x, true) ∧ ((∀ k, k < i → (!decide ((m.fields.getD k zFld).name = f.name)) = true) → x = f) := by
  obtain ⟨x, h1, h2, h3⟩ := find_at (p := fun z => M_desc_FieldNamed_1 z f.name) (z := zFld) h (by simp [M_desc_FieldNamed_1])
  refine ⟨x, by rw [M_desc_FieldNamed, first_Fld, first_Fld, h1]; rfl, fun hk => h3 fun k hki => ?_⟩
  have := hk k hki
  simpa [M_desc_FieldNamed_1] using this
theorem finds_item {e : Enm} {i : Nat} {f : Itm} (h : e.items[i]? = some f) : ∃ x, M_desc_Item e f.num = (x, true) ∧ x.num = f.num := by
  obtain ⟨x, h1, h2, _⟩ := find_at (p := fun z => M_desc_Item_1 z f.num) (z := zItm) h (by simp [M_desc_Item_1])
  exact ⟨x, by rw [M_desc_Item, pair_eta, first_Itm, h1]; rfl, by simpa [M_desc_Item_1] using h2⟩
theorem finds_itemNamed {e : Enm} {i : Nat} {f : Itm} (h : e.items[i]? = some f) : ∃ x, M_desc_ItemNamed e f.name = (x, true) ∧ x.name = f.name := by
  obtain ⟨x, h1, h2, _⟩ := find_at (p := fun z => M_desc_ItemNamed_1 z f.name) (z := zItm) h (by simp [M_desc_ItemNamed_1])
  exact ⟨x, by rw [M_desc_ItemNamed, first_Itm, first_Itm, h1]; rfl, by simpa [M_desc_ItemNamed_1] using h2⟩
theorem walk_L1 {α β : Type} (L : List α → Unit ⊕ β) (h0 : L [] = .inl ()) : ∀ (suf : List α), (∀ x s, x ∈ suf → L (x :: s) = L s) → L suf = .inl ()
  | [], _ => h0
  | x :: suf, hs => by
    rw [hs x suf (by simp)]
    exact walk_L1 L h0 suf fun y s hy => hs y s (by simp [hy])
theorem finds_fields (m : Msg) : M_wireschemalaw14_DescFinds_L3 m m.fields 0 = .inl () :=
  walk_L (M_wireschemalaw14_DescFinds_L3 m) m.fields (fun _ => rfl) (fun f suf i h => by
    rw [M_wireschemalaw14_DescFinds_L3]
    obtain ⟨b, c, e, hb, hc⟩ := scan_L2 (M_wireschemalaw14_DescFinds_L4 m f) (fun k => !decide ((m.fields.getD k zFld).num = f.num)) (fun k => !decide ((m.fields.getD k zFld).name = f.name)) (fun _ _ _ => rfl) (fun _ _ _ _ _ => rfl) (List.range i) 0 true true
    rw [e]
    simp only [Sum.elim_inl]
    obtain ⟨x, h1, h2⟩ := finds_field h
    obtain ⟨y, h3, h4⟩ := finds_fieldNamed h
    rw [h1, h3]
    refine cond_ff ?_
    have e1 : b = true → M_wireschemaref11_SameField x f = true := fun hb' => by rw [h2 fun k hk => (hb hb').2 k (Nat.zero_le _) (by simpa using hk)]; exact r11_field f
    have e2 : c = true → M_wireschemaref11_SameField y f = true := fun hc' => by rw [h4 fun k hk => (hc hc').2 k (Nat.zero_le _) (by simpa using hk)]; exact r11_field f
    cases b <;> cases c <;> simp_all) m.fields 0 rfl
theorem finds_items (e : Enm) : M_wireschemalaw14_DescFinds_L7 e e.items = .inl () :=
  walk_L1 (M_wireschemalaw14_DescFinds_L7 e) rfl e.items fun f suf hf => by
    rw [M_wireschemalaw14_DescFinds_L7]
    obtain ⟨i, hi⟩ := List.mem_iff_getElem?.1 hf
    obtain ⟨x, h1, h2⟩ := finds_item hi
    obtain ⟨y, h3, h4⟩ := finds_itemNamed hi
    rw [h1, h3]
    exact cond_ff (by simp [h2, h4])
theorem finds_messages (s : Scm) : M_wireschemalaw14_DescFinds_L1 s s.messages 0 = .inl () :=
  walk_L (M_wireschemalaw14_DescFinds_L1 s) s.messages (fun _ => rfl) (fun m suf i h => by
    rw [M_wireschemalaw14_DescFinds_L1]
    obtain ⟨b, e, hb⟩ := scan_L (M_wireschemalaw14_DescFinds_L2 s m) (fun k => !decide ((s.messages.getD k zMsg).name = m.name)) (fun _ _ => rfl) (fun _ _ _ _ => rfl) (List.range i) 0 true
    rw [e]
    simp only [Sum.elim_inl]
    obtain ⟨x, h1, h2, h3⟩ := finds_message h
    rw [h1, finds_fields]
    refine cond_ff ?_
    have e1 : b = true → M_wireschemaref11_SameMessages [x] [m] = true := fun hb' => by rw [h3 fun k hk => (hb hb').2 k (Nat.zero_le _) (by simpa using hk)]; exact r11_messages _
    cases b <;> simp_all) s.messages 0 rfl
theorem finds_enums (s : Scm) : M_wireschemalaw14_DescFinds_L5 s s.enums 0 = .inl () :=
  walk_L (M_wireschemalaw14_DescFinds_L5 s) s.enums (fun _ => rfl) (fun m suf i h => by
    rw [M_wireschemalaw14_DescFinds_L5]
    obtain ⟨b, e, hb⟩ := scan_L (M_wireschemalaw14_DescFinds_L6 s m) (fun k => !decide ((s.enums.getD k zEnm).name = m.name)) (fun _ _ => rfl) (fun _ _ _ _ => rfl) (List.range i) 0 true
    rw [e]
    simp only [Sum.elim_inl]
    obtain ⟨x, h1, h2, h3⟩ := finds_enum h
    rw [h1, finds_items]
    refine cond_ff ?_
    have e1 : b = true → M_wireschemaref11_SameEnums [x] [m] = true := fun hb' => by rw [h3 fun k hk => (hb hb').2 k (Nat.zero_le _) (by simpa using hk)]; exact r11_enums _
    cases b <;> simp_all) s.enums 0 rfl
theorem DescFinds_true (s : Scm) : M_wireschemalaw14_DescFinds s = true := by
  rw [M_wireschemalaw14_DescFinds, finds_messages, finds_enums]
  exact awake_true
end Go.Proofs.YtdiibhcdfmeagaaDoor
