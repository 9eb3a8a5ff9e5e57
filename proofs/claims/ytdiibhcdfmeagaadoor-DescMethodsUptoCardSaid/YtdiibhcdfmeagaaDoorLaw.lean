/-
  Laws of the models: what the program finds is what the document finds; a thing is the same as itself.
-/
import Derived.Test.YtdiibhcdfmeagaaDoorLa
namespace Go.Proofs.YtdiibhcdfmeagaaDoor
set_option linter.all false
open Go Go.Eng
theorem walk_L {α β : Type} (L : List α → Nat → Unit ⊕ β) (ys : List α) (h0 : ∀ i, L [] i = .inl ()) (hs : ∀ x s i, ys[i]? = some x → L (x :: s) i = L s (i + 1)) : ∀ (suf : List α) (i : Nat), ys.drop i = suf → L suf i = .inl ()
  | [], i, _ => h0 i
  | x :: suf, i, h => by
    obtain ⟨hx, _, h'⟩ := drop_get h
    rw [hs x suf i hx]
    exact walk_L L ys h0 hs suf (i + 1) h'
theorem getD_of {α : Type} {ys : List α} {i : Nat} {x z : α} (h : ys[i]? = some x) : ys.getD i z = x := by rw [List.getD_eq_getElem?_getD, h]; rfl
theorem cond_ff {α : Type} {b : Bool} {x y : α} (h : b = false) : cond b x y = y := by rw [h]; rfl
theorem r08_same (l : List Nt) : M_wireschemaref08_Same l l = true := by
  rw [M_wireschemaref08_Same, walk_L (M_wireschemaref08_Same_L1 l) l (fun _ => rfl) (fun x s i h => by rw [M_wireschemaref08_Same_L1, getD_of h]; exact cond_ff (by simp)) l 0 rfl]
  simp
theorem r11_spans (l : List Spn) : M_wireschemaref11_sameSpans l l = true := by
  rw [M_wireschemaref11_sameSpans, walk_L (M_wireschemaref11_sameSpans_L1 l) l (fun _ => rfl) (fun x s i h => by rw [M_wireschemaref11_sameSpans_L1, getD_of h]; exact cond_ff (by simp)) l 0 rfl]
  simp
theorem r11_field (f : Fld) : M_wireschemaref11_SameField f f = true := by
  rw [M_wireschemaref11_SameField]
  simp [r08_same]
theorem r11_messages (l : List Msg) : M_wireschemaref11_SameMessages l l = true := by
  rw [M_wireschemaref11_SameMessages, walk_L (M_wireschemaref11_SameMessages_L1 l) l (fun _ => rfl) (fun x s i h => by
    rw [M_wireschemaref11_SameMessages_L1, getD_of h, walk_L (M_wireschemaref11_SameMessages_L2 l i) x.fields (fun _ => rfl) (fun y t j h' => by rw [M_wireschemaref11_SameMessages_L2, getD_of h, getD_of h']; exact cond_ff (by simp [r11_field])) x.fields 0 rfl,
      walk_L (M_wireschemaref11_SameMessages_L3 l i) x.gone (fun _ => rfl) (fun y t j h' => by rw [M_wireschemaref11_SameMessages_L3, getD_of h, getD_of h']; exact cond_ff (by simp)) x.gone 0 rfl]
    exact cond_ff (by simp [r08_same, r11_spans])) l 0 rfl]
  simp
theorem r11_enums (l : List Enm) : M_wireschemaref11_SameEnums l l = true := by
  rw [M_wireschemaref11_SameEnums, walk_L (M_wireschemaref11_SameEnums_L1 l) l (fun _ => rfl) (fun x s i h => by
    rw [M_wireschemaref11_SameEnums_L1, getD_of h, walk_L (M_wireschemaref11_SameEnums_L2 l i) x.items (fun _ => rfl) (fun y t j h' => by rw [M_wireschemaref11_SameEnums_L2, getD_of h, getD_of h']; exact cond_ff (by simp [r08_same])) x.items 0 rfl]
    exact cond_ff (by simp [r08_same, r11_spans])) l 0 rfl]
  simp
theorem r11_services (l : List Svc) : M_wireschemaref11_SameServices l l = true := by
  rw [M_wireschemaref11_SameServices, walk_L (M_wireschemaref11_SameServices_L1 l) l (fun _ => rfl) (fun x s i h => by
    rw [M_wireschemaref11_SameServices_L1, getD_of h, walk_L (M_wireschemaref11_SameServices_L2 l i) x.methods (fun _ => rfl) (fun y t j h' => by rw [M_wireschemaref11_SameServices_L2, getD_of h, getD_of h']; exact cond_ff (by simp [r08_same])) x.methods 0 rfl]
    exact cond_ff (by simp [r08_same])) l 0 rfl]
  simp
/-! ### What is found -/
theorem find_L {α : Type} (L : List α → Unit ⊕ (α × Bool)) (p : α → Bool) (z : α) (h0 : L [] = .inl ()) (h1 : ∀ x s, L (x :: s) = cond (p x) (.inr (x, true)) (L s)) : ∀ l : List α, Sum.elim (fun _ => (z, false)) (fun v => v) (L l) = (l.find? p).elim (z, false) (fun x => (x, true))
  | [] => by rw [h0]; rfl
  | x :: l => by
    rw [h1, List.find?_cons]
    cases h : p x with
    | true => rfl
    | false => exact find_L L p z h0 h1 l
theorem find_L2 {α : Type} (L L' : List α → Unit ⊕ (α × Bool)) (p q : α → Bool) (z : α) (h0 : L [] = .inl ()) (h1 : ∀ x s, L (x :: s) = cond (p x) (.inr (x, true)) (L s)) (k0 : L' [] = .inl ()) (k1 : ∀ x s, L' (x :: s) = cond (q x) (.inr (x, true)) (L' s)) (m : List α) : ∀ l : List α,
    Sum.elim (fun _ => Sum.elim (fun _ => (z, false)) (fun v => v) (L' m)) (fun v => v) (L l) = (l.find? p).elim ((m.find? q).elim (z, false) (fun x => (x, true))) (fun x => (x, true))
  | [] => by rw [h0]; exact find_L L' q z k0 k1 m
  | x :: l => by
    rw [h1, List.find?_cons]
    cases h : p x with
    | true => rfl
    | false => exact find_L2 L L' p q z h0 h1 k0 k1 m l
theorem pair_eta {α β : Type} (x : α × β) : (x.1, x.2) = x := rfl
theorem named {α : Type} (a b : Option α) (z : α) : cond (a.elim (z, false) (fun x => (x, true))).2 ((a.elim (z, false) (fun x => (x, true))).1, true) ((b.elim (z, false) (fun x => (x, true))).1, (b.elim (z, false) (fun x => (x, true))).2) =
    a.elim (b.elim (z, false) (fun x => (x, true))) (fun x => (x, true)) := by
  cases a <;> rfl
theorem index_eq (l : List Nt) (name : ByteArray) : M_wireschemaref08_index l name = M_note_index l name := by
  rw [r08_index_eq, M_note_index, indexFunc_Nt]; rfl
theorem find_eq (l : List Nt) (name : ByteArray) : M_wireschemaref08_Find l name = M_note_Find l name := by
  rw [M_wireschemaref08_Find, M_note_Find, index_eq]
theorem flag_eq (l : List Nt) (name : ByteArray) : M_wireschemaref08_Flag l name = M_note_Flag l name := by
  rw [M_wireschemaref08_Flag, M_note_Flag, find_eq]
theorem alias_eq (l : List Nt) (name : ByteArray) : M_wireschemaref14_alias l name = M_desc_aliased l name := by
  rw [M_wireschemaref14_alias, M_desc_aliased, find_eq]
theorem item_eq (e : Enm) (num : Int) : M_wireschemaref14_Item e num = M_desc_Item e num := by
  rw [M_desc_Item, pair_eta, first_Itm]
  exact find_L (M_wireschemaref14_Item_L1 num) (fun z => M_desc_Item_1 z num) zItm rfl (fun _ _ => rfl) _
theorem field_eq (m : Msg) (num : Int) : M_wireschemaref14_Field m num = M_desc_Field m num := by
  rw [M_desc_Field, pair_eta, first_Fld]
  exact find_L (M_wireschemaref14_Field_L1 num) (fun z => M_desc_Field_1 z num) zFld rfl (fun _ _ => rfl) _
theorem message_eq (s : Scm) (name : ByteArray) : M_wireschemaref14_Message s name = M_desc_Message s name := by
  rw [M_desc_Message, pair_eta, first_Msg]
  exact find_L (M_wireschemaref14_Message_L1 name) (fun z => M_desc_Message_1 z name) zMsg rfl (fun _ _ => rfl) _
theorem enum_eq (s : Scm) (name : ByteArray) : M_wireschemaref14_Enum s name = M_desc_Enum s name := by
  rw [M_desc_Enum, pair_eta, first_Enm]
  exact find_L (M_wireschemaref14_Enum_L1 name) (fun z => M_desc_Enum_1 z name) zEnm rfl (fun _ _ => rfl) _
theorem service_eq (s : Scm) (name : ByteArray) : M_wireschemaref14_Service s name = M_desc_Service s name := by
  rw [M_desc_Service, pair_eta, first_Svc]
  exact find_L (M_wireschemaref14_Service_L1 name) (fun z => M_desc_Service_1 z name) zSvc rfl (fun _ _ => rfl) _
theorem itemNamed_eq (e : Enm) (name : ByteArray) : M_wireschemaref14_ItemNamed e name = M_desc_ItemNamed e name := by
  rw [M_desc_ItemNamed, first_Itm, first_Itm, named]
  exact find_L2 (M_wireschemaref14_ItemNamed_L1 name) (M_wireschemaref14_ItemNamed_L2 name) (fun z => M_desc_ItemNamed_1 z name) (fun z => M_desc_ItemNamed_2 z name) zItm rfl (fun _ _ => rfl) rfl (fun x s => by rw [M_wireschemaref14_ItemNamed_L2, alias_eq]; rfl) _ _
theorem fieldNamed_eq (m : Msg) (name : ByteArray) : M_wireschemaref14_FieldNamed m name = M_desc_FieldNamed m name := by
  rw [M_desc_FieldNamed, first_Fld, first_Fld, named]
  exact find_L2 (M_wireschemaref14_FieldNamed_L1 name) (M_wireschemaref14_FieldNamed_L2 name) (fun z => M_desc_FieldNamed_1 z name) (fun z => M_desc_FieldNamed_2 z name) zFld rfl (fun _ _ => rfl) rfl (fun x s => by rw [M_wireschemaref14_FieldNamed_L2, alias_eq]; rfl) _ _
set_option maxRecDepth 100000 in
theorem awake_true : M_wireschemalaw14_awake = true := by kernel_rfl
theorem items_refl (l : List Itm) : M_wireschemalaw14_items l l = true := r11_enums _
theorem fields_refl (l : List Fld) : M_wireschemalaw14_fields l l = true := r11_messages _
theorem DescItems_true (e : Enm) (num : Int) (name : ByteArray) : M_wireschemalaw14_DescItems e num name = true := by
  rw [M_wireschemalaw14_DescItems, item_eq, itemNamed_eq, items_refl, items_refl, awake_true]
  simp
end Go.Proofs.YtdiibhcdfmeagaaDoor
