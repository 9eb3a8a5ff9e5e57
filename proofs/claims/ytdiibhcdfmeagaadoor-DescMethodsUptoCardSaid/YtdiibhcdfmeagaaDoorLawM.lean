/-
  Law of the models: methods and what is deprecated, the program's and the document's.
-/
import Derived.Test.YtdiibhcdfmeagaaDoorPg
import Derived.Test.YtdiibhcdfmeagaaDoorLaw
namespace Go.Proofs.YtdiibhcdfmeagaaDoor
set_option linter.all false
open Go Go.Eng
theorem cut_ix (s : ByteArray) : ∀ (suf : List UInt8) (i : Nat), (Lib.indexByte suf 47 = -1 ∧ M_wireschemaref14_split_L1 s 47 suf i = .inl ()) ∨ ∃ k : Nat, Lib.indexByte suf 47 = k ∧ M_wireschemaref14_split_L1 s 47 suf i = .inr (s.extract 0 (i + k), s.extract (i + k + 1) s.size, true)
  | [], i => .inl ⟨rfl, rfl⟩
  | x :: suf, i => by
    rw [M_wireschemaref14_split_L1]
    unfold Lib.indexByte
    by_cases hx : x = 47
    · subst hx
      exact .inr ⟨0, by simp, by simp⟩
    · have h1 : decide (((x.toNat : Nat) : Int) = 47) = false := by
        rw [decide_eq_false_iff_not]
        intro h
        exact hx (UInt8.toNat_inj.1 (by have : x.toNat = 47 := by omega
                                        rw [this]; rfl))
      have h2 : (x == 47) = false := by simpa using hx
      rw [h1, h2]
      rcases cut_ix s suf (i + 1) with ⟨h3, h4⟩ | ⟨k, h3, h4⟩
      · exact .inl ⟨by rw [h3]; rfl, h4⟩
      · refine .inr ⟨k + 1, ?_, ?_⟩
        · rw [h3]
          have : ((k : Int) == -1) = false := by simp
          simp [this]
        · rw [cond_false, h4, show i + 1 + k = i + (k + 1) from by omega]
theorem cut_eq (s : ByteArray) : M_wireschemaref14_split s 47 = M_Cut s := by
  show _ = M_slCut s
  rw [M_wireschemaref14_split, M_slCut]
  rcases cut_ix s s.data.toList 0 with ⟨h1, h2⟩ | ⟨k, h1, h2⟩
  · have e : M_Index1 s 47 = -1 := h1
    rw [h2, e]; rfl
  · have e : M_Index1 s 47 = (k : Int) := h1
    rw [h2, e, decide_eq_true (by omega), Nat.zero_add, show ((k : Int) + 1).toNat = k + 1 from by omega]
    rfl
theorem service_none (s : Scm) (n : ByteArray) (h : (M_desc_Service s n).2 = false) : (M_desc_Service s n).1 = zSvc := by
  rw [M_desc_Service, pair_eta, first_Svc] at h ⊢
  revert h
  cases s.services.find? (fun z => M_desc_Service_1 z n) with
  | none => intro _; rfl
  | some x => intro h; cases h
theorem method_eq (s : Scm) (path : ByteArray) : M_wireschemaref14_Method s path = M_desc_Method s path := by
  rw [M_wireschemaref14_Method, M_desc_Method, cut_eq, service_eq]
  cases (M_Cut path).2.2 with
  | false => rfl
  | true =>
    simp only [Bool.not_true, cond_false, Bool.false_or]
    cases hs : (M_desc_Service s (M_Cut path).1).2 with
    | false => rw [service_none _ _ hs]; rfl
    | true =>
      simp only [Bool.not_true, cond_false]
      rw [first_Mth]
      exact find_L (M_wireschemaref14_Method_L1 path) (fun z => M_desc_Method_1 z (M_Cut path).2.1) zMth rfl (fun x t => by rw [M_wireschemaref14_Method_L1, cut_eq]; rfl) _
theorem flag_nil (n : ByteArray) : M_note_Flag [] n = false := by
  rw [M_note_Flag, M_note_Find, M_note_index, indexFunc_Nt]
  rfl
theorem field_flag (m : Msg) (num : Int) (n : ByteArray) : ((M_desc_Field m num).2 && M_note_Flag (M_desc_Field m num).1.notes n) = M_note_Flag (M_desc_Field m num).1.notes n := by
  rw [M_desc_Field, pair_eta, first_Fld]
  cases m.fields.find? (fun z => M_desc_Field_1 z num) with
  | none => exact (flag_nil n).symm
  | some x => rfl
theorem item_flag (e : Enm) (num : Int) (n : ByteArray) : ((M_desc_Item e num).2 && M_note_Flag (M_desc_Item e num).1.notes n) = M_note_Flag (M_desc_Item e num).1.notes n := by
  rw [M_desc_Item, pair_eta, first_Itm]
  cases e.items.find? (fun z => M_desc_Item_1 z num) with
  | none => exact (flag_nil n).symm
  | some x => rfl
theorem deprecated_eq (s : Scm) (name : ByteArray) (num : Int) : M_wireschemaref14_Deprecated s name num = M_desc_Deprecated s name num := by
  have hn : decide ((0 : Int) ≤ num) = !decide (num < 0) := by
    cases h : decide (num < 0) with
    | true => have := of_decide_eq_true h; simp; omega
    | false => have := of_decide_eq_false h; simp; omega
  rw [M_wireschemaref14_Deprecated, M_desc_Deprecated, message_eq, enum_eq, service_eq, field_eq, item_eq, hn]
  simp only [flag_eq, field_flag, item_flag]
  cases (M_desc_Message s name).2 with
  | true => cases decide (num < 0) <;> simp
  | false =>
    cases (M_desc_Enum s name).2 with
    | true => cases decide (num < 0) <;> simp
    | false =>
      cases hs : (M_desc_Service s name).2 with
      | true => rfl
      | false =>
        rw [service_none _ _ hs]
        cases hd : decide (num < 0) with
        | true =>
          simp only [Bool.not_false, cond_true]
          exact (flag_nil ⟨#[100, 101, 112, 114, 101, 99, 97, 116, 101, 100]⟩).symm
        | false =>
          have := of_decide_eq_false hd
          simp only [cond_false, cond_true, Bool.not_false]
          show false = (decide (num < (([] : List Mth).length : Nat)) && _)
          rw [decide_eq_false (by simpa using this)]
          rfl
end Go.Proofs.YtdiibhcdfmeagaaDoor
