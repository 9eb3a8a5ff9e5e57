/-
  Law of the models: the fields of two paths are those of the joined path.
-/
import Derived.Test.YtdiibhcdfmeagaaDoorLd
namespace Go.Proofs.YtdiibhcdfmeagaaDoor
set_option linter.all false
open Go Go.Eng
theorem ba_ext {a b : ByteArray} (h : a.data.toList = b.data.toList) : a = b := by
  obtain ⟨a⟩ := a
  obtain ⟨b⟩ := b
  congr
  exact Array.ext' h
theorem ba_app (a b : ByteArray) : (a ++ b).data.toList = a.data.toList ++ b.data.toList := by
  rw [ByteArray.data_append]; simp
theorem ba_ex (a : ByteArray) (i j : Nat) : (a.extract i j).data.toList = (a.data.toList.drop i).take (j - i) := by
  rw [ByteArray.data_extract]; simp [List.take_drop]
theorem ix_app (b : List UInt8) : ∀ (a : List UInt8), (Lib.indexByte a 46 = -1 ∧ Lib.indexByte (a ++ 46 :: b) 46 = (a.length : Nat)) ∨ ∃ k : Nat, k < a.length ∧ Lib.indexByte a 46 = k ∧ Lib.indexByte (a ++ 46 :: b) 46 = k
  | [] => .inl ⟨rfl, by simp [Lib.indexByte]⟩
  | x :: a => by
    simp only [List.cons_append, List.length_cons]
    unfold Lib.indexByte
    by_cases hx : x = 46
    · subst hx; exact .inr ⟨0, by omega, by simp, by simp⟩
    · have h2 : (x == 46) = false := by simpa using hx
      rw [h2]
      rcases ix_app b a with ⟨h3, h4⟩ | ⟨k, h0, h3, h4⟩
      · left
        rw [h3, h4]
        have : (((a.length : Nat) : Int) == -1) = false := by simp
        simp [this]
      · right
        refine ⟨k + 1, by omega, ?_, ?_⟩ <;> (first | rw [h3] | rw [h4]) <;>
        · have : ((k : Int) == -1) = false := by simp
          simp [this]
theorem split_app (one two : ByteArray) : (M_wireschemaref14_split one 46 = (one, ⟨#[]⟩, false) ∧ M_wireschemaref14_split (one ++ ⟨#[46]⟩ ++ two) 46 = (one, two, true)) ∨
    ∃ x y, y.size < one.size ∧ M_wireschemaref14_split one 46 = (x, y, true) ∧ M_wireschemaref14_split (one ++ ⟨#[46]⟩ ++ two) 46 = (x, y ++ ⟨#[46]⟩ ++ two, true) := by
  have e1 : Lib.indexB one ⟨#[46]⟩ = Lib.indexByte one.data.toList 46 := Lib.index_one _ _
  have e2 : Lib.indexB (one ++ ⟨#[46]⟩ ++ two) ⟨#[46]⟩ = Lib.indexByte (one.data.toList ++ 46 :: two.data.toList) 46 := by
    rw [show Lib.indexB (one ++ ⟨#[46]⟩ ++ two) ⟨#[46]⟩ = Lib.indexByte (one ++ ⟨#[46]⟩ ++ two).data.toList 46 from Lib.index_one _ _, ba_app, ba_app]
    simp
  have sz : (one ++ ⟨#[46]⟩ ++ two).size = one.size + 1 + two.size := by
    rw [ByteArray.size_append, ByteArray.size_append]; rfl
  have bl : one.data.toList.length = one.size := bsize one
  have bl2 : two.data.toList.length = two.size := bsize two
  rcases ix_app two.data.toList one.data.toList with ⟨h1, h2⟩ | ⟨k, h0, h1, h2⟩
  · left
    rcases split_index one with ⟨g1, g2⟩ | ⟨k, g1, g2⟩
    · refine ⟨g2, ?_⟩
      rcases split_index (one ++ ⟨#[46]⟩ ++ two) with ⟨f1, f2⟩ | ⟨k, f1, f2⟩
      · rw [e2, h2] at f1; omega
      · rw [e2, h2] at f1
        have hk : k = one.size := by omega
        subst hk
        rw [f2]
        refine Prod.ext ?_ (Prod.ext ?_ rfl)
        · refine ba_ext ?_
          show ((one ++ ⟨#[46]⟩ ++ two).extract 0 one.size).data.toList = _
          rw [ba_ex, ba_app, ba_app, List.drop_zero, Nat.sub_zero, List.append_assoc, ← bl, List.take_left]
        · refine ba_ext ?_
          show ((one ++ ⟨#[46]⟩ ++ two).extract (one.size + 1) (one ++ ⟨#[46]⟩ ++ two).size).data.toList = _
          rw [ba_ex, ba_app, ba_app, sz, show one.size + 1 = (one.data.toList ++ (⟨#[46]⟩ : ByteArray).data.toList).length from by simp, List.drop_left, List.take_of_length_le (by simp)]
    · rw [e1, h1] at g1; omega
  · right
    rcases split_index one with ⟨g1, g2⟩ | ⟨k', g1, g2⟩
    · rw [e1, h1] at g1; omega
    · rw [e1, h1] at g1
      have hk : k' = k := by omega
      subst hk
      refine ⟨_, _, ?_, g2, ?_⟩
      · rw [ByteArray.size_extract]; omega
      · rcases split_index (one ++ ⟨#[46]⟩ ++ two) with ⟨f1, f2⟩ | ⟨k2, f1, f2⟩
        · rw [e2, h2] at f1; omega
        · rw [e2, h2] at f1
          have hk : k2 = k' := by omega
          subst hk
          rw [f2]
          refine Prod.ext ?_ (Prod.ext ?_ rfl)
          · refine ba_ext ?_
            show ((one ++ ⟨#[46]⟩ ++ two).extract 0 k2).data.toList = (one.extract 0 k2).data.toList
            rw [ba_ex, ba_ex, ba_app, ba_app, List.drop_zero, Nat.sub_zero, List.append_assoc, List.take_append_of_le_length (by omega), List.drop_zero]
          · refine ba_ext ?_
            show ((one ++ ⟨#[46]⟩ ++ two).extract (k2 + 1) (one ++ ⟨#[46]⟩ ++ two).size).data.toList = (one.extract (k2 + 1) one.size ++ ⟨#[46]⟩ ++ two).data.toList
            rw [ba_app, ba_app, ba_ex, ba_ex, ba_app, ba_app, sz, List.append_assoc, List.drop_append_of_le_length (by omega), List.append_assoc, List.take_of_length_le (by simp [bl, bl2]; omega), List.take_of_length_le (by simp [bl])]
theorem pieces_app (two : ByteArray) : ∀ (n : Nat) (one : ByteArray), one.size < n → M_genSplit (one ++ ⟨#[46]⟩ ++ two) 46 = M_genSplit one 46 ++ M_genSplit two 46
  | 0, one, h => absurd h (Nat.not_lt_zero _)
  | n + 1, one, h => by
    rw [pieces_cons (one ++ ⟨#[46]⟩ ++ two), pieces_cons one]
    rcases split_app one two with ⟨h1, h2⟩ | ⟨x, y, h0, h1, h2⟩
    · rw [h1, h2]; rfl
    · rw [h1, h2]
      simp only [cond_true, List.cons_append]
      rw [pieces_app two n y (by omega)]
theorem tail_cases (s : Scm) : ∀ (ps : List ByteArray) (f : Fld) (o : List Fld), (∃ o2 g, tailP s f ps (o ++ [f]) = (o2 ++ [g], 0) ∧ ∀ qs, tailP s f (ps ++ qs) (o ++ [f]) = tailP s g qs (o2 ++ [g])) ∨ ∃ e, e ≠ 0 ∧ tailP s f ps (o ++ [f]) = ([], e)
  | [], f, o => .inl ⟨o, f, rfl, fun qs => rfl⟩
  | p :: ps, f, o => by
    simp only [List.cons_append, tailP]
    cases badF f with
    | true => exact .inr ⟨12, by decide, rfl⟩
    | false =>
      cases (M_desc_Message s f.type.name).2 with
      | false => exact .inr ⟨12, by decide, rfl⟩
      | true =>
        cases (M_desc_FieldNamed (M_desc_Message s f.type.name).1 p).2 with
        | false => exact .inr ⟨8, by decide, rfl⟩
        | true => exact tail_cases s ps _ (o ++ [f])
theorem tail_pre (s : Scm) : ∀ (ps : List ByteArray) (f : Fld) (o x b : List Fld), tailP s f ps x = (b, 0) → tailP s f ps (o ++ x) = (o ++ b, 0)
  | [], f, o, x, b, h => by simp only [tailP, Prod.mk.injEq, and_true] at h ⊢; rw [h]
  | p :: ps, f, o, x, b, h => by
    simp only [tailP] at h ⊢
    cases hb : badF f with
    | true => rw [hb] at h; cases h
    | false =>
      rw [hb] at h
      cases hm : (M_desc_Message s f.type.name).2 with
      | false => rw [hm] at h; cases h
      | true =>
        rw [hm] at h
        cases hn : (M_desc_FieldNamed (M_desc_Message s f.type.name).1 p).2 with
        | false => rw [hn] at h; cases h
        | true =>
          rw [hn] at h
          simp only [Bool.not_true, cond_false] at h ⊢
          rw [List.append_assoc]
          exact tail_pre s ps _ o _ b h
theorem path_form (s : Scm) (name path : ByteArray) : M_desc_Path s name path = cond (decide (path = ⟨#[]⟩)) ([], 1) (cond (!(M_desc_Message s name).2) ([], 10) (headP s (M_desc_Message s name).1 (M_genSplit path 46) [])) := by
  rw [M_desc_Path, path_head]
  rfl
theorem joined_L1 : ∀ (l v : List Fld), M_wireschemalaw14_DescJoined_L1 l v = .inl (v ++ l)
  | [], v => by simp [M_wireschemalaw14_DescJoined_L1]
  | x :: l, v => by rw [M_wireschemalaw14_DescJoined_L1, joined_L1 l]; simp
theorem joined_L2 : ∀ (l v : List Fld), M_wireschemalaw14_DescJoined_L2 l v = .inl (v ++ l)
  | [], v => by simp [M_wireschemalaw14_DescJoined_L2]
  | x :: l, v => by rw [M_wireschemalaw14_DescJoined_L2, joined_L2 l]; simp
theorem head_cases (s : Scm) (name path : ByteArray) : (∃ o g, M_desc_Path s name path = (o ++ [g], 0) ∧ path ≠ ⟨#[]⟩ ∧ (M_desc_Message s name).2 = true ∧ ∀ qs, headP s (M_desc_Message s name).1 (M_genSplit path 46 ++ qs) [] = tailP s g qs (o ++ [g])) ∨
    ∃ e, e ≠ 0 ∧ M_desc_Path s name path = ([], e) := by
  rw [path_form]
  cases hp : decide (path = ⟨#[]⟩) with
  | true => exact .inr ⟨1, by decide, rfl⟩
  | false =>
    cases hm : (M_desc_Message s name).2 with
    | false => exact .inr ⟨10, by decide, rfl⟩
    | true =>
      simp only [Bool.not_true, cond_false]
      rw [pieces_cons]
      generalize cond (M_wireschemaref14_split path 46).2.2 _ _ = ps
      simp only [List.cons_append, headP]
      cases hf : (M_desc_FieldNamed (M_desc_Message s name).1 (M_wireschemaref14_split path 46).1).2 with
      | false => exact .inr ⟨8, by decide, rfl⟩
      | true =>
        rcases tail_cases s ps (M_desc_FieldNamed (M_desc_Message s name).1 (M_wireschemaref14_split path 46).1).1 [] with ⟨o, g, h1, h2⟩ | ⟨e, h1, h2⟩
        · exact .inl ⟨o, g, h1, by simpa using hp, by simp, h2⟩
        · exact .inr ⟨e, h1, h2⟩
theorem head_tail (s : Scm) (g : Fld) (two : ByteArray) (o b : List Fld) (hb : badF g = false) (h : M_desc_Path s g.type.name two = (b, 0)) (hne : b ≠ []) : tailP s g (M_genSplit two 46) (o ++ [g]) = (o ++ [g] ++ b, 0) := by
  rw [path_form] at h
  cases hp : decide (two = ⟨#[]⟩) with
  | true => rw [hp] at h; cases h
  | false =>
    rw [hp] at h
    cases hm : (M_desc_Message s g.type.name).2 with
    | false => rw [hm] at h; cases h
    | true =>
      rw [hm] at h
      simp only [Bool.not_true, cond_false] at h
      rw [pieces_cons] at h ⊢
      generalize cond (M_wireschemaref14_split two 46).2.2 _ _ = ps at h ⊢
      simp only [headP] at h
      simp only [tailP, hb, hm]
      cases hf : (M_desc_FieldNamed (M_desc_Message s g.type.name).1 (M_wireschemaref14_split two 46).1).2 with
      | false => rw [hf] at h; cases h
      | true =>
        rw [hf] at h
        simp only [Bool.not_true, cond_false] at h ⊢
        exact tail_pre s ps _ (o ++ [g]) _ b h
theorem joined (s : Scm) (name one two : ByteArray) (o b : List Fld) (g : Fld) (h1 : M_desc_Path s name one = (o ++ [g], 0)) (hb : badF g = false) (h2 : M_desc_Path s g.type.name two = (b, 0)) : M_desc_Path s name (one ++ ⟨#[46]⟩ ++ two) = (o ++ [g] ++ b, 0) := by
  have hne : b ≠ [] := by
    rcases head_cases s g.type.name two with ⟨o', g', e1, _⟩ | ⟨e, e0, e1⟩
    · rw [h2] at e1; simp only [Prod.mk.injEq, and_true] at e1; rw [e1]; simp
    · rw [h2] at e1; simp only [Prod.mk.injEq] at e1; exact absurd e1.2.symm e0
  rcases head_cases s name one with ⟨o', g', e1, e2, e3, e4⟩ | ⟨e, e0, e1⟩
  · rw [h1] at e1
    simp only [Prod.mk.injEq, and_true] at e1
    obtain ⟨rfl, e6⟩ := List.append_inj' e1 rfl
    cases e6
    rw [path_form]
    have hp : decide (one ++ ⟨#[46]⟩ ++ two = ⟨#[]⟩) = false := by
      rw [decide_eq_false_iff_not]
      intro h
      have := congrArg ByteArray.size h
      rw [ByteArray.size_append, ByteArray.size_append] at this
      have e : (⟨#[46]⟩ : ByteArray).size = 1 := rfl
      have e' : (⟨#[]⟩ : ByteArray).size = 0 := rfl
      omega
    rw [hp, e3, cond_false, Bool.not_true, cond_false]
    rw [pieces_app two _ one (Nat.lt_succ_self _), e4]
    exact head_tail s g two o b hb h2 hne
  · rw [h1] at e1; simp only [Prod.mk.injEq] at e1; exact absurd e1.2.symm e0
theorem DescJoined_true (s : Scm) (name one two : ByteArray) : M_wireschemalaw14_DescJoined s name one two = true := by
  rw [M_wireschemalaw14_DescJoined, awake_true]
  simp only [joined_L1, joined_L2, Sum.elim_inl, List.nil_append]
  cases (decide ((500 : Int) < ((one.size : Nat) : Int)) || decide ((500 : Int) < ((two.size : Nat) : Int))) with
  | true => rfl
  | false =>
    rw [cond_false]
    rcases head_cases s name one with ⟨o, g, e1, _⟩ | ⟨e, e0, e1⟩
    · rw [e1]
      have h2 : decide ((((o ++ [g]).length : Nat) : Int) = (0 : Int)) = false := by rw [decide_eq_false_iff_not]; simp; omega
      have h3 : (o ++ [g]).getD ((o ++ [g]).length - 1) zFld = g := by simp
      simp only [h2, h3]
      show cond _ _ (cond (badF g) _ _) = true
      cases hb : badF g with
      | true => rfl
      | false =>
        rcases head_cases s g.type.name two with ⟨o', g', f1, _⟩ | ⟨e, e0, f1⟩
        · rw [f1, joined s name one two o _ g e1 hb f1]
          simp only [fields_refl]
          rfl
        · rw [f1]
          have : decide (e = (0 : Int)) = false := by simpa using e0
          simp [this]
    · rw [e1]
      have : decide (e = (0 : Int)) = false := by simpa using e0
      simp [this]
end Go.Proofs.YtdiibhcdfmeagaaDoor
