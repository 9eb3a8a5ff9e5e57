/-
  Law of the models: the fields of a path, the program's and the document's.
-/
import Derived.Test.YtdiibhcdfmeagaaDoorRe
namespace Go.Proofs.YtdiibhcdfmeagaaDoor
set_option linter.all false
open Go Go.Eng
theorem split_ix (s : ByteArray) : ∀ (suf : List UInt8) (i : Nat), (Lib.indexByte suf 46 = -1 ∧ M_wireschemaref14_split_L1 s 46 suf i = .inl ()) ∨ ∃ k : Nat, Lib.indexByte suf 46 = k ∧ M_wireschemaref14_split_L1 s 46 suf i = .inr (s.extract 0 (i + k), s.extract (i + k + 1) s.size, true)
  | [], i => .inl ⟨rfl, rfl⟩
  | x :: suf, i => by
    rw [M_wireschemaref14_split_L1]
    unfold Lib.indexByte
    by_cases hx : x = 46
    · subst hx
      exact .inr ⟨0, by simp, by simp⟩
    · have h1 : decide (((x.toNat : Nat) : Int) = 46) = false := by
        rw [decide_eq_false_iff_not]
        intro h
        exact hx (UInt8.toNat_inj.1 (by have : x.toNat = 46 := by omega
                                        rw [this]; rfl))
      have h2 : (x == 46) = false := by simpa using hx
      rw [h1, h2]
      rcases split_ix s suf (i + 1) with ⟨h3, h4⟩ | ⟨k, h3, h4⟩
      · exact .inl ⟨by rw [h3]; rfl, h4⟩
      · refine .inr ⟨k + 1, ?_, ?_⟩
        · rw [h3]
          have : ((k : Int) == -1) = false := by simp
          simp [this]
        · rw [cond_false, h4, show i + 1 + k = i + (k + 1) from by omega]
theorem split_index (s : ByteArray) : (Lib.indexB s ⟨#[46]⟩ = -1 ∧ M_wireschemaref14_split s 46 = (s, ⟨#[]⟩, false)) ∨ ∃ k : Nat, Lib.indexB s ⟨#[46]⟩ = k ∧ M_wireschemaref14_split s 46 = (s.extract 0 k, s.extract (k + 1) s.size, true) := by
  have e : Lib.indexB s ⟨#[46]⟩ = Lib.indexByte s.data.toList 46 := Lib.index_one _ _
  rw [e, M_wireschemaref14_split]
  rcases split_ix s s.data.toList 0 with ⟨h1, h2⟩ | ⟨k, h1, h2⟩
  · exact .inl ⟨h1, by rw [h2]; rfl⟩
  · exact .inr ⟨k, h1, by rw [h2]; simp⟩
theorem pieces_cons (s : ByteArray) : M_genSplit s 46 = (M_wireschemaref14_split s 46).1 :: cond (M_wireschemaref14_split s 46).2.2 (M_genSplit (M_wireschemaref14_split s 46).2.1 46) [] := by
  unfold M_genSplit
  rcases split_index s with ⟨h1, h2⟩ | ⟨k, h1, h2⟩
  · rw [h2, Lib.splitB_miss _ _ _ _ h1]; rfl
  · rw [h2, Lib.countB_hit s ⟨#[46]⟩ k (Nat.le_refl _) h1, Nat.add_comm 1, Lib.splitB_hit _ _ _ _ k h1]
    simp only [cond_true, Nat.add_zero]
    rfl
def badF (f : Fld) : Bool := ((!decide (f.type.kind = (10 : Int))) || decide (f.card = (4 : Int))) || decide (f.card = (5 : Int))
def tailP (s : Scm) : Fld → List ByteArray → List Fld → List Fld × Int
  | _, [], out => (out, 0)
  | f, p :: ps, out => cond (badF f) ([], 12) (cond (!(M_desc_Message s f.type.name).2) ([], 12) (cond (!(M_desc_FieldNamed (M_desc_Message s f.type.name).1 p).2) ([], 8)
      (tailP s (M_desc_FieldNamed (M_desc_Message s f.type.name).1 p).1 ps (out ++ [(M_desc_FieldNamed (M_desc_Message s f.type.name).1 p).1]))))
def headP (s : Scm) (m : Msg) : List ByteArray → List Fld → List Fld × Int
  | [], out => (out, 0)
  | p :: ps, out => cond (!(M_desc_FieldNamed m p).2) ([], 8) (tailP s (M_desc_FieldNamed m p).1 ps (out ++ [(M_desc_FieldNamed m p).1]))
theorem cond_or {α : Type} (a b : Bool) (x y : α) : cond (a || b) x y = cond a x (cond b x y) := by cases a <;> rfl
theorem path_tail (s : Scm) : ∀ (ps : List ByteArray) (out : List Fld) (f : Fld) (m : Msg), Sum.elim (fun a => (a.1, (0 : Int))) (fun v => v) (M_desc_Path_L1 s ps (out.length + 1) (out ++ [f]) m) = tailP s f ps (out ++ [f])
  | [], out, f, m => rfl
  | p :: ps, out, f, m => by
    rw [M_desc_Path_L1, tailP]
    have h1 : decide ((0 : Int) < ((out.length + 1 : Nat) : Int)) = true := by rw [decide_eq_true_eq]; omega
    have h2 : (out ++ [f]).getD (out.length + 1 - 1) zFld = f := by simp
    rw [h1, h2, cond_true, cond_or]
    show Sum.elim _ _ (cond (badF f) _ _) = _
    cases badF f with
    | true => rfl
    | false =>
      simp only [cond_false]
      cases (M_desc_Message s f.type.name).2 with
      | false => rfl
      | true =>
        simp only [Bool.not_true, cond_false]
        cases (M_desc_FieldNamed (M_desc_Message s f.type.name).1 p).2 with
        | false => rfl
        | true =>
          have := path_tail s ps (out ++ [f]) (M_desc_FieldNamed (M_desc_Message s f.type.name).1 p).1 (M_desc_Message s f.type.name).1
          rw [List.length_append] at this
          exact this
theorem path_head (s : Scm) (m : Msg) (ps : List ByteArray) : Sum.elim (fun a => (a.1, (0 : Int))) (fun v => v) (M_desc_Path_L1 s ps 0 [] m) = headP s m ps [] := by
  cases ps with
  | nil => rfl
  | cons p ps =>
    rw [M_desc_Path_L1, headP]
    have h1 : decide ((0 : Int) < ((0 : Nat) : Int)) = false := by decide
    rw [h1, cond_false]
    cases (M_desc_FieldNamed m p).2 with
    | false => rfl
    | true => exact path_tail s ps [] _ m
theorem rpath (s : Scm) : ∀ (fu : Nat) (path : ByteArray) (out : List Fld) (m : Msg), path.size < fu → Sum.elim (fun _ => (([] : List Fld), (0 : Int))) (fun v => v) (M_wireschemaref14_Path_L1 s fu path out m) = headP s m (M_genSplit path 46) out
  | 0, path, out, m, h => absurd h (Nat.not_lt_zero _)
  | fu + 1, path, out, m, h => by
    rw [M_wireschemaref14_Path_L1, pieces_cons, headP, fieldNamed_eq, message_eq]
    cases (M_desc_FieldNamed m (M_wireschemaref14_split path 46).1).2 with
    | false => rfl
    | true =>
      simp only [Bool.not_true, cond_false]
      cases hs : (M_wireschemaref14_split path 46).2.2 with
      | false => simp [hs, tailP]
      | true =>
        simp only [Bool.not_true, cond_false, cond_true]
        have hlt : (M_wireschemaref14_split path 46).2.1.size < path.size := split_lt (by rw [hs]; rfl)
        have ih := fun o m => rpath s fu (M_wireschemaref14_split path 46).2.1 o m (by omega)
        rw [pieces_cons] at ih ⊢
        rw [tailP]
        show Sum.elim _ _ (cond (badF _) _ _) = _
        cases badF (M_desc_FieldNamed m (M_wireschemaref14_split path 46).1).1 with
        | true => rfl
        | false =>
          simp only [cond_false]
          cases (M_desc_Message s (M_desc_FieldNamed m (M_wireschemaref14_split path 46).1).1.type.name).2 with
          | false => rfl
          | true => exact ih _ _
theorem path_eq (s : Scm) (name path : ByteArray) : M_wireschemaref14_Path s name path = M_desc_Path s name path := by
  rw [M_wireschemaref14_Path, M_desc_Path, message_eq, path_head, rpath s _ _ _ _ (Nat.lt_succ_self _)]
  rfl
end Go.Proofs.YtdiibhcdfmeagaaDoor
