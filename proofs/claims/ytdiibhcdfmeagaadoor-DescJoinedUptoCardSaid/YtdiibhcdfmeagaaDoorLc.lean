/-
  Walks and models of functions of this seat; by program (gen.py, seat.py), laws of the models by hand.
-/
import Derived.Test.YtdiibhcdfmeagaaDoorLawP
namespace Go.Proofs.YtdiibhcdfmeagaaDoor
set_option linter.all false
open Go Go.Eng
def AllFit (l : List Fld) : Prop := ∀ x ∈ l, FitL (eFld x)
theorem allFit_snoc {l : List Fld} {f : Fld} (h : AllFit l) (k : FitL (eFld f)) : AllFit (l ++ [f]) := fun x hx => by
  rcases List.mem_append.1 hx with hx | hx
  · exact h x hx
  · rw [List.mem_singleton.1 hx]; exact k
theorem fit_tail {s : Scm} (hs : FitL (eScm s)) : ∀ (ps : List ByteArray) (f : Fld) (out : List Fld), AllFit out → AllFit (tailP s f ps out).1 ∧ (tailP s f ps out).1.length ≤ out.length + ps.length
  | [], f, out, h => ⟨h, by simp [tailP]⟩
  | p :: ps, f, out, h => by
    rw [tailP]
    cases badF f with
    | true => exact ⟨fun x hx => (by cases hx), Nat.zero_le _⟩
    | false =>
      cases (M_desc_Message s f.type.name).2 with
      | false => exact ⟨fun x hx => (by cases hx), Nat.zero_le _⟩
      | true =>
        cases (M_desc_FieldNamed (M_desc_Message s f.type.name).1 p).2 with
        | false => exact ⟨fun x hx => (by cases hx), Nat.zero_le _⟩
        | true =>
          obtain ⟨h1, h2⟩ := fit_tail hs ps (M_desc_FieldNamed (M_desc_Message s f.type.name).1 p).1 _ (allFit_snoc h (fit_desc_FieldNamed (name := p) (fit_desc_Message (name := f.type.name) hs)))
          refine ⟨h1, Nat.le_trans h2 ?_⟩
          simp only [List.length_append, List.length_cons, List.length_nil]; omega
theorem genSplit_len (s : ByteArray) (c : UInt8) : (M_genSplit s c).length ≤ s.size + 1 := by
  have hle := Lib.countB_le ⟨#[c]⟩ (Nat.le_refl _) s.size s (Nat.le_refl _)
  have hlen := splitB_len ⟨#[c]⟩ 0 (Lib.countB s ⟨#[c]⟩) s
  unfold M_genSplit; omega
theorem len_tail (s : Scm) : ∀ (ps : List ByteArray) (f : Fld) (out : List Fld), (tailP s f ps out).1.length ≤ out.length + ps.length
  | [], f, out => by simp [tailP]
  | p :: ps, f, out => by
    rw [tailP]
    cases badF f with
    | true => exact Nat.zero_le _
    | false =>
      cases (M_desc_Message s f.type.name).2 with
      | false => exact Nat.zero_le _
      | true =>
        cases (M_desc_FieldNamed (M_desc_Message s f.type.name).1 p).2 with
        | false => exact Nat.zero_le _
        | true =>
          refine Nat.le_trans (len_tail s ps _ _) ?_
          simp only [List.length_append, List.length_cons, List.length_nil]; omega
theorem fit_desc_Path {s : Scm} {name path : ByteArray} (hs : FitL (eScm s)) (hp : path.size < 1048577) : Fit (.list ((M_desc_Path s name path).1.map eFld)) := by
  have key : AllFit (M_desc_Path s name path).1 ∧ (M_desc_Path s name path).1.length < 2147483648 := by
    rw [M_desc_Path, path_head]
    cases decide (path = ⟨#[]⟩) with
    | true => exact ⟨fun x hx => (by cases hx), by show 0 < _; omega⟩
    | false =>
      cases (M_desc_Message s name).2 with
      | false => exact ⟨fun x hx => (by cases hx), by show 0 < _; omega⟩
      | true =>
        simp only [Bool.not_true, cond_false]
        have hl := (fit_genSplit (c := 46) (s := path) (by omega)).len
        show AllFit (headP s _ (M_Split path) []).1 ∧ _
        rw [M_Split]
        cases hg : M_genSplit path 46 with
        | nil => exact ⟨fun x hx => (by cases hx), by show 0 < _; omega⟩
        | cons p ps =>
          rw [headP]
          cases (M_desc_FieldNamed (M_desc_Message s name).1 p).2 with
          | false => exact ⟨fun x hx => (by cases hx), by show 0 < _; omega⟩
          | true =>
            obtain ⟨h1, h2⟩ := fit_tail hs ps (M_desc_FieldNamed (M_desc_Message s name).1 p).1 _ (allFit_snoc (l := []) (fun x hx => (by cases hx)) (fit_desc_FieldNamed (name := p) (fit_desc_Message (name := name) hs)))
            rw [hg] at hl
            simp only [List.length_append, List.length_cons, List.length_nil] at h2 hl
            exact ⟨h1, Nat.lt_of_le_of_lt h2 (by omega)⟩
  exact fit_all key.1 key.2
theorem path_len (s : Scm) (name path : ByteArray) : (M_desc_Path s name path).1.length ≤ path.size + 1 := by
  rw [M_desc_Path, path_head]
  cases decide (path = ⟨#[]⟩) with
  | true => exact Nat.zero_le _
  | false =>
    cases (M_desc_Message s name).2 with
    | false => exact Nat.zero_le _
    | true =>
      simp only [Bool.not_true, cond_false]
      show (headP s _ (M_Split path) []).1.length ≤ _
      rw [M_Split]
      have hl := genSplit_len path 46
      cases hg : M_genSplit path 46 with
      | nil => exact Nat.zero_le _
      | cons p ps =>
        rw [headP]
        cases (M_desc_FieldNamed (M_desc_Message s name).1 p).2 with
        | false => exact Nat.zero_le _
        | true =>
          have h2 := len_tail s ps (M_desc_FieldNamed (M_desc_Message s name).1 p).1 ([] ++ [(M_desc_FieldNamed (M_desc_Message s name).1 p).1])
          rw [hg] at hl
          simp only [List.length_append, List.length_cons, List.length_nil] at h2 hl
          exact Nat.le_trans h2 (by omega)
def M_wireschemalaw14_DescPaths (s : Scm) (name : ByteArray) (path : ByteArray) : Bool := (((M_wireschemalaw14_fields ((M_desc_Path s name path).1) ((M_wireschemaref14_Path s name path).1)) && decide (((M_desc_Path s name path).2) = ((M_wireschemaref14_Path s name path).2))) && (M_wireschemalaw14_awake ))
set_option maxRecDepth 100000 in
theorem K_wireschemalaw14_DescPaths_b (C : Cx) (hC : CxOk C) (hO : C.outs = 0) (hF : C.fx = []) (s : Scm) (name : ByteArray) (path : ByteArray) (hs_path : path.size < 1048577) (hf_s : FitL (eScm s)) (Post : AV → List Blk → Prop) (h : Post (.d (.bool (M_wireschemalaw14_DescPaths s name path))) []) : LW Tryd.prog 36 C (bodyOf Tryd.f3) (mkS (zipS 0 [.agg ((eScm s).map .d), .d (.str name), .d (.str path)]) []) (FQ (lkT tl) [.tmp 6] 0 Post) := by
  refine LW_fin2 hC tok tmo hO (.go (.call (.tup [.d (.list (((M_desc_Path s name path).1).map eFld)), .d (.int .i64 ((M_desc_Path s name path).2))]) [] (.go (.call (.tup [.d (.list (((M_wireschemaref14_Path s name path).1).map eFld)), .d (.int .i64 ((M_wireschemaref14_Path s name path).2))]) [] (.call (.d (.bool (M_wireschemalaw14_fields ((M_desc_Path s name path).1) ((M_wireschemaref14_Path s name path).1)))) [] (.call (.d (.bool (M_wireschemalaw14_awake ))) [] (.nil))))))) [.tmp 6] (fun r Post => CallS Tryd.prog C.l r 10 ([] ++ [.agg ((eScm s).map .d), .d (.str name), .d (.str path)] ++ []) [] (.tup [.d (.list (((M_desc_Path s name path).1).map eFld)), .d (.int .i64 ((M_desc_Path s name path).2))]) ∧ CallS Tryd.prog C.l r 11 ([] ++ [.agg ((eScm s).map .d), .d (.str name), .d (.str path)] ++ []) [] (.tup [.d (.list (((M_wireschemaref14_Path s name path).1).map eFld)), .d (.int .i64 ((M_wireschemaref14_Path s name path).2))]) ∧ CallS Tryd.prog C.l r 12 ([] ++ [.d (.list (((M_desc_Path s name path).1).map eFld)), .d (.list (((M_wireschemaref14_Path s name path).1).map eFld))] ++ []) [] (.d (.bool (M_wireschemalaw14_fields ((M_desc_Path s name path).1) ((M_wireschemaref14_Path s name path).1)))) ∧ (((M_wireschemalaw14_fields ((M_desc_Path s name path).1) ((M_wireschemaref14_Path s name path).1)) && decide (((M_desc_Path s name path).2) = ((M_wireschemaref14_Path s name path).2))) = true → CallS Tryd.prog C.l r 13 ([] ++ [] ++ []) [] (.d (.bool (M_wireschemalaw14_awake )))) ∧ (Post (.d (.bool (((M_wireschemalaw14_fields ((M_desc_Path s name path).1) ((M_wireschemaref14_Path s name path).1)) && decide (((M_desc_Path s name path).2) = ((M_wireschemaref14_Path s name path).2))) && (M_wireschemalaw14_awake )))) [])) (fun r Post => by kernel_rfl) (fun r hθ hH hκ hN => ⟨(callS_of (fun H' => K_desc_Path _ H' s name path hs_path hf_s _ ⟨rfl, rfl⟩) (by kernel_rfl) (by kernel_rfl)), (callS_of (fun H' => K_wireschemaref14_Path _ H' s name path hf_s (by omega) _ ⟨rfl, rfl⟩) (by kernel_rfl) (by kernel_rfl)), (callS_of (fun H' => K_wireschemalaw14_fields _ H' ((M_desc_Path s name path).1) ((M_wireschemaref14_Path s name path).1) (fit_desc_Path hf_s hs_path) _ ⟨rfl, rfl⟩) (by kernel_rfl) (by kernel_rfl)), (fun hgd => (callS_of (fun H' => K_wireschemalaw14_awake _ H'   _ ⟨rfl, rfl⟩) (by kernel_rfl) (by kernel_rfl))), ?_⟩)
  · have hh := h
    simp only [M_wireschemalaw14_DescPaths, cond_true, cond_false, Sum.elim_inl, Sum.elim_inr] at hh
    exact hh
theorem K_wireschemalaw14_DescPaths (ℓ : Nat) (ℋ : Hp)  (s : Scm) (name : ByteArray) (path : ByteArray)  (hs_path : path.size < 1048577) (hf_s : FitL (eScm s)) (Post : AV → Hp → Prop) (h : Post (.d (.bool (M_wireschemalaw14_DescPaths s name path))) ℋ) : ACall Tryd.prog 3 ℓ [.agg ((eScm s).map .d), .d (.str name), .d (.str path)] ℋ Post :=
  acall_pure (n := 36) [.tmp 6] (bodyOf Tryd.f3) (fun _ => .top) [.agg ((eScm s).map .d), .d (.str name), .d (.str path)] Tryd.func3 (by kernel_rfl) (by kernel_rfl) Tryd.ntmps3 (by kernel_rfl) (by simp) tok (by kernel_rfl) (fun B => K_wireschemalaw14_DescPaths_b (cxP ℓ (fun _ => .top) ℋ B) (cxOk_pure ℓ B _ ℋ) rfl rfl s name path hs_path hf_s (fun y _ => Post y ℋ) h)
theorem DescPaths_true (s : Scm) (name path : ByteArray) : M_wireschemalaw14_DescPaths s name path = true := by
  rw [M_wireschemalaw14_DescPaths, path_eq, fields_refl, awake_true]
  simp
end Go.Proofs.YtdiibhcdfmeagaaDoor
