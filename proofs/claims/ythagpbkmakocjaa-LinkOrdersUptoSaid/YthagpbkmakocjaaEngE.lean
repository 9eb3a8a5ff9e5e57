/-
  The abstract state of a walk, part E: slice expressions, structs built, 'vOp' as a whole.
-/
import Derived.Test.YthagpbkmakocjaaEngD
namespace Go.Eng
set_option linter.all false
open Go Go.RowKit

/-- a struct all of whose fields are known -/
def strB (P : Program) (t : TypeId) : Bool := match P.underlying t, P.info? t with | some (.struct fs), some _ => fs.toList.all (fun f => (P.info? f.type).isSome) | _, _ => false

def vBuild (P : Program) (t : TypeId) (parts : List (Nat × AV)) (K : AV → Prop) : Prop :=
  strB P t = true ∧ match zer P t with
    | some z => match fillA (fld P t) z parts with | some cs => K (.agg cs) | none => False
    | none => False

section
variable {P : Program} {l n : Nat} {H : Hp} {m : Mu} {S : Nat → Prop} {w : World} {s : Nat → AV} {a : Act}

theorem bnd_run {d : Nat} {o : Option AV} {b : Nat} (h : bnd d o = some b) {ov : Option Value} (ho : ∀ x, o = some x → ∃ v, ov = some v ∧ RepA w S H m l x v) (hn : o = none → ov = none) (y : Nat) (hy : b ≤ y) (hd : o = none → d = b) (code : BoundsCode) :
    (match ov with | some v => Instr.sliceBound v y code | none => (pure d : Sem Nat)).run P w = .ok b w := by
  cases o with
  | none =>
    rw [hn rfl]
    simp [hd rfl]
  | some x =>
    obtain ⟨v, rfl, hx⟩ := ho x rfl
    unfold bnd at h
    split at h
    · rename_i heq; cases heq
    · rename_i k j heq
      simp only [Option.some.injEq] at heq
      subst heq
      split at h
      · rename_i h0
        simp only [Option.some.injEq] at h
        subst h
        cases hx with
        | d _ _ hd' =>
          cases hd'
          exact run_sliceBound (P := P) (w := w) k j y code h0 (by omega)
      · cases h
    · cases h

/-- the operands of a slice expression's bounds -/
def OV (w : World) (S : Nat → Prop) (H : Hp) (m : Mu) (l : Nat) (o : Option AV) (ov : Option Value) : Prop := (∀ x, o = some x → ∃ v, ov = some v ∧ RepA w S H m l x v) ∧ (o = none → ov = none)

theorem bounds_run {isSlice : Bool} {len cap : Nat} {lo hi : Option AV} {lv hv : Option Value} {b c : Nat} (h1 : bnd 0 lo = some b) (h2 : bnd len hi = some c) (hl : OV w S H m l lo lv) (hh : OV w S H m l hi hv)
    (hbc : b ≤ c) (hc : c ≤ len) (hcap : len ≤ cap) : (Instr.sliceBounds isSlice len cap lv hv none).run P w = .ok (b, c, cap) w := by
  unfold Instr.sliceBounds
  have e2 : (match hv, (none : Option Value) with
      | some v, some _ => Instr.sliceBound v cap .slice3B
      | some v, none => Instr.sliceBound v cap (if isSlice then .sliceAcap else .sliceAlen)
      | none, none => pure len
      | none, some _ => stuck "Slice: max without high").run P w = .ok c w := by
    have := bnd_run (P := P) (w := w) h2 hh.1 hh.2 cap (by omega) (fun e => by subst e; simpa [bnd] using h2) (if isSlice then .sliceAcap else .sliceAlen)
    cases hv <;> simpa using this
  have e3 : (match lv with
      | some v => Instr.sliceBound v c (if (none : Option Value).isSome then .slice3C else .sliceB)
      | none => pure 0).run P w = .ok b w := bnd_run (P := P) (w := w) h1 hl.1 hl.2 c hbc (fun e => by subst e; simpa [bnd] using h1) _
  cases hv <;> cases lv <;> simp only at e2 e3 <;> simp [e2, e3] <;> simp_all

theorem vSlice_sound {t : TypeId} {x : AV} {lo hi : Option AV} {mx : Bool} {v : Value} {lv hv mv : Option Value} {K : AV → Prop} (h : vSlice P H t x lo hi mx K) (hx : RepA w S H m l x v)
    (hl : OV w S H m l lo lv) (hh : OV w S H m l hi hv) (hm : mx = false → mv = none) :
    ∃ v' x', (Instr.sliceAt t v lv hv mv).run P w = .ok v' w ∧ RepA w S H m l x' v' ∧ K x' := by
  unfold vSlice at h
  split at h
  · rename_i s
    obtain ⟨hk, hmx, h⟩ := h
    obtain rfl := hm hmx
    have hu := kin_str hk
    split at h
    · rename_i b c e1 e2
      obtain ⟨hbc, hc, hK⟩ := h
      cases hx with
      | d _ _ hd =>
        cases hd
        refine ⟨.string (s.extract b c), _, ?_, .d _ _ (.str _), hK⟩
        have hb := bounds_run (P := P) (isSlice := false) (len := s.size) (cap := s.size) (w := w) e1 e2 hl hh hbc hc (Nat.le_refl _)
        simp [Instr.sliceAt, Instr.slice, run_underlying hu, hb]
    · exact h.elim
  · rename_i es
    obtain ⟨hmx, h⟩ := h
    obtain rfl := hm hmx
    split at h
    · rename_i e sz b c he e1 e2
      obtain ⟨hu, hsz⟩ := elm_some he
      obtain ⟨hz, hall, hbc, hc, hK⟩ := h
      cases hx with
      | d _ _ hd =>
        cases hd with
        | nil =>
          have hb := bounds_run (P := P) (isSlice := true) (len := 0) (cap := 0) (w := w) e1 e2 hl hh hbc (by simpa using hc) (Nat.le_refl _)
          simp only [List.length_nil, Nat.le_zero] at hc
          subst hc
          obtain rfl : b = 0 := by omega
          refine ⟨.slice none 0 0, _, ?_, .d _ _ .nil, by simpa using hK⟩
          simp [Instr.sliceAt, Instr.slice, run_underlying hu, hb, run_size (P := P) (t := e) (hsz ▸ hz)]
        | list es ad sz' cap cc hb hcap hsz' hcc hrr =>
          have hbr := bounds_run (P := P) (isSlice := true) (len := es.length) (cap := cap) (w := w) e1 e2 hl hh hbc hc hcap
          refine ⟨.slice (some (if cap = b then ad else ad.add (b * sz))) (c - b) (cap - b), _, ?_, ?_, hK⟩
          · simp only [Instr.sliceAt, Instr.slice, run_underlying hu, Sem.run_bind, Result.andThen_ok, hbr, run_size (P := P) (t := e) (hsz ▸ hz), hsz]
            by_cases hcb : cap = b <;> simp [hcb]
          · have hlen : ((es.drop b).take (c - b)).length = c - b := by simp; omega
            by_cases hbc' : b = c
            · subst hbc'
              simp only [Nat.sub_self, List.take_zero]
              exact .d _ _ (.list [] _ 0 _ (fun _ _ => .bool true) (fun h => absurd rfl h) (Nat.zero_le _) (fun _ h => by cases h) (fun i j e x h => by simp at h) (fun i j e x h => by simp at h))
            · have hne : cap ≠ b := by omega
              rw [if_neg hne]
              have key : ∀ (i : Nat) (q : List D), ((es.drop b).take (c - b))[i]? = some q → es[b + i]? = some q := by
                intro i q hq
                rw [List.getElem?_take] at hq
                split at hq
                · rwa [List.getElem?_drop] at hq
                · cases hq
              have := RepD.list (w := w) (S := S) ((es.drop b).take (c - b)) (ad.add (b * sz)) sz (cap - b) (fun i j => cc (b + i) j)
                (fun _ => by rw [block_add]; exact hb (by rintro rfl; simp at hc; omega)) (by rw [hlen]; omega) (fun q hq => hall q (List.mem_of_mem_drop (List.mem_of_mem_take hq)))
                (fun i j q x hi hj => by
                  rw [add_add]
                  have h1 := hcc (b + i) j q x (key i q hi) hj
                  have h2 : sz' = sz := by rw [← hsz' q (List.mem_of_getElem? (key i q hi)), hall q (List.mem_of_getElem? (key i q hi))]
                  rw [h2, Nat.add_mul, Nat.add_assoc] at h1
                  exact h1)
                (fun i j q x hi hj => hrr (b + i) j q x (key i q hi) hj)
              rw [hlen] at this
              exact .d _ _ this
    · exact h.elim
  · rename_i k g off len
    obtain ⟨hmx, hg, hlv, h⟩ := h
    obtain rfl := hm hmx
    split at h
    · rename_i e sz b c he e1 e2
      obtain ⟨hu, hsz⟩ := elm_some he
      obtain ⟨hz, hs, hbc, hc, hK⟩ := h
      cases hx with
      | refL k off n oa hk hl' hn ha =>
        have hbr := bounds_run (P := P) (isSlice := true) (len := len) (cap := (m k).cap - off) (w := w) e1 e2 hl hh hbc hc (by omega)
        refine ⟨.slice (if (m k).cap - off = b then oa else oa.map (·.add (b * sz))) (c - b) ((m k).cap - (off + b)), _, ?_, .refL k (off + b) (c - b) _ hk hl' (by omega) (fun ho => ?_), hK⟩
        · simp only [Instr.sliceAt, Instr.slice, run_underlying hu, Sem.run_bind, Result.andThen_ok, hbr, run_size (P := P) (t := e) (hsz ▸ hz), hsz]
          rw [show (m k).cap - (off + b) = (m k).cap - off - b from by omega]
          rfl
        · rw [if_neg (by omega), ha (by omega), hs]
          simp [Addr.add_lit, Nat.add_mul, Nat.add_assoc]
      | refD k g off n v hk hg' hd h1 => rw [hd hg] at hlv; cases hlv
    · exact h.elim
  · exact h.elim

/-! ### Structs that are built -/
def CellsRep (w : World) (S : Nat → Prop) (H : Hp) (m : Mu) (l : Nat) (xs : List AV) (C : Array Value) : Prop :=
  xs.length = C.size ∧ ∀ (i : Nat) (x : AV) (v : Value), xs[i]? = some x → C[i]? = some v → v.oneCell' = true ∧ RepA w S H m l x v

theorem cells_rep {x : AV} {v : Value} {xs : List AV} (hx : RepA w S H m l x v) (h : cellsAV x = some xs) : CellsRep w S H m l xs v.cells := by
  have one : ∀ {x : AV} {v : Value}, RepA w S H m l x v → v.oneCell' = true → CellsRep w S H m l [x] v.cells := by
    intro x v hx h1
    have e : v.cells = #[v] := by cases v <;> first | rfl | cases h1
    rw [e]
    refine ⟨rfl, fun i y u hi hu => ?_⟩
    cases i with
    | zero => simp at hi hu; subst hi; subst hu; exact ⟨h1, hx⟩
    | succ i => simp at hi
  cases hx <;> simp only [cellsAV, Option.some.injEq] at h <;> try cases h
  case d x hd => exact one (.d _ _ hd) hd.one
  case e0 a => exact one (.e0 a) rfl
  case p h1 => exact one (.p _ h1) h1
  case refL k off n oa hk hl hn ha => exact one (.refL k off n oa hk hl hn ha) rfl
  case refD k g off n hk hg hd h1 => exact one (.refD k g off n _ hk hg hd h1) h1
  case ptrL k off hk hl => exact one (.ptrL k off hk hl) rfl
  case ptrD k g off hk hg hd h1 => exact one (.ptrD k g off _ hk hg hd h1) h1
  case iptr cs off a c hb hc hr => exact one (.iptr cs off a c hb hc hr) rfl
  case fn f xs ys vs us hx hy h1 h2 => exact one (.fn f xs ys vs us hx hy h1 h2) rfl
  case agg vs h1 hl hc => exact ⟨hl, fun i x v hi hv => ⟨h1 i v hv, hc i x v hi hv⟩⟩

theorem foldl_set (off : Nat) : ∀ (vs : List Value) (j : Nat) (C : Array Value), off + j + vs.length ≤ C.size →
    ((vs.zipIdx j).foldl (fun cs (c : Value × Nat) => cs.setIfInBounds (off + c.2) c.1) C).toList = C.toList.take (off + j) ++ vs ++ C.toList.drop (off + j + vs.length)
  | [], j, C, _ => by simp
  | v :: vs, j, C, h => by
    simp only [List.length_cons] at h
    simp only [List.zipIdx_cons, List.foldl_cons]
    rw [foldl_set off vs (j + 1) _ (by simp; omega)]
    have hlt : off + j < C.toList.length := by simp; omega
    simp only [Array.toList_setIfInBounds]
    rw [show off + (j + 1) = off + j + 1 from by omega]
    rw [List.take_succ_eq_append_getElem (by simpa using hlt)]
    simp only [List.getElem_set_self, List.take_set_of_le (Nat.le_refl _)]
    rw [List.drop_set_of_lt (by omega)]
    simp only [List.append_assoc, List.cons_append, List.nil_append, List.length_cons]
    rw [show off + j + 1 + vs.length = off + j + (vs.length + 1) from by omega]

theorem CellsRep.splice {zs xs : List AV} {Z C : Array Value} (hz : CellsRep w S H m l zs Z) (hx : CellsRep w S H m l xs C) (off : Nat) (ho : off + xs.length ≤ zs.length) :
    CellsRep w S H m l (zs.take off ++ xs ++ zs.drop (off + xs.length)) (Z.toList.take off ++ C.toList ++ Z.toList.drop (off + C.toList.length)).toArray := by
  have e1 := hz.1
  have e2 := hx.1
  have e3 : C.toList.length = xs.length := by simp [e2]
  refine ⟨by simp; omega, fun i x v hi hv => ?_⟩
  rw [e3] at hv
  have hv : (Z.toList.take off ++ C.toList ++ Z.toList.drop (off + xs.length))[i]? = some v := by simpa using hv
  rcases Nat.lt_or_ge i off with h | h
  · rw [List.append_assoc, List.getElem?_append_left (by simp; omega), List.getElem?_take, if_pos h] at hi
    rw [List.append_assoc, List.getElem?_append_left (by simp; omega), List.getElem?_take, if_pos h, Array.getElem?_toList] at hv
    exact hz.2 i x v hi hv
  · rcases Nat.lt_or_ge i (off + xs.length) with h' | h'
    · rw [List.getElem?_append_left (by simp; omega), List.getElem?_append_right (by simp; omega)] at hi
      rw [List.getElem?_append_left (by simp; omega), List.getElem?_append_right (by simp; omega), Array.getElem?_toList] at hv
      simp only [List.length_take] at hi hv
      rw [Nat.min_eq_left (by omega)] at hi
      rw [Nat.min_eq_left (by simp; omega)] at hv
      exact hx.2 _ x v hi hv
    · rw [List.getElem?_append_right (by simp; omega), List.getElem?_drop] at hi
      rw [List.getElem?_append_right (by simp; omega), List.getElem?_drop, Array.getElem?_toList] at hv
      simp only [List.length_append, List.length_take] at hi hv
      rw [Nat.min_eq_left (by omega)] at hi
      rw [Nat.min_eq_left (by simp; omega), e3] at hv
      exact hz.2 _ x v hi hv

theorem fill_sound {place : Nat → Option (Nat × Nat)} : ∀ (ps : List (Nat × AV)) (vs : List (Nat × Value)) (zs : List AV) (Z : Array Value) (cs : List AV), CellsRep w S H m l zs Z →
    ps.length = vs.length → (∀ (i : Nat) (p : Nat × AV) (q : Nat × Value), ps[i]? = some p → vs[i]? = some q → p.1 = q.1 ∧ RepA w S H m l p.2 q.2) →
    fillA place zs ps = some cs → ∃ C, Instr.fill place Z vs = some C ∧ CellsRep w S H m l cs C
  | [], [], zs, Z, cs, hz, _, _, h => by
    simp only [fillA, Option.some.injEq] at h
    subst h
    exact ⟨Z, rfl, hz⟩
  | [], _ :: _, _, _, _, _, hl, _, _ => by simp at hl
  | _ :: _, [], _, _, _, _, hl, _, _ => by simp at hl
  | (i, x) :: ps, (j, v) :: vs, zs, Z, cs, hz, hl, hp, h => by
    obtain ⟨e, hx⟩ := hp 0 (i, x) (j, v) rfl rfl
    simp only at e hx
    subst e
    simp only [fillA] at h
    split at h
    · rename_i off size xs hpl hcx
      split at h
      · cases h
      · rename_i hc
        have hcr := cells_rep hx hcx
        have e1 := hcr.1
        have e2 := hz.1
        have hc1 : xs.length = size := by
          rcases Nat.lt_trichotomy xs.length size with h | h | h
          · exact absurd (Or.inl (by omega)) hc
          · exact h
          · exact absurd (Or.inl (by omega)) hc
        have hc2 : off + xs.length ≤ zs.length := by
          rcases Nat.lt_or_ge zs.length (off + xs.length) with h | h
          · exact absurd (Or.inr h) hc
          · exact h
        have hs := hz.splice hcr off hc2
        obtain ⟨C, hC, hr⟩ := fill_sound ps vs _ _ cs hs (by simpa using hl) (fun i p q h1 h2 => hp (i + 1) p q (by simpa using h1) (by simpa using h2)) h
        refine ⟨C, ?_, hr⟩
        simp only [Instr.fill, hpl]
        have hn : ¬ ((decide (v.cells.size ≠ size) || decide (off + v.cells.size > Z.size)) = true) := by
          simp only [Bool.or_eq_true, decide_eq_true_eq]
          rintro (h | h)
          · exact h (by omega)
          · omega
        rw [if_neg hn]
        rw [← hC]
        congr 1
        apply Array.ext'
        have := foldl_set off v.cells.toList 0 Z (by simp; omega)
        simp only [Nat.add_zero] at this
        rw [← Array.foldl_toList, Array.toList_zipIdx]
        exact this
    · cases h
end
end Go.Eng
