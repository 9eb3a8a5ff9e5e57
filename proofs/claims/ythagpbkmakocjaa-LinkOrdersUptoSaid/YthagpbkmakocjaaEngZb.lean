/-
  Contracts of library functions, as the shelf proves them, turned into contracts of the walk: arguments of plain scalars; a scalar or a fresh row of scalars comes back.
-/
import Derived.Test.YthagpbkmakocjaaEngZa
namespace Go.Eng
set_option linter.all false
open Go Go.RowKit

/-! ### Elements of live rows -/
theorem vecC_nil {α : Type} (e : α → List D) : vecC e [] = [] := rfl
theorem vecC_cons {α : Type} (e : α → List D) (x : α) (xs : List α) : vecC e (x :: xs) = (e x).map .d ++ vecC e xs := by simp [vecC]
theorem vecC_drop {α : Type} {e : α → List D} {sz : Nat} (hl : ∀ x, (e x).length = sz) : ∀ (xs : List α) (j : Nat), (vecC e xs).drop (j * sz) = vecC e (xs.drop j)
  | [], j => by simp [vecC]
  | x :: xs, 0 => by simp
  | x :: xs, j + 1 => by
    have h1 : ((e x).map AV.d).length = sz := by rw [List.length_map, hl]
    rw [vecC_cons, Nat.add_mul, Nat.one_mul, Nat.add_comm, ← List.drop_drop, List.drop_left' h1, vecC_drop hl xs j]
    rfl
theorem vecC_take {α : Type} {e : α → List D} {sz : Nat} (hl : ∀ x, (e x).length = sz) : ∀ (xs : List α) (j : Nat), (vecC e xs).take (j * sz) = vecC e (xs.take j)
  | [], j => by simp [vecC]
  | x :: xs, 0 => by simp [vecC]
  | x :: xs, j + 1 => by
    have h1 : ((e x).map AV.d).length = sz := by rw [List.length_map, hl]
    rw [vecC_cons, List.take_succ_cons, vecC_cons, Nat.add_mul, Nat.one_mul, Nat.add_comm, List.take_append, h1, Nat.add_sub_cancel_left, vecC_take hl xs j, List.take_of_length_le (by omega)]
theorem getD_at {α : Type} {xs : List α} {j : Nat} {z : α} (hj : j < xs.length) : xs.drop j = xs.getD j z :: xs.drop (j + 1) := by
  rw [List.drop_eq_getElem_cons hj, List.getD_eq_getElem?_getD, List.getElem?_eq_getElem hj]; rfl
theorem cellsAt_vec {α : Type} {e e' : α → List D} {xs : List α} {j sz : Nat} {z : α} (hj : j < xs.length) (hl : ∀ x, (e x).length = sz) (he : ∀ x, e x = e' x) : CellsAt (vecC e xs) (j * sz) ((e' (xs.getD j z)).map .d) := by
  unfold CellsAt
  rw [vecC_drop hl, getD_at (z := z) hj, vecC_cons, he, List.take_left]
theorem cellsAt_vec' {α : Type} {e e' : α → List D} {xs : List α} {j sz o : Nat} {z : α} {c : List AV} (hj : j < xs.length) (hl : ∀ x, (e x).length = sz) (he : ∀ x, e x = e' x)
    (hc : (((e' (xs.getD j z)).map .d).drop o).take c.length = c) (ho : o + c.length ≤ sz) : CellsAt (vecC e xs) (j * sz + o) c := by
  unfold CellsAt
  have h1 : ((e' (xs.getD j z)).map AV.d).length = sz := by rw [List.length_map, ← he, hl]
  rw [← List.drop_drop, vecC_drop hl, getD_at (z := z) hj, vecC_cons, he, List.drop_append_of_le_length (by omega), List.take_append_of_le_length (by rw [List.length_drop]; omega), hc]
theorem stS_vec {α : Type} {e : α → List D} {xs : List α} {j sz : Nat} {y : α} (hj : j < xs.length) (hl : ∀ x, (e x).length = sz) : StS (vecC e xs) (j * sz) ((e y).map .d) (vecC e (xs.set j y)) := by
  have h1 : ((e y).map AV.d).length = sz := by rw [List.length_map, hl]
  have h2 : (j + 1) * sz ≤ xs.length * sz := Nat.mul_le_mul_right _ hj
  rw [Nat.add_mul, Nat.one_mul] at h2
  refine ⟨by rw [h1, vecC_len hl]; omega, ?_⟩
  rw [h1, vecC_take hl, show j * sz + sz = (j + 1) * sz from by rw [Nat.add_mul, Nat.one_mul], vecC_drop hl, List.set_eq_take_append_cons_drop, if_pos hj, vecC_app, vecC_cons, List.append_assoc]

theorem allF_nil {α : Type} {e : α → List D} : ∀ x ∈ ([] : List α), FitL (e x) := fun _ h => by cases h
theorem allF_cons {α : Type} {e : α → List D} {y : α} {xs : List α} (h : FitL (e y)) (k : ∀ x ∈ xs, FitL (e x)) : ∀ x ∈ y :: xs, FitL (e x) := fun x hx => by
  rcases List.mem_cons.1 hx with rfl | hx
  · exact h
  · exact k x hx
theorem fit_all {α : Type} {e : α → List D} {xs : List α} (h : ∀ x ∈ xs, FitL (e x)) (hl : xs.length < 2147483648) : Fit (.list (xs.map e)) :=
  .list _ (by simpa using hl) fun l hm => by obtain ⟨x, hx, rfl⟩ := List.mem_map.1 hm; exact h x hx

theorem fit_app {α : Type} {e : α → List D} {xs ys : List α} (h : Fit (.list (xs.map e))) (k : Fit (.list (ys.map e))) (hl : xs.length + ys.length < 2147483648) : Fit (.list ((xs ++ ys).map e)) :=
  fit_all (fun x hx => by
    rcases List.mem_append.1 hx with hx | hx
    · exact h.mem hx
    · exact k.mem hx) (by rw [List.length_append]; exact hl)
theorem fit_snoc {α : Type} {e : α → List D} {xs : List α} {y : α} (h : Fit (.list (xs.map e))) (k : FitL (e y)) (hl : xs.length + 1 < 2147483648) : Fit (.list ((xs ++ [y]).map e)) :=
  fit_app h (fit_all (allF_cons k allF_nil) (by simp)) (by simpa using hl)

def scV : D → Option Value
  | .int k n => some (.int k n)
  | .bool b => some (.bool b)
  | .str s => some (.string s)
  | .list _ => none
theorem scV_rep {w : World} {S : Nat → Prop} {d : D} {v : Value} (h : scV d = some v) : RepD w S d v := by
  cases d <;> simp only [scV, Option.some.injEq] at h <;> first | (subst h; constructor) | cases h
theorem scV_of {w : World} {S : Nat → Prop} {d : D} {u v : Value} (h : scV d = some v) (hr : RepD w S d u) : u = v := by
  cases hr <;> simp only [scV, Option.some.injEq] at h <;> first | exact h | cases h

theorem args_sc {w : World} {S : Nat → Prop} {H : Hp} {m : Mu} {l : Nat} {ds : List D} {V : List Value} {vs : Array Value} (h : ds.map scV = V.map some) (hA : ArgsRep w S H m l (ds.map .d) vs) : vs = V.toArray := by
  have hl : ds.length = V.length := by simpa using congrArg List.length h
  apply Array.ext'
  apply List.ext_getElem?
  intro i
  obtain ⟨h1, h2⟩ := hA
  have h1 : ds.length = vs.size := by simpa using h1
  rcases Nat.lt_or_ge i ds.length with hi | hi
  · have hv : vs[i]? = some vs[i] := Array.getElem?_eq_getElem (by omega)
    have hr := h2 i (.d ds[i]) vs[i] (by simp [List.getElem?_eq_getElem hi]) hv
    have e1 := congrArg (fun l => l[i]?) h
    simp only [List.getElem?_map, List.getElem?_eq_getElem hi, List.getElem?_eq_getElem (show i < V.length by omega), Option.map_some, Option.some.injEq] at e1
    rw [Array.getElem?_toList, hv, List.getElem?_eq_getElem (show i < V.length by omega)]
    cases hr with | d _ _ hd => rw [scV_of e1 hd]
  · rw [List.getElem?_eq_none (by simp; omega), List.getElem?_eq_none (by simp; omega)]

section
variable {P : Program} {f : FuncId} {l : Nat} {H : Hp} {Post : AV → Hp → Prop} {ds : List D} {V : List Value}

theorem acall_same {y : AV} {u : Value} (hb : ∃ fn c, P.funcs[f]? = some fn ∧ fn.body = some c ∧ (fn.name == "runtime.NumGoroutine") = false) (hV : ds.map scV = V.map some)
    (hu : ∀ w S m, RepA w S H m l y u) (hc : ∀ w, Calls P f V.toArray w (fun e w' => e = .returned u ∧ w' = w)) (h : Post y H) : ACall P f l (ds.map .d) H Post :=
  ⟨hb, fun m S w vs hO hA => by
    rw [args_sc hV hA]
    refine (hc w).mono fun e w' ⟨h1, h2⟩ => ?_
    subst h2
    exact ⟨y, u, H, m, S, h1, h, hO, hu _ _ _, Ext.refl _ _ _ _ _⟩⟩

theorem acall_row {es : List (List D)} {C : Array Value} {e : TypeId} {sz cap : Nat} (hb : ∃ fn c, P.funcs[f]? = some fn ∧ fn.body = some c ∧ (fn.name == "runtime.NumGoroutine") = false) (hV : ds.map scV = V.map some)
    (hc : ∀ w, Calls P f V.toArray w (fun e' w' => e' = .returned (.slice (some ⟨w.heap.size, 0, none⟩) es.length cap) ∧ w' = w.alloc (.cells C e))) (hcap : es.length ≤ cap) (hsz : ∀ x ∈ es, x.length = sz)
    (hC : ∀ (i j : Nat) (x : List D) (d : D), es[i]? = some x → x[j]? = some d → ∃ v, C[i * sz + j]? = some v ∧ scV d = some v) (h : Post (.d (.list es)) H) : ACall P f l (ds.map .d) H Post :=
  ⟨hb, fun m S w vs hO hA => by
    rw [args_sc hV hA]
    refine (hc w).mono fun e' w' ⟨h1, h2⟩ => ?_
    subst h2
    obtain ⟨k1, k2⟩ := hO.lit C e (w.alloc (.cells C e)) rfl rfl rfl rfl
    refine ⟨_, _, H, m, _, h1, h, k1, .d _ _ ?_, k2⟩
    have hblk : (w.alloc (.cells C e)).heap[w.heap.size]? = some (.cells C e (0, 0)) := by
      show (w.heap.push _)[w.heap.size]? = _
      rw [Array.getElem?_push, if_pos rfl]
    exact RepD.list (w := w.alloc (.cells C e)) (S := fun b => S b ∨ b = w.heap.size) es ⟨w.heap.size, 0, none⟩ sz cap (fun i j => (C[i * sz + j]?).getD undef) (fun _ => .inr rfl) hcap hsz
      (fun i j x d hi hj => by
        obtain ⟨v, e1, _⟩ := hC i j x d hi hj
        rw [Addr.add_lit, cell_row hblk, Nat.zero_add, e1]
        rfl)
      (fun i j x d hi hj => by
        obtain ⟨v, e1, e2⟩ := hC i j x d hi hj
        rw [e1]
        exact scV_rep e2)⟩
end
end Go.Eng
