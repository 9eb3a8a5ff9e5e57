/-
  slices.Grow of a nil slice, off the shelf: a new block without elements.
-/
import Derived.Test.YthagpbkmakocjaaEngZe
import Derived.Shelf.Spec.SlicesGrow
namespace Go.Eng
set_option linter.all false
open Go Go.RowKit Go.Shelf

theorem args_e0_int {w : World} {S : Nat → Prop} {H : Hp} {m : Mu} {l : Nat} {vs : Array Value} {n : Int} (hA : ArgsRep w S H m l [.e0, .d (.int .i64 n)] vs) : ∃ a, vs = #[.slice a 0 0, .int .i64 n] := by
  obtain ⟨hs, hr⟩ := hA
  obtain ⟨l⟩ := vs
  match l, hs, hr with
  | [v0, v1], _, hr =>
    have h0 := hr 0 .e0 v0 rfl rfl
    have h1 := hr 1 (.d (.int .i64 n)) v1 rfl rfl
    cases h0 with
    | e0 a =>
      cases h1 with
      | d _ _ h1 =>
        cases h1 with
        | int => exact ⟨a, rfl⟩

theorem acall_grow {P : Program} {ρ : Go.Shelf.Ren} (L : Go.Proofs.Lays8.n4 P ρ) (i0 : TypeInfo) (z : Value) (hi0 : P.info? (ρ.t 25) = some i0) (hz0 : i0.zero = some z) (hs0 : 0 < i0.size) (hzs : z.cells.size = i0.size) (hby : i0.bytes ≤ 4096)
    (hb : ∃ fn c, P.funcs[ρ.f 4]? = some fn ∧ fn.body = some c ∧ (fn.name == "runtime.NumGoroutine") = false) {ℓ : Nat} {ℋ : Hp} {k : Key} (hk : k.1 ≤ ℓ) {g : Nat} (hg : (ℋ k).g = g) (n : Nat) (hn : n < 2147483648) {Post : AV → Hp → Prop}
    (h : Post (.ref k (g + 1) 0 0) (updH ℋ k ⟨g + 1, true, ρ.t 25, i0.size, []⟩)) : ACall P (ρ.f 4) ℓ [.e0, .d (.int .i64 n)] ℋ Post :=
  ⟨hb, fun m S w vs hO hA => by
    obtain ⟨a, rfl⟩ := args_e0_int hA
    subst hg
    by_cases h0 : n = 0
    · subst h0
      refine (Go.Proofs.Any8.slices_Grow_room L a 0 0 0 w (by omega) (by omega) (by omega) (by omega)).mono fun e w' ⟨h1, h2⟩ => ?_
      subst h2
      obtain ⟨k1, k2⟩ := hO.overEmpty k hk ((ℋ k).g + 1) (ρ.t 25) i0.size (by omega) ⟨0, 0, 0⟩ rfl
      refine ⟨_, _, _, _, _, h1, h, k1, ?_, k2⟩
      have := RepA.refL (w := w') (S := S) (H := updH ℋ k ⟨(ℋ k).g + 1, true, ρ.t 25, i0.size, []⟩) (m := updM m k ⟨0, 0, 0⟩) (l := ℓ) k 0 0 a hk (by rw [updH_same]) (by omega) (fun q => by rw [updM_same] at q; exact absurd q (Nat.lt_irrefl 0))
      rw [updH_same, updM_same] at this
      exact this
    · have hb2 : n * i0.bytes ≤ 2147483648 * 4096 := Nat.mul_le_mul (by omega) hby
      refine (Go.Proofs.Any8.slices_Grow_grow L i0 z hi0 hz0 hs0 a 0 0 n [] w (by omega) (by omega) (by rw [Nat.zero_add]; omega) (by omega) (by simp) (fun _ => rfl) (fun _ _ j v hj => by simp at hj)).mono fun e w' ⟨h1, h2⟩ => ?_
      have hG : n ≤ grownCap w (0 + n) 0 (ρ.t 25) := by have := grownCap_ge w (0 + n) 0 (ρ.t 25); omega
      generalize grownCap w (0 + n) 0 (ρ.t 25) = G at *
      subst h2
      obtain ⟨k1, k2⟩ := hO.alloc k hk (ρ.t 25) i0.size G [] (([] : List Value).toArray ++ Builtin.zeroCells z.cells (0 + n - 0) ++ Builtin.zeroCells z.cells (G - (0 + n))) (by omega)
        (by simp only [Array.size_append, zeroCells_size, hzs]; rw [show ([] : List Value).toArray.size = 0 from rfl, Nat.zero_add, ← Nat.add_mul, show 0 + n - 0 + (G - (0 + n)) = G from by omega]) (Nat.zero_le _) (fun i x v hx => by simp at hx)
        (w.drew.alloc (.cells (([] : List Value).toArray ++ Builtin.zeroCells z.cells (0 + n - 0) ++ Builtin.zeroCells z.cells (G - (0 + n))) (ρ.t 25))) rfl rfl rfl rfl
      refine ⟨_, _, _, _, _, h1, h, k1, ?_, k2⟩
      have := RepA.refL (w := w.drew.alloc (.cells (([] : List Value).toArray ++ Builtin.zeroCells z.cells (0 + n - 0) ++ Builtin.zeroCells z.cells (G - (0 + n))) (ρ.t 25))) (S := S) (H := updH ℋ k ⟨(ℋ k).g + 1, true, ρ.t 25, i0.size, []⟩) (m := updM m k ⟨w.heap.size, 0, G⟩) (l := ℓ) k 0 0 (some ⟨w.heap.size, 0, none⟩) hk (by rw [updH_same]) (by omega) (fun _ => by rw [updM_same]; simp)
      rw [updH_same, updM_same] at this
      exact this⟩
theorem slS_map {α : Type} {e : α → List D} {xs : List α} {l h : Nat} (q : SlS l h xs.length) : SlS l h (xs.map e).length := by rw [List.length_map]; exact q
theorem slD_len {α : Type} {e : α → List D} {xs : List α} {sz : Nat} (he : ∀ x, (e x).length = sz) : ∀ d, d ∈ xs.map e → d.length = sz := fun d h => by
  obtain ⟨x, _, rfl⟩ := List.mem_map.1 h
  exact he x
theorem slD_take {α : Type} {e : α → List D} {xs : List α} {sz h : Nat} (he : ∀ x, (e x).length = sz) : SlD (xs.map e) sz 0 h ((xs.take h).map e) :=
  ⟨slD_len he, by rw [List.drop_zero, Nat.sub_zero, List.map_take]⟩
theorem slD_drop {α : Type} {e : α → List D} {xs : List α} {sz l : Nat} (he : ∀ x, (e x).length = sz) : SlD (xs.map e) sz l xs.length ((xs.drop l).map e) :=
  ⟨slD_len he, by rw [← List.map_drop, ← List.map_take, List.take_of_length_le (by rw [List.length_drop]; exact Nat.le_refl _)]⟩
theorem slD_mid {α : Type} {e : α → List D} {xs : List α} {sz l h : Nat} (he : ∀ x, (e x).length = sz) : SlD (xs.map e) sz l h (((xs.drop l).take (h - l)).map e) :=
  ⟨slD_len he, by rw [← List.map_drop, ← List.map_take]⟩
theorem fit_take {α : Type} {e : α → List D} {xs : List α} {n : Nat} (h : Fit (.list (xs.map e))) : Fit (.list ((xs.take n).map e)) :=
  fit_all (fun x hx => h.mem (List.mem_of_mem_take hx)) (Nat.lt_of_le_of_lt (List.length_take_le' _ _) h.len)
theorem fit_drop {α : Type} {e : α → List D} {xs : List α} {n : Nat} (h : Fit (.list (xs.map e))) : Fit (.list ((xs.drop n).map e)) :=
  fit_all (fun x hx => h.mem (List.mem_of_mem_drop hx)) (Nat.lt_of_le_of_lt (by rw [List.length_drop]; omega) h.len)
theorem sum_take_succ {α : Type} (ls : List (List α)) (i : Nat) (h : i < ls.length) : ((ls.take (i + 1)).map List.length).sum = ((ls.take i).map List.length).sum + (ls.getD i []).length := by
  rw [List.take_add_one, List.getD_eq_getElem?_getD, List.getElem?_eq_getElem h, Option.toList_some, Option.getD_some, List.map_append, List.sum_append]; simp
theorem sum_take_le {α : Type} (ls : List (List α)) (i : Nat) : ((ls.take i).map List.length).sum ≤ (ls.map List.length).sum := by
  conv => rhs; rw [← List.take_append_drop i ls]
  rw [List.map_append, List.sum_append]; exact Nat.le_add_right _ _
theorem sum_take_lt {α : Type} (ls : List (List α)) (i : Nat) (h : i < ls.length) : ((ls.take i).map List.length).sum + (ls.getD i []).length ≤ (ls.map List.length).sum := by
  rw [← sum_take_succ ls i h]; exact sum_take_le ls _
theorem flat_take_succ {α : Type} (ls : List (List α)) (i : Nat) (h : i < ls.length) : (ls.take (i + 1)).flatten = (ls.take i).flatten ++ ls.getD i [] := by
  rw [List.take_add_one, List.getD_eq_getElem?_getD, List.getElem?_eq_getElem h, Option.toList_some, Option.getD_some, List.flatten_append]; simp
theorem flat_len {α : Type} (ls : List (List α)) : ls.flatten.length = (ls.map List.length).sum := by rw [List.length_flatten]
theorem idxR0_int {i : Int} {len sz : Nat} (h0 : 0 ≤ i) (h : i < len) : IdxR i len 0 sz (i.toNat * sz) := ⟨h0, h, by simp⟩
theorem stS_part {α : Type} {e : α → List D} {xs : List α} {j sz fo : Nat} {z y : α} {vs : List D} (hj : j < xs.length) (hl : ∀ x, (e x).length = sz) (hf : fo + vs.length ≤ sz) (he : e y = (e (xs.getD j z)).take fo ++ vs ++ (e (xs.getD j z)).drop (fo + vs.length)) :
    StS (vecC e xs) (j * sz + fo) (vs.map .d) (vecC e (xs.set j y)) := by
  have h2 : (j + 1) * sz ≤ xs.length * sz := Nat.mul_le_mul_right _ hj
  rw [Nat.add_mul, Nat.one_mul] at h2
  refine ⟨by rw [List.length_map, vecC_len hl]; omega, ?_⟩
  have hx : xs.getD j z = xs[j] := by rw [List.getD_eq_getElem?_getD, List.getElem?_eq_getElem hj]; rfl
  rw [hx] at he
  have hs : vecC e xs = vecC e (xs.take j) ++ ((e xs[j]).map .d ++ vecC e (xs.drop (j + 1))) := by
    conv => lhs; rw [← List.take_append_drop j xs, List.drop_eq_getElem_cons hj, vecC_app, vecC_cons]
  have ha : (vecC e (xs.take j)).length = j * sz := by rw [vecC_len hl, List.length_take, Nat.min_eq_left (by omega)]
  have hb : ((e xs[j]).map AV.d).length = sz := by rw [List.length_map, hl]
  rw [hs, List.take_append, List.take_of_length_le (by omega : (vecC e (xs.take j)).length ≤ j * sz + fo), ha, show j * sz + fo - j * sz = fo from by omega, List.take_append_of_le_length (by omega),
    List.drop_append, List.drop_of_length_le (by rw [ha]; omega), ha, List.nil_append, show j * sz + fo + (vs.map AV.d).length - j * sz = fo + vs.length from by rw [List.length_map]; omega, List.drop_append_of_le_length (by omega),
    List.set_eq_take_append_cons_drop, if_pos hj, vecC_app, vecC_cons, he]
  simp only [List.map_append, List.map_take, List.map_drop, List.append_assoc]
theorem stS_all {α : Type} {e : α → List D} {xs : List α} {sz : Nat} {C : List AV} (hC : C.length = xs.length * sz) (hl : ∀ x, (e x).length = sz) : StS C (0 * sz) (vecC e xs) (vecC e xs) := by
  refine ⟨by rw [vecC_len hl, hC]; omega, ?_⟩
  rw [vecC_len hl, List.drop_of_length_le (by rw [hC]; omega)]; simp
theorem flatC_rep {z : List AV} {m : Nat} (h : z.all AV.flat = true) : FlatC (List.replicate m z).flatten := fun x hx => by
  obtain ⟨l, hl, hx⟩ := List.mem_flatten.1 hx
  rw [List.eq_of_mem_replicate hl] at hx
  exact List.all_eq_true.1 h x hx
end Go.Eng
