/-
  Reckoning by the kernel, part Z: tables of types; reckonings as equations.
-/
import Derived.Test.YthagpbkmakocjaaEngY
namespace Go.Eng
set_option linter.all false
open Go Go.RowKit

def lkT : List (Nat × TI) → Nat → Option TI
  | [], _ => none
  | (i, x) :: r, j => match Nat.beq i j with | true => some x | false => lkT r j
theorem TOk_of {P : Program} : ∀ (tl : List (Nat × TI)), (∀ p ∈ tl, TIok P p.1 p.2) → TOk P (lkT tl)
  | [], _, t, i, h => by simp [lkT] at h
  | (j, x) :: r, hp, t, i, h => by
    simp only [lkT] at h
    split at h
    · rename_i he
      have he := Nat.eq_of_beq_eq_true he
      cases h
      subst he
      exact hp _ (List.mem_cons_self ..)
    · exact TOk_of r (fun p hp' => hp p (List.mem_cons_of_mem _ hp')) t i h
theorem TIok.of {P : Program} {t : TypeId} {i : TI} (h1 : aggB P t = some i.agg) (h2 : Go.Eng.kin P t = i.kin) (h3 : P.cellsOf t = i.siz) (h4 : i.elm = none ∨ Go.Eng.elm P t = i.elm)
    (h5 : ((List.range i.fld.length).map fun j => (Go.Eng.fld P t j, fldT P t j)) = i.fld.map fun x => (some (x.1, x.2.1), some x)) (h6 : i.zer = none ∨ Go.Eng.zer P t = i.zer) (h7 : i.eqt = none ∨ eqT P t = i.eqt) (h8 : i.str = false ∨ strB P t = true)
    (h9 : i.ik = none ∨ P.underlying t = i.ik.map .int) (h10 : i.byt = none ∨ (P.bytesOf t ≤ 4096 ∧ P.bytesOf t ≠ 0 ∧ i.byt = some 4096)) (h11 : i.zer = none ∨ (i.zer.getD []).all AV.flat = true) : TIok P t i where
  agg := h1
  kin := h2
  siz := h3
  elm := fun e h => by rcases h4 with h' | h' <;> rw [h] at h' <;> first | exact h' | cases h'
  fld := fun j x h => by
    have := congrArg (fun l => l[j]?) h5
    have hlt : j < i.fld.length := by
      rcases Nat.lt_or_ge j i.fld.length with h' | h'
      · exact h'
      · rw [List.getElem?_eq_none h'] at h; cases h
    simp only [List.getElem?_map, h, Option.map_some, List.getElem?_range hlt, Option.some.injEq, Prod.mk.injEq] at this
    exact this
  zer := fun e h => by rcases h6 with h' | h' <;> rw [h] at h' <;> first | exact h' | cases h'
  eqt := fun e h => by rcases h7 with h' | h' <;> rw [h] at h' <;> first | exact h' | cases h'
  str := fun h => by rcases h8 with h' | h' <;> first | exact h' | (rw [h] at h'; cases h')
  ik := fun e h => by rcases h9 with h' | h' <;> rw [h] at h' <;> first | exact h' | cases h'
  byt := fun e h => by
    rcases h10 with h' | ⟨h1, h2, h'⟩ <;> rw [h] at h'
    · cases h'
    · cases h'; exact ⟨h1, h2⟩
  flt := fun z h => by rcases h11 with h' | h' <;> rw [h] at h' <;> first | exact h' | cases h'

/-- a reckoning, told as an equation -/
theorem of_eq {p q : Prop} (h : p = q) (hq : q) : p := h ▸ hq
/-- the frame of a function that takes pure data alone -/
def cxP (l : Nat) (θ : Nat → AV) (H : Hp) (B : Base) : Cx := ⟨l, B, fun k => (l + 1, k.2), θ, H, 0, fun _ => False, [], fun _ => True⟩
theorem cxOk_pure (l : Nat) (B : Base) (θ : Nat → AV) (H : Hp) : CxOk (cxP l θ H B) := ⟨fun _ => rfl, fun i h => absurd h (Nat.not_lt_zero _), fun i j h => absurd h (Nat.not_lt_zero _), fun _ h => h.elim, fun _ _ _ h => h⟩
theorem out_pure {l : Nat} {θ : Nat → AV} {H : Hp} {B : Base} {γ : Key → Nat} {bs : List Blk} {H' : Hp} (h : OutsOk (cxP l θ H B) γ bs H') : H' = H := funext fun k => h.o k id
end Go.Eng
