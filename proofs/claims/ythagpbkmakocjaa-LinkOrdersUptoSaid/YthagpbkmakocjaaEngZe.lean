/-
  Small facts for a program to write, part e: shifts, unsigned numbers, rows that are set.
-/
import Derived.Test.YthagpbkmakocjaaEngZd
import Derived.Test.YthagpbkmakocjaaDat
namespace Go.Eng
open Go
set_option linter.all false
/-- a function's end behind a loop -/
theorem FQ_end {T : Nat → Option TI} {rs : List ResultVar} {os : Nat} {Post : AV → List Blk → Prop} {τ : St} (a : AT) {q : Prop} (hq : pFin T rs os τ a Post = q) (h : q) : FQ T rs os Post .normal τ := ⟨.inl rfl, a, hq ▸ h⟩
theorem shr_nat (n c : Nat) (hc : c ≤ 64) : EqI (((n : Nat) : Int).fdiv (2 ^ (min ((c : Nat) : Int).toNat IntKind.u64.bits))) ((n / 2 ^ c : Nat) : Int) := by
  have e : min ((c : Nat) : Int).toNat IntKind.u64.bits = c := by
    have : IntKind.u64.bits = 64 := rfl
    rw [this, Int.toNat_natCast]; omega
  rw [e]
  unfold EqI
  rw [Int.fdiv_eq_ediv_of_nonneg _ (by exact_mod_cast Nat.zero_le _)]
  push_cast
  rfl
theorem wrapU64 {a r : Int} (h : a = r) (h1 : 0 ≤ r) (h2 : r < 18446744073709551616) : WrapS .u64 a r := by
  subst h; exact IntWalk.u64_in _ ⟨h1, by omega⟩
theorem fit_set {α : Type} {e : α → List D} {xs : List α} {i : Nat} {x : α} (h : Fit (.list (xs.map e))) (hx : FitL (e x)) : Fit (.list ((xs.set i x).map e)) :=
  fit_all (fun y hy => by
    rcases List.mem_or_eq_of_mem_set hy with h' | rfl
    · exact h.mem h'
    · exact hx) (by rw [List.length_set]; exact h.len)
theorem cond_p {α : Type} {p : α → Prop} {b : Bool} {x y : α} (h1 : p x) (h2 : p y) : p (cond b x y) := by cases b; exact h2; exact h1
theorem cond_ex {α γ : Type} {q : γ → Prop} {b : Bool} {x y : γ ⊕ α} (h1 : ∃ r, x = .inl r ∧ q r) (h2 : ∃ r, y = .inl r ∧ q r) : ∃ r, cond b x y = .inl r ∧ q r := by cases b; exact h2; exact h1
theorem elim_p {α γ : Type} {p : α → Prop} {q : γ → Prop} {x : γ ⊕ α} {f : γ → α} {g : α → α} (hx : ∃ r, x = .inl r ∧ q r) (h : ∀ r, q r → p (f r)) : p (Sum.elim f g x) := by
  obtain ⟨r, e, hq⟩ := hx
  rw [e]; exact h r hq
/-- a property that exchanges keep -/
def SwC {α : Type} (z : α) (p : List α → Prop) : Prop := ∀ v i j, p v → p ((v.set i (v.getD j z)).set j (v.getD i z))
theorem swc_len {α : Type} (z : α) (n : Nat) : SwC z (fun v => v.length = n) := fun v i j h => by simpa using h
theorem swc_fit {α : Type} {e : α → List D} {z : α} (hz : FitL (e z)) : SwC z (fun v => Fit (.list (v.map e))) := fun v i j h =>
  fit_set (fit_set h (fit_getD h (fun _ => rfl) hz j)) (fit_getD h (fun _ => rfl) hz i)
/-! short names, for the printed texts -/
abbrev nI (n : Nat) : AV := .d (.int .i64 n)
abbrev AT.nu (n : Nat) (a : AT) : AT := .num n a
theorem qd1 {p : Prop} [Decidable p] : (decide p = true) = p := decide_eq_true_eq
theorem qd2 {p : Prop} {h : Decidable p} : (decide p = false) ↔ ¬p := decide_eq_false_iff_not
theorem qd3 {b : Bool} : ((!b) = true) = (b = false) := Bool.not_eq_true' b
theorem qd4 {b : Bool} : ((!b) = false) = (b = true) := Bool.not_eq_false' b
theorem qd5 {p : Prop} [Decidable p] : ¬¬p ↔ p := Decidable.not_not
theorem qd6 {x y : Bool} : ((x || y) = false) ↔ (x = false ∧ y = false) := Bool.or_eq_false_iff
theorem qd7 (x y : Bool) : ((x && y) = true) = (x = true ∧ y = true) := Bool.and_eq_true x y
theorem ql1 {α : Type} {l : List α} {i : Nat} {a : α} : (l.set i a).length = l.length := List.length_set
theorem ql2 {α : Type} {l m : List α} : (l ++ m).length = l.length + m.length := List.length_append
theorem ql3 {α : Type} {a : α} {l : List α} : (a :: l).length = l.length + 1 := List.length_cons
theorem ql4 {α : Type} : ([] : List α).length = 0 := List.length_nil
theorem ql5 {α : Type} {i : Nat} {l : List α} : (l.take i).length = min i l.length := List.length_take
theorem ql6 {α : Type} {i : Nat} {l : List α} : (l.drop i).length = l.length - i := List.length_drop
end Go.Eng
