/-
  The abstract state of a walk, part L: the words by which a walk is reckoned.
-/
import Derived.Test.YthagpbkmakocjaaEngK
import Derived.KernelRfl
namespace Go.Eng
set_option linter.all false
open Go Go.RowKit

def grdK (g : Option Bool) (A C : Prop) : Prop :=
  match g with
  | some t => (t = true → A) ∧ (t = false → C)
  | none => False

section
variable {P : Program} {l n : Nat} {ds : List (Option Nat)} {ops rest : List Oper} {K : St → Prop} {s : Nat → AV} {H : Hp} {d : Option Nat} {op : Op} {ty : TypeId} {ps : String} {af : Array Edge} {g : Option (Nat × Bool)}

theorem upd_app (s : Nat → AV) (i : Nat) (x : AV) (j : Nat) : upd s i x j = if j = i then x else s j := rfl
theorem updH_app (H : Hp) (k : Key) (b : Blk) (j : Key) : updH H k b j = if j = k then b else H j := rfl
theorem args_app' (xs : List AV) (j : Nat) : args xs j = (xs[j]?).getD .top := rfl

theorem rOps_congr {σ σ' : St} (h : σ = σ') : rOps P l n ds ops K σ = rOps P l n ds ops K σ' := by rw [h]
theorem rOp_congr {o : Oper} {σ σ' : St} (h : σ = σ') : rOp P l n o K σ = rOp P l n o K σ' := by rw [h]
theorem grdK_congr {g g' : Option Bool} {A C : Prop} (h : g = g') : grdK g A C = grdK g' A C := by rw [h]
theorem vLoad_congr {t : TypeId} {x x' : AV} {K : AV → Prop} (h : x = x') : vLoad P H t x K = vLoad P H t x' K := by rw [h]
theorem vFieldAddr_congr {t : TypeId} {i : Nat} {x x' : AV} {K : AV → Prop} (h : x = x') : vFieldAddr P H t i x K = vFieldAddr P H t i x' K := by rw [h]
theorem vField_congr {t : TypeId} {i : Nat} {x x' : AV} {K : AV → Prop} (h : x = x') : vField P t i x K = vField P t i x' K := by rw [h]
theorem vIndexAddr_congr {t : TypeId} {x x' y y' : AV} {K : AV → Prop} (h : x = x') (k : y = y') : vIndexAddr P H t x y K = vIndexAddr P H t x' y' K := by rw [h, k]
theorem vIndex_congr {t : TypeId} {x x' y y' : AV} {K : AV → Prop} (h : x = x') (k : y = y') : vIndex P t x y K = vIndex P t x' y' K := by rw [h, k]
theorem vBin_congr {o : BinOp} {t : TypeId} {b : Bool} {x x' y y' : AV} {K : AV → Prop} (h : x = x') (k : y = y') : vBin P H o t b x y K = vBin P H o t b x' y' K := by rw [h, k]
theorem vUn_congr {o : UnOp} {x x' : AV} {K : AV → Prop} (h : x = x') : vUn o x K = vUn o x' K := by rw [h]
theorem vConv_congr {a b : TypeId} {x x' : AV} {K : AV → Prop} (h : x = x') : vConv P a b x K = vConv P a b x' K := by rw [h]
theorem vLen_congr {t : TypeId} {x x' : AV} {K : AV → Prop} (h : x = x') : vLen P H t x K = vLen P H t x' K := by rw [h]
theorem vSlice_congr {t : TypeId} {x x' : AV} {lo lo' hi hi' : Option AV} {b : Bool} {K : AV → Prop} (h : x = x') (h1 : lo = lo') (h2 : hi = hi') : vSlice P H t x lo hi b K = vSlice P H t x' lo' hi' b K := by rw [h, h1, h2]
theorem vBuild_congr {t : TypeId} {x x' : List (Nat × AV)} {K : AV → Prop} (h : x = x') : vBuild P t x K = vBuild P t x' K := by rw [h]
theorem putK_congr {σ : St} {x x' : AV} (h : x = x') : putK n d K σ x = putK n d K σ x' := by rw [h]
theorem appK_congr {e : Nat} {t : TypeId} {x x' y y' : AV} {σ : St} (h : x = x') (k : y = y') : appK P l n e t x y K σ = appK P l n e t x' y' K σ := by rw [h, k]
theorem newK_congr {e sz : Nat} {t : TypeId} {z z' : List AV} {x : Nat → AV} {σ : St} (h : z = z') : newK l n e t sz z x K σ = newK l n e t sz z' x K σ := by rw [h]
theorem ACall_congr {f : FuncId} {xs xs' : List AV} {Post : AV → Hp → Prop} (h : xs = xs') : ACall P f l xs H Post = ACall P f l xs' H Post := by rw [h]
theorem resA_congr {rs : List ResultVar} {σ : St} {K : List AV → Prop} : resA P σ rs K = resA P σ rs K := rfl

theorem rOps_nil {σ : St} : rOps P l n ds [] K σ = K σ := rfl
theorem rOps_plain {σ : St} : rOps P l n ds (⟨d, op, ty, ps, af, none⟩ :: rest) K σ = rOp P l n ⟨d, op, ty, ps, af, none⟩ (rOps P l n ds rest K) σ := rfl
theorem rOps_guard {e i : Nat} {b : Bool} : rOps P l n ds (⟨some e, op, ty, ps, af, some (i, b)⟩ :: rest) K ⟨s, H⟩ =
    grdK (grd s ds i b) (rOp P l n ⟨some e, op, ty, ps, af, some (i, b)⟩ (rOps P l n ds rest K) ⟨s, H⟩) (e < n ∧ rOps P l n ds rest K ⟨upd s e (.tup []), H⟩) := by
  unfold grdK
  cases h : grd s ds i b <;> simp only [rOps, h]

variable {x y : Operand} {t : TypeId}
theorem rOp_move : rOp P l n ⟨d, .move x, ty, ps, af, g⟩ K ⟨s, H⟩ = putK n d K ⟨s, H⟩ (ev s x) := rfl
theorem rOp_assign : rOp P l n ⟨d, .assign x, ty, ps, af, g⟩ K ⟨s, H⟩ = putK n d K ⟨s, H⟩ (ev s x) := rfl
theorem rOp_pick {c a b : Operand} : rOp P l n ⟨d, .pick c a b, ty, ps, af, g⟩ K ⟨s, H⟩ = match ev s c with | .d (.bool t) => putK n d K ⟨s, H⟩ (if t then ev s a else ev s b) | _ => False := rfl
theorem rOp_load : rOp P l n ⟨d, .load t x, ty, ps, af, g⟩ K ⟨s, H⟩ = vLoad P H t (ev s x) (putK n d K ⟨s, H⟩) := rfl
theorem rOp_fieldAddr {i : Nat} : rOp P l n ⟨d, .fieldAddr t x i, ty, ps, af, g⟩ K ⟨s, H⟩ = vFieldAddr P H t i (ev s x) (putK n d K ⟨s, H⟩) := rfl
theorem rOp_field {i : Nat} : rOp P l n ⟨d, .field t x i, ty, ps, af, g⟩ K ⟨s, H⟩ = vField P t i (ev s x) (putK n d K ⟨s, H⟩) := rfl
theorem rOp_indexAddr : rOp P l n ⟨d, .indexAddr t x y, ty, ps, af, g⟩ K ⟨s, H⟩ = vIndexAddr P H t (ev s x) (ev s y) (putK n d K ⟨s, H⟩) := rfl
theorem rOp_index : rOp P l n ⟨d, .index t x y, ty, ps, af, g⟩ K ⟨s, H⟩ = vIndex P t (ev s x) (ev s y) (putK n d K ⟨s, H⟩) := rfl
theorem rOp_extract {i : Nat} : rOp P l n ⟨d, .extract x i, ty, ps, af, g⟩ K ⟨s, H⟩ = match ev s x with | .tup vs => (match vs[i]? with | some y => putK n d K ⟨s, H⟩ y | none => False) | _ => False := rfl
theorem rOp_binOp {o : BinOp} {t' : TypeId} : rOp P l n ⟨d, .binOp o t x y t', ty, ps, af, g⟩ K ⟨s, H⟩ = vBin P H o t (isNilC y) (ev s x) (ev s y) (putK n d K ⟨s, H⟩) := rfl
theorem rOp_unOp {o : UnOp} : rOp P l n ⟨d, .unOp o t x, ty, ps, af, g⟩ K ⟨s, H⟩ = vUn o (ev s x) (putK n d K ⟨s, H⟩) := rfl
theorem rOp_convert {t' : TypeId} : rOp P l n ⟨d, .convert t t' x, ty, ps, af, g⟩ K ⟨s, H⟩ = vConv P t t' (ev s x) (putK n d K ⟨s, H⟩) := rfl
theorem rOp_makeFunc {f : Fn} {a b : Array Operand} : rOp P l n ⟨d, .makeFunc f a b, ty, ps, af, g⟩ K ⟨s, H⟩ = putK n d K ⟨s, H⟩ (.fn f (a.toList.map (ev s)) (b.toList.map (ev s))) := rfl
theorem rOp_slice {lo hi mx : Option Operand} : rOp P l n ⟨d, .slice t x lo hi mx, ty, ps, af, g⟩ K ⟨s, H⟩ = vSlice P H t (ev s x) (lo.map (ev s)) (hi.map (ev s)) mx.isSome (putK n d K ⟨s, H⟩) := rfl
theorem rOp_build {a : Array (Nat × Operand)} : rOp P l n ⟨d, .build t a, ty, ps, af, g⟩ K ⟨s, H⟩ = vBuild P t (a.toList.map fun p => (p.1, ev s p.2)) (putK n d K ⟨s, H⟩) := rfl
theorem rOp_len : rOp P l n ⟨d, .call ⟨.builtin .len, #[x], #[t]⟩, ty, ps, af, g⟩ K ⟨s, H⟩ = vLen P H t (ev s x) (putK n d K ⟨s, H⟩) := by
  show (1 = 1 ∧ vLen P H t (ev s x) (putK n d K ⟨s, H⟩)) = _
  simp
theorem rOp_append {e : Nat} : rOp P l n ⟨some e, .call ⟨.builtin .append, #[x, y], #[t, t]⟩, ty, ps, af, g⟩ K ⟨s, H⟩ = appK P l n e t (ev s x) (ev s y) K ⟨s, H⟩ := by
  show (some t = some t ∧ appK P l n e t (ev s x) (ev s y) K ⟨s, H⟩) = _
  simp
theorem rOp_call {as : Array Operand} {ts : Array TypeId} : rOp P l n ⟨d, .call ⟨.value x, as, ts⟩, ty, ps, af, g⟩ K ⟨s, H⟩ =
    match ev s x with | .fn (.func f) first caps => ACall P f (l + 1) (first ++ as.toList.map (ev s) ++ caps) H (retK n d K ⟨s, H⟩) | _ => False := rfl
theorem rOp_alloc {e : Nat} : rOp P l n ⟨some e, .alloc t, ty, ps, af, g⟩ K ⟨s, H⟩ = match zer P t with | some z => z ≠ [] ∧ newK l n e t z.length z (fun g => .ptr (l + 1, e) g 0) K ⟨s, H⟩ | none => False := by
  show (match some e, zer P t with | some d, some z => z ≠ [] ∧ newK l n d t z.length z (fun g => .ptr (l + 1, d) g 0) K ⟨s, H⟩ | _, _ => False) = _
  cases zer P t <;> rfl
theorem rOp_box {e : Nat} : rOp P l n ⟨some e, .box t x, ty, ps, af, g⟩ K ⟨s, H⟩ = match cellsAV (ev s x) with | some z => z ≠ [] ∧ newK l n e t z.length z (fun g => .ptr (l + 1, e) g 0) K ⟨s, H⟩ | none => False := by
  show (match some e, cellsAV (ev s x) with | some d, some z => z ≠ [] ∧ newK l n d t z.length z (fun g => .ptr (l + 1, d) g 0) K ⟨s, H⟩ | _, _ => False) = _
  cases cellsAV (ev s x) <;> rfl
def storeK (P : Program) (l : Nat) (t : TypeId) (x : AV) (vs : Option (List AV)) (K : St → Prop) (s : Nat → AV) (H : Hp) : Prop :=
  match x, vs with
  | .ptr k g off, some vs => g = (H k).g ∧ (H k).live = true ∧ vs.length = P.cellsOf t ∧ vs ≠ [] ∧ off + vs.length ≤ (H k).cells.length ∧ (k.1 = l + 1 ∨ vs.all (AV.low k.1) = true) ∧
      K ⟨s, updH H k { H k with cells := (H k).cells.take off ++ vs ++ (H k).cells.drop (off + vs.length) }⟩
  | _, _ => False
theorem storeK_congr {x x' : AV} {vs vs' : Option (List AV)} (h : x = x') (k : vs = vs') : storeK P l t x vs K s H = storeK P l t x' vs' K s H := by rw [h, k]
theorem rOp_store : rOp P l n ⟨none, .store t x y, ty, ps, af, g⟩ K ⟨s, H⟩ = storeK P l t (ev s x) (cellsAV (ev s y)) K s H := by
  show (match (none : Option Nat), ev s x, cellsAV (ev s y) with
    | none, .ptr k g off, some vs => g = (H k).g ∧ (H k).live = true ∧ vs.length = P.cellsOf t ∧ vs ≠ [] ∧ off + vs.length ≤ (H k).cells.length ∧ (k.1 = l + 1 ∨ vs.all (AV.low k.1) = true) ∧
        K ⟨s, updH H k { H k with cells := (H k).cells.take off ++ vs ++ (H k).cells.drop (off + vs.length) }⟩
    | _, _, _ => False) = _
  unfold storeK
  cases ev s x <;> cases cellsAV (ev s y) <;> rfl
theorem rOp_buildSlice {e : Nat} {a : Array (Nat × Operand)} {k : Nat} : rOp P l n ⟨some e, .buildSlice t (k + 1) a, ty, ps, af, g⟩ K ⟨s, H⟩ = match elm P t with
    | some (u, sz) => sz ≠ 0 ∧ (k + 1) * sz ≤ 16777216 ∧ (match zer P u with
      | some z => z.length = sz ∧ (match litD sz 0 (a.toList.map fun p => (p.1, ev s p.2)) with
        | some es => es.length = k + 1 ∧ e < n ∧ K ⟨upd s e (.d (.list es)), H⟩
        | none => (match fillA (fun i => some (i * sz, sz)) (List.replicate (k + 1) z).flatten (a.toList.map fun p => (p.1, ev s p.2)) with
          | some cs => newK l n e u sz cs (fun g => .ref (l + 1, e) g 0 (k + 1)) K ⟨s, H⟩
          | none => False))
      | none => False)
    | none => False := by
  cases h : elm P t with
  | none => simp only [rOp, h]
  | some q => simp only [rOp, h]; rfl
theorem rOp_buildEmpty {e : Nat} : rOp P l n ⟨some e, .buildSlice t 0 #[], ty, ps, af, g⟩ K ⟨s, H⟩ = match elm P t with | some (_, sz) => sz ≠ 0 ∧ e < n ∧ K ⟨upd s e .e0, H⟩ | none => False := by
  cases h : elm P t with
  | none => simp only [rOp, h]
  | some q => simp [rOp, h]

theorem newK_eq {d : Nat} {e : TypeId} {sz : Nat} {cells : List AV} {x : Nat → AV} : newK l n d e sz cells x K ⟨s, H⟩ =
    (d < n ∧ K ⟨upd s d (x ((H (l + 1, d)).g + 1)), updH H (l + 1, d) ⟨(H (l + 1, d)).g + 1, true, e, sz, cells⟩⟩) := rfl
theorem putK_some {d : Nat} {x : AV} : putK n (some d) K ⟨s, H⟩ x = (d < n ∧ K ⟨upd s d x, H⟩) := rfl
theorem retK_some {d : Nat} {x : AV} {H' : Hp} : retK n (some d) K ⟨s, H⟩ x H' = (d < n ∧ K ⟨upd s d x, H'⟩) := rfl
theorem clr_lt {l : Nat} {H : Hp} {k : Key} (h : k.1 ≤ l) : clr l H k = H k := by unfold clr; rw [if_pos h]
theorem clr_own {l : Nat} {H : Hp} {i : Nat} : clr l H (l + 1, i) = ⟨0, false, 0, 0, []⟩ := by unfold clr; rw [if_neg (by simp)]
end
end Go.Eng
