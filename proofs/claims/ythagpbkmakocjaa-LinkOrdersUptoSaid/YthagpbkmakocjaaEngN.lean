/-
  The abstract state of a walk, part N: control, told so that a walk is reckoned by 'simp only' between the loops.
-/
import Derived.Test.YthagpbkmakocjaaEngM
import Derived.IntWalk
namespace Go.Eng
set_option linter.all false
open Go Go.RowKit

def condK (v : AV) (A C : Prop) : Prop :=
  match v with
  | .d (.bool t) => (t = true → A) ∧ (t = false → C)
  | _ => False

def fldT (P : Program) (t : TypeId) (i : Nat) : Option (Nat × Nat × Bool) :=
  match P.underlying t with
  | some (.struct fs) => (fs[i]?).bind fun f => (aggB P f.type).map fun b => (f.offset, P.cellsOf f.type, b)
  | _ => none
def vFld (o : Option (Nat × Nat × Bool)) (x : AV) (K : AV → Prop) : Prop :=
  match o, x with
  | some (o, n, true), .agg cs => n ≠ 0 ∧ K (.agg ((cs.drop o).take n))
  | some (o, _, false), .agg cs => (match cs[o]? with | some c => K c | none => False)
  | _, _ => False
theorem vField_eq {P : Program} {t : TypeId} {i : Nat} {x : AV} {K : AV → Prop} : vField P t i x K = vFld (fldT P t i) x K := by
  unfold vField fldT
  cases x with
  | agg cs =>
    cases hu : P.underlying t with
    | none => rfl
    | some d =>
      cases d with
      | struct fs =>
        simp only
        cases hf : fs[i]? with
        | none => rfl
        | some f =>
          simp only [Option.bind_some]
          cases ha : aggB P f.type with
          | none => rfl
          | some b => cases b <;> rfl
      | _ => rfl
  | _ =>
    have e : ∀ (o : Option (Nat × Nat × Bool)) (y : AV), (∀ cs, y ≠ .agg cs) → vFld o y K = False := fun o y h => by
      unfold vFld
      split
      · exact absurd rfl (h _)
      · exact absurd rfl (h _)
      · rfl
    rw [e _ _ (fun _ h => by cases h)]
theorem vFld_congr {o : Option (Nat × Nat × Bool)} {x x' : AV} {K : AV → Prop} (h : x = x') : vFld o x K = vFld o x' K := by rw [h]

/-- what is asked at a function's end: its results -/
structure fins (P : Program) (l : Nat) (H : Hp) (rs : List ResultVar) (Post : AV → Hp → Prop) (e : Exit) (σ : St) : Prop where
  he : e = .normal ∨ e = .ret
  hy : resA P σ rs (fun xs => ∃ y, Fz σ.H l (tupA xs) y ∧ Post y (mrg l σ.H H))

/-- data of a size that a machine holds -/
inductive Fit : D → Prop
  | int (k : IntKind) (n : Int) : Fit (.int k n)
  | bool (b : Bool) : Fit (.bool b)
  | str (s : ByteArray) (h : s.size < 2147483648) : Fit (.str s)
  | list (es : List (List D)) (hl : es.length < 2147483648) (h : ∀ e ∈ es, ∀ x ∈ e, Fit x) : Fit (.list es)
def FitL (l : List D) : Prop := ∀ d ∈ l, Fit d
theorem Fit.len {α : Type} {e : α → List D} {xs : List α} (h : Fit (.list (xs.map e))) : xs.length < 2147483648 := by
  cases h with | list _ hl h => simpa using hl
theorem Fit.mem {α : Type} {e : α → List D} {xs : List α} (h : Fit (.list (xs.map e))) {x : α} (hx : x ∈ xs) : FitL (e x) := by
  cases h with | list _ hl h => exact h _ (List.mem_map_of_mem hx)
theorem Fit.el {α : Type} {e : α → List D} {xs : List α} (h : Fit (.list (xs.map e))) {i : Nat} {x : α} (hx : xs[i]? = some x) : FitL (e x) := h.mem (List.mem_of_getElem? hx)
theorem FitL.at {l : List D} (h : FitL l) (i : Nat) {d : D} (hi : l[i]? = some d) : Fit d := h d (List.mem_of_getElem? hi)
theorem FitL.sub {l : List D} (h : FitL l) (i n : Nat) {m : List D} (hi : (l.drop i).take n = m) : FitL m := by
  subst hi
  exact fun d hd => h d (List.mem_of_mem_drop (List.mem_of_mem_take hd))
theorem Fit.str' {s : ByteArray} (h : Fit (.str s)) : s.size < 2147483648 := by cases h; assumption

/-- a value as pure data, where it is so -/
def nrm : AV → AV
  | .e0 => .d (.list [])
  | .agg xs => .agg (xs.map fun x => match x with | .e0 => .d (.list []) | x => x)
  | x => x

section
variable {P : Program} {l n : Nat} {B : Base} {H H' : Hp} {K : St → Prop} {σ σ' : St} {Q : Exit → St → Prop} {s : Nat → AV} {ds : List (Option Nat)} {d : Option Nat} {op : Op} {ty : TypeId} {ps : String} {af : Array Edge} {rest : List Oper}
  {g : Option (Nat × Bool)} {x y : Operand} {t : TypeId}

theorem AWp_congr {c : Code} (h : σ = σ') : AWp P l n B c Q σ = AWp P l n B c Q σ' := by rw [h]
theorem condK_congr {v v' : AV} {A C : Prop} (h : v = v') : condK v A C = condK v' A C := by rw [h]
theorem thenQ_congr {e : Exit} (h : σ = σ') : thenQ K Q e σ = thenQ K Q e σ' := by rw [h]
theorem blockQ_congr {id : Nat} {e : Exit} (h : σ = σ') : blockQ id Q e σ = blockQ id Q e σ' := by rw [h]
theorem fins_congr {rs : List ResultVar} {Post : AV → Hp → Prop} {e : Exit} (h : σ = σ') : fins P l H rs Post e σ = fins P l H rs Post e σ' := by rw [h]
theorem qOps_congr {ops : List Oper} (h : σ = σ') : qOps P l n ds ops K σ = qOps P l n ds ops K σ' := by rw [h]
theorem qOp1_congr {o : Oper} (h : σ = σ') : qOp1 P l n o K σ = qOp1 P l n o K σ' := by rw [h]

theorem thenQ_normal : thenQ K Q .normal σ = K σ := rfl
theorem thenQ_ret : thenQ K Q .ret σ = Q .ret σ := rfl
theorem thenQ_exit {i : Nat} : thenQ K Q (.exit i) σ = Q (.exit i) σ := rfl
theorem blockQ_normal {id : Nat} : blockQ id Q .normal σ = Q .normal σ := rfl
theorem blockQ_ret {id : Nat} : blockQ id Q .ret σ = Q .ret σ := rfl
theorem blockQ_exit {id i : Nat} : blockQ id Q (.exit i) σ = if i = id then Q .normal σ else Q (.exit i) σ := by
  unfold blockQ; rfl
theorem condK_d {b : Bool} {A C : Prop} : condK (.d (.bool b)) A C = ((b = true → A) ∧ (b = false → C)) := rfl
theorem condK_t {A C : Prop} : condK (.d (.bool true)) A C = A := by simp [condK]
theorem condK_f {A C : Prop} : condK (.d (.bool false)) A C = C := by simp [condK]
theorem condK_dec {p : Prop} [Decidable p] {A C : Prop} : condK (.d (.bool (decide p))) A C = ((p → A) ∧ (¬ p → C)) := by simp [condK]
theorem condK_ndec {p : Prop} [Decidable p] {A C : Prop} : condK (.d (.bool (!decide p))) A C = ((¬ p → A) ∧ (p → C)) := by simp [condK]

theorem awp_seq' {a b : Code} (h : AWp P l n B a (thenQ (AWp P l n B b Q) Q) σ) : AWp P l n B (.seq a b) Q σ := awp_seq fun _ hK => awp_mono h fun e σ' h => by
  cases e <;> first | exact hK σ' h | exact h
theorem awp_region' {id : Nat} {ops : List Oper} (h : rOps P l n (ops.map (·.dst)) ops (Q .normal) σ) : AWp P l n B (.region id ops.toArray false) Q σ := by
  intro a w hR
  exact wp_region_lit (rOps_sound (ops := ops.toArray) (K := Q .normal) ops σ a w (by simpa using h) hR fun σ' a' w' h2 h3 => ⟨σ', h2, h3⟩)
/-- what follows: a name for code that is still to come -/
def Fol (P : Program) (l n : Nat) (B : Base) (c : Code) (Q : Exit → St → Prop) (K : St → Prop) : Prop := ∀ σ', AWp P l n B c Q σ' → K σ'
theorem fol {c : Code} (h : Fol P l n B c Q K) (h2 : AWp P l n B c Q σ) : K σ := h σ h2
theorem awp_seq2 {a b : Code} (h : ∀ K : St → Prop, Fol P l n B b Q K → AWp P l n B a (thenQ K Q) σ) : AWp P l n B (.seq a b) Q σ := awp_seq h
def Arm (X A : Prop) : Prop := X → A
theorem arm {X A : Prop} (h : Arm X A) (x : X) : A := h x
theorem awp_cond2 {c : Operand} {a b : Code} (h : ∀ A C : Prop, Arm (AWp P l n B a Q σ) A → Arm (AWp P l n B b Q σ) C → condK (ev σ.s c) A C) : AWp P l n B (.cond c a b) Q σ := by
  replace h := h _ _ (fun h => h) (fun h => h)
  generalize hv : ev σ.s c = v at h
  unfold condK at h
  split at h
  · rename_i t
    exact awp_cond hv (fun e => h.1 e) (fun e => h.2 e)
  · exact h.elim

/-- a loop's next round -/
def Rnd (I : Nat → St → Prop) (k : Nat) (K : St → Prop) : Prop := ∀ σ', (∃ j, j < k ∧ I j σ') → K σ'
theorem awp_loop' {c : Code} (I : Nat → St → Prop) (n0 : Nat) (h0 : I n0 σ) (round : ∀ k σ, I k σ → ∀ K : St → Prop, Rnd I k K → AWp P l n B c (thenQ K Q) σ) : AWp P l n B (.loop c) Q σ :=
  awp_loop I n0 h0 fun k σ hI => round k σ hI _ (fun _ h => h)

theorem qOps_nil : qOps P l n ds [] K σ = K σ := rfl
theorem qOps_plain : qOps P l n ds (⟨d, op, ty, ps, af, none⟩ :: rest) K σ = qOp1 P l n ⟨d, op, ty, ps, af, none⟩ (qOps P l n ds rest K) σ := rfl
theorem qOps_guard {e i : Nat} {b : Bool} : qOps P l n ds (⟨some e, op, ty, ps, af, some (i, b)⟩ :: rest) K ⟨s, H⟩ =
    grdK (grd s ds i b) (qOp1 P l n ⟨some e, op, ty, ps, af, some (i, b)⟩ (qOps P l n ds rest K) ⟨s, H⟩) (e < n ∧ qOps P l n ds rest K ⟨upd s e (.tup []), H⟩) := by
  unfold grdK
  cases h : grd s ds i b <;> simp only [qOps, h]
theorem grdK_tt {A C : Prop} : grdK (some true) A C = A := by simp [grdK]
theorem grdK_ff {A C : Prop} : grdK (some false) A C = C := by simp [grdK]

theorem q_move : qOp1 P l n ⟨d, .move x, ty, ps, af, g⟩ K σ = rOp P l n ⟨d, .move x, ty, ps, af, g⟩ K σ := rfl
theorem q_assign : qOp1 P l n ⟨d, .assign x, ty, ps, af, g⟩ K σ = rOp P l n ⟨d, .assign x, ty, ps, af, g⟩ K σ := rfl
theorem q_pick {c a b : Operand} : qOp1 P l n ⟨d, .pick c a b, ty, ps, af, g⟩ K σ = rOp P l n ⟨d, .pick c a b, ty, ps, af, g⟩ K σ := rfl
theorem q_load : qOp1 P l n ⟨d, .load t x, ty, ps, af, g⟩ K σ = rOp P l n ⟨d, .load t x, ty, ps, af, g⟩ K σ := rfl
theorem q_fieldAddr {i : Nat} : qOp1 P l n ⟨d, .fieldAddr t x i, ty, ps, af, g⟩ K σ = rOp P l n ⟨d, .fieldAddr t x i, ty, ps, af, g⟩ K σ := rfl
theorem q_field {i : Nat} : qOp1 P l n ⟨d, .field t x i, ty, ps, af, g⟩ K σ = rOp P l n ⟨d, .field t x i, ty, ps, af, g⟩ K σ := rfl
theorem q_indexAddr : qOp1 P l n ⟨d, .indexAddr t x y, ty, ps, af, g⟩ K σ = rOp P l n ⟨d, .indexAddr t x y, ty, ps, af, g⟩ K σ := rfl
theorem q_index : qOp1 P l n ⟨d, .index t x y, ty, ps, af, g⟩ K σ = rOp P l n ⟨d, .index t x y, ty, ps, af, g⟩ K σ := rfl
theorem q_extract {i : Nat} : qOp1 P l n ⟨d, .extract x i, ty, ps, af, g⟩ K σ = rOp P l n ⟨d, .extract x i, ty, ps, af, g⟩ K σ := rfl
theorem q_binOp {o : BinOp} {t' : TypeId} : qOp1 P l n ⟨d, .binOp o t x y t', ty, ps, af, g⟩ K σ = rOp P l n ⟨d, .binOp o t x y t', ty, ps, af, g⟩ K σ := rfl
theorem q_unOp {o : UnOp} : qOp1 P l n ⟨d, .unOp o t x, ty, ps, af, g⟩ K σ = rOp P l n ⟨d, .unOp o t x, ty, ps, af, g⟩ K σ := rfl
theorem q_convert {t' : TypeId} : qOp1 P l n ⟨d, .convert t t' x, ty, ps, af, g⟩ K σ = rOp P l n ⟨d, .convert t t' x, ty, ps, af, g⟩ K σ := rfl
theorem q_makeFunc {f : Fn} {a b : Array Operand} : qOp1 P l n ⟨d, .makeFunc f a b, ty, ps, af, g⟩ K σ = rOp P l n ⟨d, .makeFunc f a b, ty, ps, af, g⟩ K σ := rfl
theorem q_slice {lo hi mx : Option Operand} : qOp1 P l n ⟨d, .slice t x lo hi mx, ty, ps, af, g⟩ K σ = rOp P l n ⟨d, .slice t x lo hi mx, ty, ps, af, g⟩ K σ := rfl
theorem q_build {a : Array (Nat × Operand)} : qOp1 P l n ⟨d, .build t a, ty, ps, af, g⟩ K σ = rOp P l n ⟨d, .build t a, ty, ps, af, g⟩ K σ := rfl
theorem q_len : qOp1 P l n ⟨d, .call ⟨.builtin .len, #[x], #[t]⟩, ty, ps, af, g⟩ K σ = rOp P l n ⟨d, .call ⟨.builtin .len, #[x], #[t]⟩, ty, ps, af, g⟩ K σ := rfl
def callQ (P : Program) (l n : Nat) (d : Nat) (f : FuncId) (xs : List AV) (K : St → Prop) (σ : St) : Prop := ∃ r, ACall P f l xs σ.H (fun y H' => y = r ∧ H' = σ.H) ∧ d < n ∧ K ⟨upd σ.s d r, σ.H⟩
theorem callQ_congr {d : Nat} {f : FuncId} {xs xs' : List AV} (h : xs = xs') (h2 : σ = σ') : callQ P l n d f xs K σ = callQ P l n d f xs' K σ' := by rw [h, h2]
theorem q_call {e : Nat} {as : Array Operand} {ts : Array TypeId} : qOp1 P l n ⟨some e, .call ⟨.value x, as, ts⟩, ty, ps, af, g⟩ K ⟨s, H⟩ =
    match ev s x with | .fn (.func g) first caps => callQ P (l + 1) n e g (first ++ as.toList.map (ev s) ++ caps) K ⟨s, H⟩ | _ => False := by
  show (match ev s x with | .fn (.func g) first caps => ∃ r, ACall P g (l + 1) (first ++ as.toList.map (ev s) ++ caps) H (fun y H' => y = r ∧ H' = H) ∧ putK n (some e) K ⟨s, H⟩ r | _ => False) = _
  cases ev s x <;> rfl
theorem callQ_of {d : Nat} {f : FuncId} {xs : List AV} (r : AV) (h : ACall P f l xs H (fun y H' => y = r ∧ H' = H)) (hd : d < n) (hK : K ⟨upd s d r, H⟩) : callQ P l n d f xs K ⟨s, H⟩ := ⟨r, h, hd, hK⟩

theorem updH_own {l i : Nat} {H : Hp} {b : Blk} {k : Key} (hk : k.1 ≤ l) : updH H (l + 1, i) b k = H k := updH_ne _ _ (fun e => by rw [e] at hk; simp at hk; omega)

theorem imp2 {p q A C : Prop} (h1 : p → A) (h2 : q → C) : (p → A) ∧ (q → C) := ⟨h1, h2⟩
theorem wrap_nat {a : Int} {i : Nat} (h : a = (i : Int)) (hi : i < 9223372036854775808) : IntKind.wrap .i64 a = (i : Int) := by
  subst h
  exact IntWalk.i64_in _ ⟨by omega, by omega⟩
theorem at_or {α : Type} (es : List α) (i : Nat) (hi : i ≤ es.length) : i = es.length ∨ ∃ x, es[i]? = some x ∧ i < es.length := by
  rcases Nat.lt_or_ge i es.length with h | h
  · exact .inr ⟨es[i], List.getElem?_eq_getElem h, h⟩
  · exact .inl (by omega)

theorem own_ne {l i : Nat} {k : Key} (hk : k.1 ≤ l) : (k = (l + 1, i)) = False := by
  simp only [eq_iff_iff, iff_false]
  rintro rfl
  simp at hk; omega
theorem own_le {l i : Nat} : ((l + 1, i) : Key).1 ≤ l + 1 := Nat.le_refl _

/-! ### A function's end -/
/-- A function's contract, out of its body's walk. -/
theorem acall_fn {f : FuncId} {fn : Func} (rs : List ResultVar) {c : Code} {xs : List AV} {Post : AV → Hp → Prop} (hf : P.funcs[f]? = some fn) (hb : fn.body = some c) (hname : (fn.name == "runtime.NumGoroutine") = false)
    (hn : fn.ntmps = n) (hr : fn.results.toList = rs) (hx : xs.length ≤ n) (h : ∀ B : Base, AWp P l n B c (fins P l H rs Post) ⟨args xs, clr l H⟩) : ACall P f l xs H Post := by
  refine acall_of hf hb hname hn hx fun B => awp_mono (h B) fun e σ hq => ?_
  unfold finQ
  rw [hr]
  exact ⟨hq.he, hq.hy⟩

theorem resA_mono {K K' : List AV → Prop} (hK : ∀ xs, K xs → K' xs) : ∀ (rs : List ResultVar) {K K' : List AV → Prop}, (∀ xs, K xs → K' xs) → resA P σ rs K → resA P σ rs K'
  | [], _, _, hK, h => hK _ h
  | .tmp t :: rest, _, _, hK, h => resA_mono ‹_› rest (fun xs h => hK _ h) h
  | .cell a t :: rest, K, K', hK, h => by
    have : ∀ x, resA P σ rest (fun xs => K (x :: xs)) → resA P σ rest (fun xs => K' (x :: xs)) := fun x => resA_mono ‹_› rest (fun xs h => hK _ h)
    unfold resA at h ⊢
    unfold vLoad at h ⊢
    split at h
    · split at h
      · exact ⟨h.1, h.2.1, this _ h.2.2⟩
      · split at h
        · exact this _ h
        · exact h.elim
      · exact h.elim
    · obtain ⟨h1, h2, h⟩ := h
      refine ⟨h1, h2, ?_⟩
      split at h
      · exact ⟨h.1, h.2.1, this _ h.2.2⟩
      · split at h
        · exact this _ h
        · exact h.elim
      · exact h.elim
    · exact h.elim

theorem resA_congr' {rs : List ResultVar} {K : List AV → Prop} (h : σ = σ') : resA P σ rs K = resA P σ' rs K := by rw [h]
theorem resA_nil {K : List AV → Prop} : resA P σ [] K = K [] := rfl
theorem resA_tmp {t : Nat} {rs : List ResultVar} {K : List AV → Prop} : resA P ⟨s, H⟩ (.tmp t :: rs) K = resA P ⟨s, H⟩ rs (fun xs => K (s t :: xs)) := rfl
theorem resA_cell {a t : Nat} {rs : List ResultVar} {K : List AV → Prop} : resA P ⟨s, H⟩ (.cell a t :: rs) K = vLoad P H t (s a) (fun x => resA P ⟨s, H⟩ rs (fun xs => K (x :: xs))) := rfl

/-- the end: what is returned is worth y; the caller's memory is as it was -/
theorem fin_r {rs : List ResultVar} {Post : AV → Hp → Prop} {e : Exit} (y : AV) (he : e = .normal ∨ e = .ret) (hz : resA P ⟨s, H'⟩ rs (fun xs => Fz H' l (tupA xs) y)) (hH : ∀ k : Key, k.1 ≤ l → H' k = H k) (h : Post y H) : fins P l H rs Post e ⟨s, H'⟩ :=
  ⟨he, resA_mono (K := fun xs => Fz H' l (tupA xs) y) (K' := fun xs => Fz H' l (tupA xs) y) (fun _ h => h) rs (fun xs hx => ⟨y, hx, by rw [show mrg l (St.H ⟨s, H'⟩) H = H from mrg_of hH]; exact h⟩) hz⟩

theorem Fz.data {xs : List D} : Fz H' l (.agg (xs.map .d)) (.agg (xs.map .d)) :=
  .agg _ _ rfl fun i x y hx hy => by
    rw [hx] at hy; cases hy
    rw [List.getElem?_map] at hx
    cases hi : xs[i]? with
    | none => rw [hi] at hx; cases hx
    | some d => rw [hi] at hx; cases hx; exact .keep _ rfl
/-- a struct of pure data -/
theorem Fz.pure {xs : List AV} {ds : List D} (h : pureD xs = some ds) : Fz H' l (.agg xs) (.agg (ds.map .d)) :=
  .agg _ _ (by rw [List.length_map]; exact pureD_len h) fun i x y hx hy => by
    rw [List.getElem?_map] at hy
    cases hi : ds[i]? with
    | none => rw [hi] at hy; cases hy
    | some d =>
      rw [hi] at hy; cases hy
      have := pureD_at h hx hi
      cases x <;> simp only [cellD] at this <;> cases this
      · exact .keep _ rfl
      · exact .e0
theorem pureD_map (ds : List D) : pureD (ds.map .d) = some ds := by
  induction ds with
  | nil => rfl
  | cons d ds ih => simp [pureD, cellD, ih]
theorem elD_agg (ds : List D) : elD (.agg (ds.map .d)) = some ds := pureD_map ds
theorem Fz.d' {x : AV} {y : D} (h : x = .d y) : Fz H' l x (.d y) := by subst h; exact .keep _ rfl
theorem Fz.two {x y x' y' : AV} (hx : Fz H' l x x') (hy : Fz H' l y y') : Fz H' l (tupA [x, y]) (.tup [x', y']) :=
  .tup _ _ rfl fun i a b ha hb => by
    match i with
    | 0 => cases ha; cases hb; exact hx
    | 1 => cases ha; cases hb; exact hy
    | i + 2 => simp at ha
theorem Fz.three {x y z x' y' z' : AV} (hx : Fz H' l x x') (hy : Fz H' l y y') (hz : Fz H' l z z') : Fz H' l (tupA [x, y, z]) (.tup [x', y', z']) :=
  .tup _ _ rfl fun i a b ha hb => by
    match i with
    | 0 => cases ha; cases hb; exact hx
    | 1 => cases ha; cases hb; exact hy
    | 2 => cases ha; cases hb; exact hz
    | i + 3 => simp at ha
theorem Fz.one {x x' : AV} (hx : Fz H' l x x') : Fz H' l (tupA [x]) x' := hx

/-- one result, pure data in its slot -/
theorem fin_d {t : Nat} {Post : AV → Hp → Prop} {e : Exit} {x : D} (he : e = .normal ∨ e = .ret) (hx : s t = .d x) (hH : ∀ k : Key, k.1 ≤ l → H' k = H k) (h : Post (.d x) H) : fins P l H [.tmp t] Post e ⟨s, H'⟩ :=
  fin_r (.d x) he (by rw [resA_tmp, resA_nil, hx]; exact .keep _ rfl) hH h

theorem RepA.nrm {S : Nat → Prop} {m : Mu} {w : World} {x : AV} {v : Value} (h : RepA w S H m l x v) : RepA w S H m l (nrm x) v := by
  cases x with
  | e0 => exact h.e0_d
  | agg xs =>
    cases h with
    | agg _ vs hx h1 h =>
      refine .agg _ _ (by simpa using hx) h1 (fun i y v hy hv => ?_)
      rw [List.getElem?_map] at hy
      cases hi : xs[i]? with
      | none => rw [hi] at hy; cases hy
      | some x =>
        rw [hi] at hy
        simp only [Option.map_some, Option.some.injEq] at hy
        subst hy
        have := h i x v hi hv
        split
        · exact this.e0_d
        · exact this
  | _ => exact h

/-- a call whose arguments are taken as pure data -/
theorem ACall.nrm {f : FuncId} {xs : List AV} {Post : AV → Hp → Prop} (h : ACall P f l (xs.map nrm) H Post) : ACall P f l xs H Post :=
  ⟨h.1, fun m S w vs hO ha => h.2 m S w vs hO ⟨by simpa using ha.1, fun i x v hx hv => by
    rw [List.getElem?_map] at hx
    cases hi : xs[i]? with
    | none => rw [hi] at hx; cases hx
    | some y =>
      rw [hi] at hx
      simp only [Option.map_some, Option.some.injEq] at hx
      subst hx
      exact (ha.2 i y v hi hv).nrm⟩⟩
end
end Go.Eng
