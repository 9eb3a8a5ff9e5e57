/-
  The abstract state of a walk, part C: what one operation that writes nothing yields ('vOp'), and that it does so.
-/
import Derived.Test.YthagpbkmakocjaaEngB
import Derived.Laws.Strings
import Derived.Laws.StructEq
import Derived.Laws.Tables
import Derived.Laws.Slices
namespace Go.Eng
set_option linter.all false
open Go Go.RowKit

/-! ### What is asked of the program's tables -/
def aggD : TypeDesc → Bool | .struct _ | .array _ _ => true | _ => false
def aggB (P : Program) (t : TypeId) : Option Bool := (P.underlying t).map aggD
def fld (P : Program) (t : TypeId) (i : Nat) : Option (Nat × Nat) := match P.underlying t with | some (.struct fs) => (fs[i]?).map fun f => (f.offset, P.cellsOf f.type) | _ => none
def elm (P : Program) (t : TypeId) : Option (TypeId × Nat) := match P.underlying t with | some (.slice e) => some (e, P.cellsOf e) | _ => none
def zer (P : Program) (t : TypeId) : Option (List AV) := (P.info? t).bind fun i => i.zero.bind fun z => if z.cells.toList.all (·.oneCell') = true ∧ z.cells.size = i.size then some (z.cells.toList.map cv) else none
/-- the type's kind, where it is one cell of plain data: 0 another, 1 a bool, 2 a string, 3 an integer, 4 a slice -/
def kin (P : Program) (t : TypeId) : Nat := match P.underlying t with | some .bool => 1 | some .string => 2 | some (.int _) => 3 | some (.slice _) => 4 | _ => 0

def sLt (a b : ByteArray) : Bool := Op.bytesLess a.toList b.toList

/-! ### The values -/
def vLoad (P : Program) (H : Hp) (t : TypeId) (x : AV) (K : AV → Prop) : Prop :=
  match x with
  | .iptr cs off => match aggB P t with
    | some true => P.cellsOf t ≠ 0 ∧ off + P.cellsOf t ≤ cs.length ∧ K (.agg (((cs.drop off).take (P.cellsOf t)).map .d))
    | some false => match cs[off]? with | some c => K (.d c) | none => False
    | none => False
  | .ptr k g off => g = (H k).g ∧ (H k).live = true ∧ match aggB P t with
    | some true => P.cellsOf t ≠ 0 ∧ off + P.cellsOf t ≤ (H k).cells.length ∧ K (.agg (((H k).cells.drop off).take (P.cellsOf t)))
    | some false => match (H k).cells[off]? with | some c => K c | none => False
    | none => False
  | _ => False

def vFieldAddr (P : Program) (H : Hp) (t : TypeId) (i : Nat) (x : AV) (K : AV → Prop) : Prop :=
  match x, fld P t i with
  | .iptr cs off, some (o, n) => n ≠ 0 ∧ K (.iptr cs (off + o))
  | .ptr k g off, some (o, n) => n ≠ 0 ∧ g = (H k).g ∧ (H k).live = true ∧ K (.ptr k g (off + o))
  | _, _ => False

def vField (P : Program) (t : TypeId) (i : Nat) (x : AV) (K : AV → Prop) : Prop :=
  match x, P.underlying t with
  | .agg cs, some (.struct fs) => match fs[i]? with
    | some f => match aggB P f.type with
      | some true => P.cellsOf f.type ≠ 0 ∧ K (.agg ((cs.drop f.offset).take (P.cellsOf f.type)))
      | some false => match cs[f.offset]? with | some c => K c | none => False
      | none => False
    | none => False
  | _, _ => False

def vIndexAddr (P : Program) (H : Hp) (t : TypeId) (x i : AV) (K : AV → Prop) : Prop :=
  match x, i, elm P t with
  | .d (.list es), .d (.int _ n), some (_, sz) => 0 ≤ n ∧ match es[n.toNat]? with | some e => e.length = sz ∧ sz ≠ 0 ∧ K (.iptr e 0) | none => False
  | .ref k g off len, .d (.int _ n), some (_, sz) => 0 ≤ n ∧ n < len ∧ g = (H k).g ∧ (H k).live = true ∧ (H k).sz = sz ∧ sz ≠ 0 ∧ K (.ptr k g ((off + n.toNat) * sz))
  | _, _, _ => False

def vIndex (P : Program) (t : TypeId) (x i : AV) (K : AV → Prop) : Prop :=
  match x, i with
  | .d (.str s), .d (.int _ n) => kin P t = 2 ∧ 0 ≤ n ∧ match s.data.toList[n.toNat]? with | some b => K (.d (.int .u8 b.toNat)) | none => False
  | _, _ => False

def vInt (op : BinOp) (k : IntKind) (a b : Int) (K : AV → Prop) : Prop :=
  match op with
  | .add => K (.d (.int k (k.wrap (a + b))))
  | .sub => K (.d (.int k (k.wrap (a - b))))
  | .mul => K (.d (.int k (k.wrap (a * b))))
  | .eql => K (.d (.bool (decide (a = b))))
  | .neq => K (.d (.bool (!decide (a = b))))
  | .lss => K (.d (.bool (decide (a < b))))
  | .leq => K (.d (.bool (decide (a ≤ b))))
  | .gtr => K (.d (.bool (decide (b < a))))
  | .geq => K (.d (.bool (decide (b ≤ a))))
  | .quo => b ≠ 0 ∧ K (.d (.int k (k.wrap (a.tdiv b))))
  | .rem => b ≠ 0 ∧ K (.d (.int k (a.tmod b)))
  | .shr => 0 ≤ b ∧ K (.d (.int k (a.fdiv (2 ^ (min b.toNat k.bits)))))
  | .shl => 0 ≤ b ∧ K (.d (.int k (k.wrap (a * 2 ^ (min b.toNat k.bits)))))
  | _ => False

def vStr (op : BinOp) (a b : ByteArray) (K : AV → Prop) : Prop :=
  match op with
  | .add => a.size + b.size ≤ 9223372036854775807 ∧ K (.d (.str (a ++ b)))
  | .eql => K (.d (.bool (decide (a = b))))
  | .neq => K (.d (.bool (!decide (a = b))))
  | .lss => K (.d (.bool (sLt a b)))
  | .leq => K (.d (.bool (sLt a b || decide (a = b))))
  | .gtr => K (.d (.bool (!(sLt a b || decide (a = b)))))
  | .geq => K (.d (.bool (!sLt a b)))
  | _ => False

/-- a slice held against nil -/
def vNil (H : Hp) (neg : Bool) (x : AV) (K : AV → Prop) : Prop :=
  match x with
  | .d (.list []) | .e0 => ∀ b, K (.d (.bool b))
  | .d (.list (_ :: _)) => K (.d (.bool neg))
  | .ref k g _ n => (g = (H k).g ∧ (H k).live = true) ∧ ((n ≠ 0 → K (.d (.bool neg))) ∧ (n = 0 → ∀ b, K (.d (.bool b))))
  | _ => False

def eqD : Nat → D → D → Option Bool
  | 3, .int k a, .int k' b => if k = k' then some (decide (a = b)) else none
  | 2, .str a, .str b => some (decide (a = b))
  | 1, .bool a, .bool b => some (decide (a = b))
  | _, _, _ => none

def eqAVs : List Nat → List AV → List AV → Option Bool
  | [], [], [] => some true
  | k :: ks, .d x :: xs, .d y :: ys => match eqD k x y, eqAVs ks xs ys with
    | some a, some b => some (a && b)
    | _, _ => none
  | _, _, _ => none

def eqF (P : Program) : Nat → List Field → Option (List Nat)
  | _, [] => some []
  | k, f :: fs => if f.name = "_" ∨ f.offset ≠ k then none else (eqF P (k + 1) fs).map (kin P f.type :: ·)

/-- the kinds of the cells, where structs of this type are held one against another cell by cell -/
def eqT (P : Program) (t : TypeId) : Option (List Nat) :=
  match P.underlying t with
  | some (.struct fs) => if (!P.stoodInHeld t && !P.eqGuardType P.depth t) = true then eqF P 0 fs.toList else none
  | _ => none

def vAgg (P : Program) (op : BinOp) (t : TypeId) (xs ys : List AV) (K : AV → Prop) : Prop :=
  match eqT P t with
  | some ks => (match eqAVs ks xs ys with
    | some b => (match op with
      | .eql => K (.d (.bool b))
      | .neq => K (.d (.bool (!b)))
      | _ => False)
    | none => False)
  | none => False

def vBin (P : Program) (H : Hp) (op : BinOp) (t : TypeId) (ny : Bool) (x y : AV) (K : AV → Prop) : Prop :=
  match x, y with
  | .d (.int k a), .d (.int k' b) => k = k' ∧ vInt op k a b K
  | .d (.str a), .d (.str b) => vStr op a b K
  | .d (.bool a), .d (.bool b) => kin P t = 1 ∧ match op with
    | .eql => K (.d (.bool (a == b)))
    | .neq => K (.d (.bool (!(a == b))))
    | _ => False
  | .agg xs, .agg ys => vAgg P op t xs ys K
  | x, .e0 => ny = true ∧ kin P t = 4 ∧ match op with
    | .eql => vNil H false x K
    | .neq => vNil H true x K
    | _ => False
  | _, _ => False

def vUn (op : UnOp) (x : AV) (K : AV → Prop) : Prop :=
  match op, x with
  | .not, .d (.bool b) => K (.d (.bool (!b)))
  | .neg, .d (.int k n) => K (.d (.int k (k.wrap (0 - n))))
  | _, _ => False

def vConv (P : Program) (s d : TypeId) (x : AV) (K : AV → Prop) : Prop :=
  match P.underlying s, P.underlying d, x with
  | some _, some (.int k), .d (.int _ n) => K (.d (.int k (k.wrap n)))
  | some .string, some .string, .d (.str s) => K (.d (.str s))
  | _, _, _ => False

/-- a bound of a slice expression -/
def bnd (dflt : Nat) : Option AV → Option Nat
  | none => some dflt
  | some (.d (.int _ n)) => if 0 ≤ n then some n.toNat else none
  | _ => none

def vSlice (P : Program) (H : Hp) (t : TypeId) (x : AV) (lo hi : Option AV) (mx : Bool) (K : AV → Prop) : Prop :=
  match x with
  | .d (.str s) => kin P t = 2 ∧ mx = false ∧ match bnd 0 lo, bnd s.size hi with
    | some l, some h => l ≤ h ∧ h ≤ s.size ∧ K (.d (.str (s.extract l h)))
    | _, _ => False
  | .d (.list es) => mx = false ∧ match elm P t, bnd 0 lo, bnd es.length hi with
    | some (_, sz), some l, some h => sz ≠ 0 ∧ (∀ e, e ∈ es → e.length = sz) ∧ l ≤ h ∧ h ≤ es.length ∧ K (.d (.list ((es.drop l).take (h - l))))
    | _, _, _ => False
  | .ref k g off n => mx = false ∧ g = (H k).g ∧ (H k).live = true ∧ match elm P t, bnd 0 lo, bnd n hi with
    | some (_, sz), some l, some h => sz ≠ 0 ∧ (H k).sz = sz ∧ l ≤ h ∧ h ≤ n ∧ K (.ref k g (off + l) (h - l))
    | _, _, _ => False
  | _ => False

def vLen (P : Program) (H : Hp) (t : TypeId) (x : AV) (K : AV → Prop) : Prop :=
  match x with
  | .d (.str s) => kin P t = 2 ∧ K (.d (.int .i64 s.size))
  | .d (.list es) => kin P t = 4 ∧ K (.d (.int .i64 es.length))
  | .e0 => kin P t = 4 ∧ K (.d (.int .i64 0))
  | .ref k g _ n => kin P t = 4 ∧ g = (H k).g ∧ (H k).live = true ∧ K (.d (.int .i64 n))
  | _ => False

/-- the cells of a value -/
def cellsAV : AV → Option (List AV)
  | .agg xs => some xs
  | .top | .tup _ => none
  | x => some [x]

def fillA (place : Nat → Option (Nat × Nat)) (cells : List AV) : List (Nat × AV) → Option (List AV)
  | [] => some cells
  | (i, v) :: rest => match place i, cellsAV v with
    | some (off, size), some vs => if vs.length ≠ size ∨ off + vs.length > cells.length then none else fillA place (cells.take off ++ vs ++ cells.drop (off + vs.length)) rest
    | _, _ => none

section
variable {P : Program} {l n : Nat} {H : Hp} {m : Mu} {S : Nat → Prop} {w : World} {s : Nat → AV} {a : Act}

theorem underlying_info {t : TypeId} {d : TypeDesc} (h : P.underlying t = some d) : ∃ i, P.info? t = some i := by
  unfold Program.underlying at h
  cases hi : P.info? t with
  | none => rw [hi] at h; cases h
  | some i => exact ⟨i, rfl⟩
theorem run_sizeOf {t : TypeId} {i : TypeInfo} (h : P.info? t = some i) (w : World) : (sizeOf t).run P w = .ok (P.cellsOf t) w := by
  simp [sizeOf, typeInfo, h, Program.cellsOf]
theorem run_isAgg {t : TypeId} {b : Bool} (h : aggB P t = some b) (w : World) : (isAgg t).run P w = .ok b w := by
  unfold aggB at h
  unfold isAgg underlying
  cases hu : P.underlying t with
  | none => rw [hu] at h; cases h
  | some d =>
    rw [hu] at h
    simp only [Option.map_some, Option.some.injEq] at h
    subst h
    cases d <;> simp [hu, aggD]
theorem cells_info {t : TypeId} (h : P.cellsOf t ≠ 0) : ∃ i, P.info? t = some i := by
  unfold Program.cellsOf at h
  cases hi : P.info? t with
  | none => rw [hi] at h; simp at h
  | some i => exact ⟨i, rfl⟩
theorem run_size {t : TypeId} (h : P.cellsOf t ≠ 0) (w : World) : (sizeOf t).run P w = .ok (P.cellsOf t) w := by
  obtain ⟨i, hi⟩ := cells_info h
  exact run_sizeOf hi w

theorem loadCells_of {w : World} (ad : Addr) (vs : List Value) (k : Nat) (hk : vs.length = k) (h : ∀ (j : Nat) (v : Value), vs[j]? = some v → w.cell? (ad.add j) = some v) :
    (loadCells ad k).run P w = .ok vs.toArray w := by subst hk; exact run_loadCells_list w ad vs h

/-- The cells of a live block. -/
theorem Ok.row (hO : Ok (l + 1) H m S w) {k : Key} (hk : k.1 ≤ l + 1) (hl : (H k).live = true) (hne : (H k).cells ≠ []) :
    (m k).cap ≠ 0 ∧ ∃ C : Array Value, w.heap[(m k).b]? = some (.cells C (H k).e (0, 0)) ∧ C.size = (m k).o + (m k).cap * (H k).sz ∧ (H k).cells.length ≤ (m k).cap * (H k).sz ∧
      ∀ (i : Nat) (x : AV), (H k).cells[i]? = some x → ∃ v, C[(m k).o + i]? = some v ∧ v.oneCell' = true ∧ RepA w S H m (l + 1) x v := by
  have hc : (m k).cap ≠ 0 := fun e => hne (hO.empty k hk hl e)
  obtain ⟨C, h1, h2, h3, h4⟩ := hO.blk k hk hl hc
  refine ⟨hc, C, h1, h2, h3, fun i x hi => ?_⟩
  have hlt : i < (H k).cells.length := by
    rcases Nat.lt_or_ge i (H k).cells.length with h | h
    · exact h
    · rw [List.getElem?_eq_none h] at hi; cases hi
  have hv : C[(m k).o + i]? = some (C[(m k).o + i]'(by omega)) := Array.getElem?_eq_getElem (by omega)
  obtain ⟨g1, g2⟩ := h4 i x _ hi hv
  exact ⟨_, hv, g1, g2.lvl hk⟩

theorem cell_row {b : Nat} {C : Array Value} {e : TypeId} {f : Nat × Nat} (h : w.heap[b]? = some (.cells C e f)) (i : Nat) : w.cell? ⟨b, i, none⟩ = C[i]? := by
  simp [World.cell?, h]

theorem vLoad_sound {t : TypeId} {x : AV} {v : Value} {K : AV → Prop} (h : vLoad P H t x K) (hx : RepA w S H m (l + 1) x v) (hO : Ok (l + 1) H m S w) :
    ∃ v' x', (Instr.loadAt t v).run P w = .ok v' w ∧ RepA w S H m (l + 1) x' v' ∧ K x' := by
  unfold vLoad at h
  cases hx <;> simp only at h <;> try exact h.elim
  case iptr cs off a c hb hc hr =>
    split at h
    · rename_i hag
      obtain ⟨hz, hlen, hK⟩ := h
      refine ⟨.agg ((List.range (P.cellsOf t)).map fun j => c (off + j)).toArray, _, ?_, ?_, hK⟩
      · simp only [Instr.loadAt, Instr.sureAddr, loadVar, Sem.run_bind, Sem.run_pure, Result.andThen_ok, run_isAgg hag, run_size hz, if_true]
        rw [loadCells_of (P := P) (a.add off) ((List.range (P.cellsOf t)).map fun j => c (off + j)) (P.cellsOf t) (by simp)]
        · rfl
        · intro j v hj
          simp only [List.getElem?_map] at hj
          have hlt : j < P.cellsOf t := by
            rcases Nat.lt_or_ge j (P.cellsOf t) with h | h
            · exact h
            · rw [List.getElem?_eq_none (by simpa using h)] at hj; cases hj
          have : v = c (off + j) := by
            rw [List.getElem?_eq_getElem (by simpa using hlt)] at hj
            simpa using hj.symm
          subst this
          rw [add_add]
          exact hc (off + j) _ (List.getElem?_eq_getElem (by omega))
      · refine .agg _ _ (by simp; omega) (fun i v hv => ?_) (fun i x v hi hv => ?_)
        · have : i < P.cellsOf t := by
            rcases Nat.lt_or_ge i (P.cellsOf t) with h | h
            · exact h
            · rw [Array.getElem?_eq_none (by simpa using h)] at hv; cases hv
          have e : v = c (off + i) := by simpa [this] using hv.symm
          subst e
          exact (hr (off + i) _ (List.getElem?_eq_getElem (by omega))).one
        · have : i < P.cellsOf t := by
            rcases Nat.lt_or_ge i (P.cellsOf t) with h | h
            · exact h
            · rw [Array.getElem?_eq_none (by simpa using h)] at hv; cases hv
          have e : v = c (off + i) := by simpa [this] using hv.symm
          subst e
          have e2 : cs[off + i]? = some (cs[off + i]'(by omega)) := List.getElem?_eq_getElem (by omega)
          have e3 : x = .d (cs[off + i]'(by omega)) := by
            simp only [List.getElem?_map, List.getElem?_take, this, if_true, List.getElem?_drop, e2, Option.map_some, Option.some.injEq] at hi
            exact hi.symm
          subst e3
          exact .d _ _ (hr _ _ e2)
    · rename_i hag
      split at h
      · rename_i c' hc'
        refine ⟨c off, .d c', ?_, .d _ _ (hr off c' hc'), h⟩
        simp [Instr.loadAt, Instr.sureAddr, loadVar, run_isAgg hag, hc off c' hc']
      · exact h.elim
    · exact h.elim
  case ptrL k off hk hl =>
    obtain ⟨_, _, h⟩ := h
    split at h
    · rename_i hag
      obtain ⟨hz, hlen, hK⟩ := h
      obtain ⟨hc, C, h1, h2, h3, h4⟩ := hO.row hk hl (by intro e; rw [e] at hlen; simp at hlen; omega)
      refine ⟨.agg (C.extract ((m k).o + off) ((m k).o + off + P.cellsOf t)), _, ?_, ?_, hK⟩
      · simp only [Instr.loadAt, Instr.sureAddr, loadVar, Sem.run_bind, Sem.run_pure, Result.andThen_ok, run_isAgg hag, run_size hz, if_true]
        rw [loadCells_of (P := P) ⟨(m k).b, (m k).o + off, none⟩ (C.extract ((m k).o + off) ((m k).o + off + P.cellsOf t)).toList (P.cellsOf t) (by simp; omega)]
        · rw [Array.toArray_toList]; rfl
        · intro j v hj
          have hj' : (C.extract ((m k).o + off) ((m k).o + off + P.cellsOf t))[j]? = some v := by rw [Array.getElem?_toList] at hj; exact hj
          rw [Addr.add_lit, cell_row h1]
          rw [Array.getElem?_extract] at hj'
          split at hj' <;> simp_all
      · refine .agg _ _ (by simp; omega) (fun i v hv => ?_) (fun i x v hi hv => ?_)
        all_goals
          rw [Array.getElem?_extract] at hv
          split at hv
          · rename_i hlt
            have hlt' : off + i < (H k).cells.length := by omega
            obtain ⟨v', e1, e2, e3⟩ := h4 (off + i) _ (List.getElem?_eq_getElem hlt')
            rw [Nat.add_assoc, e1] at hv
            simp only [Option.some.injEq] at hv
            subst hv
            first
              | exact e2
              | (have e4 : x = (H k).cells[off + i] := by
                   rw [List.getElem?_take] at hi
                   split at hi
                   · rw [List.getElem?_drop, List.getElem?_eq_getElem hlt'] at hi
                     simpa using hi.symm
                   · cases hi
                 subst e4
                 exact e3)
          · cases hv
    · rename_i hag
      split at h
      · rename_i c' hc'
        obtain ⟨hc, C, h1, h2, h3, h4⟩ := hO.row hk hl (by intro e; rw [e] at hc'; simp at hc')
        obtain ⟨v', e1, e2, e3⟩ := h4 off c' hc'
        refine ⟨v', c', ?_, e3, h⟩
        simp [Instr.loadAt, Instr.sureAddr, loadVar, run_isAgg hag, cell_row h1, e1]
      · exact h.elim
    · exact h.elim
  case ptrD k g off hk hg hd h1 =>
    obtain ⟨e, e2, _⟩ := h
    rw [hd e] at e2; cases e2
end
end Go.Eng
