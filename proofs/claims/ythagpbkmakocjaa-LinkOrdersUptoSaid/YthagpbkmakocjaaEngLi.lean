/-
  From what the form says of the arguments (they read as data) to the walk's data, and from the walk's end to what the form asks behind the call.
-/
import Derived.Test.YthagpbkmakocjaaEngZb
import Derived.Test.YthagpbkmakocjaaDat
import Derived.Test.YthagpbkmakocjaaRows
import Derived.WalkKit
import Derived.ProofKit
import Derived.OpenShut
import Derived.Carry
import Derived.Deep.DeepHandedRow
namespace Go.Proofs.Ythagpbkmakocjaa
set_option linter.all false
open Go Go.Eng Go.ChangeShapes Go.WideShapes Go.ChangeAt Go.RowKit

theorem bulk_str {H : Type} (b : List UInt8) : Rows.uptoBulk (DataW.lit (H := H) (.string b)) = b.length + 1 := by simp only [Rows.uptoBulk]
theorem bulk_slice {H : Type} (a b : List (DataW H)) : Rows.uptoBulk (.slice a b) = Rows.uptoBulkAll a + Rows.uptoBulkAll b + 1 := by simp only [Rows.uptoBulk]
theorem bulk_agg {H : Type} (a : List (DataW H)) : Rows.uptoBulk (.agg a) = Rows.uptoBulkAll a + 1 := by simp only [Rows.uptoBulk]
/-- cells, from a place on, that stand for data -/
def RepAt (W : World) (ds : List D) (cs : List Value) (o : Nat) : Prop := ∀ (i : Nat) (d : D), ds[i]? = some d → ∃ c, cs[o + i]? = some c ∧ RepD W (· < W.heap.size) d c
def RepCs (W : World) (ds : List D) (cs : List Value) : Prop := ds.length = cs.length ∧ RepAt W ds cs 0
theorem RepAt.app {W : World} {ds es : List D} {cs : List Value} {o : Nat} (h : RepAt W ds cs o) (k : RepAt W es cs (o + ds.length)) : RepAt W (ds ++ es) cs o := fun i d hi => by
  rcases Nat.lt_or_ge i ds.length with hl | hl
  · rw [List.getElem?_append_left hl] at hi; exact h i d hi
  · rw [List.getElem?_append_right hl] at hi
    obtain ⟨c, h1, h2⟩ := k _ d hi
    exact ⟨c, by rw [← h1]; congr 1; omega, h2⟩
theorem RepAt.nil {W : World} {cs : List Value} {o : Nat} : RepAt W [] cs o := fun i d h => by simp at h
theorem RepCs.at {W : World} {ds : List D} {cs : List Value} {o k : Nat} (h : RepCs W ds ((cs.drop o).take k)) : RepAt W ds cs o := fun i d hi => by
  obtain ⟨c, h1, h2⟩ := h.2 i d hi
  rw [Nat.zero_add, List.getElem?_take] at h1
  split at h1
  · rw [List.getElem?_drop] at h1; exact ⟨c, h1, h2⟩
  · cases h1
theorem fitL_app {a b : List D} (h : FitL a) (k : FitL b) : FitL (a ++ b) := fun d hd => (List.mem_append.1 hd).elim (h d) (k d)

section
variable {H : Type} (enc : TypeId × Value → H) (P : Program) (W : World)
def RdN {α : Type} (n : Nat) (t : TypeId) (e : α → List D) : Prop :=
  ∀ cs x, DataW.trod enc P W 0 (fun _ => true) true n t cs = some x → ∃ v : α, RepCs W (e v) cs ∧ (Rows.uptoBulk x.1 ≤ 1048576 → FitL (e v))
end
section
variable {H : Type} {enc : TypeId × Value → H} {P : Program} {W : World} {n : Nat} {t : TypeId}

theorem repCs_one {d : D} {c : Value} (h : RepD W (· < W.heap.size) d c) : RepCs W [d] [c] := ⟨rfl, fun i d' hi => by
  cases i with
  | zero => cases hi; exact ⟨c, rfl, h⟩
  | succ i => simp at hi⟩
theorem rd_int {k : IntKind} (ht : P.underlying t = some (.int k)) : RdN enc P W n t (fun v : Int => [.int k v]) := fun cs x hx => by
  obtain ⟨m, rfl, rfl, _⟩ := DataW.trod_int ht hx
  exact ⟨m, repCs_one (.int _ _), fun _ => fitL_cons (.int _ _) fitL_nil⟩
theorem rd_bool (ht : P.underlying t = some .bool) : RdN enc P W n t (fun v : Bool => [.bool v]) := fun cs x hx => by
  obtain ⟨m, rfl, rfl⟩ := DataW.trod_bool ht hx
  exact ⟨m, repCs_one (.bool _), fun _ => fitL_cons (.bool _) fitL_nil⟩
theorem rd_str (ht : P.underlying t = some .string) : RdN enc P W n t (fun v : ByteArray => [.str v]) := fun cs x hx => by
  obtain ⟨m, rfl, rfl, _⟩ := DataW.trod_string ht hx
  refine ⟨m, repCs_one (.str _), fun h => fitL_cons (.str _ ?_) fitL_nil⟩
  rw [bulk_str] at h
  have : m.size = m.data.toList.length := rfl
  omega

theorem bulk_part {d : DataW H} {l : List (DataW H)} (h : d ∈ l) : Rows.uptoBulk d ≤ Rows.uptoBulkAll l := by
  induction l with
  | nil => cases h
  | cons x r ih =>
    simp only [Rows.uptoBulkAll]
    cases List.mem_cons.1 h with
    | inl e => subst e; omega
    | inr e => have := ih e; omega
theorem bulk_one (d : DataW H) : 1 ≤ Rows.uptoBulk d := by cases d <;> (try (rename_i l; cases l)) <;> simp [Rows.uptoBulk]
theorem bulk_len (l : List (DataW H)) : l.length ≤ Rows.uptoBulkAll l := by
  induction l with
  | nil => simp [Rows.uptoBulkAll]
  | cons x r ih => have := bulk_one x; simp only [Rows.uptoBulkAll, List.length_cons]; omega

theorem list_of {α : Type} {Q : Nat → α → Prop} : ∀ (len : Nat), (∀ i, i < len → ∃ v, Q i v) → ∃ l : List α, l.length = len ∧ ∀ i v, l[i]? = some v → Q i v
  | 0, _ => ⟨[], rfl, fun i v h => by simp at h⟩
  | len + 1, h => by
    obtain ⟨l, h1, h2⟩ := list_of len (fun i hi => h i (by omega))
    obtain ⟨v, hv⟩ := h len (by omega)
    refine ⟨l ++ [v], by simp [h1], fun i w hi => ?_⟩
    rcases Nat.lt_or_ge i l.length with hl | hl
    · rw [List.getElem?_append_left hl] at hi; exact h2 i w hi
    · rw [List.getElem?_append_right hl] at hi
      have : i - l.length = 0 := by
        rcases Nat.eq_zero_or_pos (i - l.length) with h0 | h0
        · exact h0
        · rw [List.getElem?_eq_none (by simp; omega)] at hi; cases hi
      rw [this] at hi
      cases hi
      have : i = len := by omega
      subst this
      exact hv

theorem rd_slice {α : Type} {e : TypeId} {enc' : α → List D} {sz : Nat} (ht : P.underlying t = some (.slice e)) (hsz : P.cellsOf e = sz) (hs0 : sz ≠ 0) (hl : ∀ x, (enc' x).length = sz) (h : ∀ m, m < n → RdN enc P W m e enc') :
    RdN enc P W n t (fun l : List α => [.list (l.map enc')]) := fun cs x hx => by
  rcases DataW.trod_slice ht hx with ⟨rfl, rfl⟩ | ⟨a, len, cap, elems, rest, m, rfl, rfl, rfl, hb, hlc, hcm, hel, hi, _, _⟩
  · exact ⟨[], repCs_one .nil, fun _ => fitL_cons fit_nil fitL_nil⟩
  · have each : ∀ i, i < len → ∃ v : α, ∃ y cs', elems[i]? = some y ∧ W.cells? 0 (a.add (i * sz)) sz = some cs' ∧ RepCs W (enc' v) cs' ∧ (Rows.uptoBulk y.1 ≤ 1048576 → FitL (enc' v)) := fun i hlt => by
      have h1 := hi i hlt
      rw [List.getElem?_eq_getElem (by omega), hsz] at h1
      obtain ⟨cs', h2, h3⟩ := Option.bind_eq_some_iff.1 h1
      obtain ⟨v, h4, h5⟩ := h m (by omega) cs' _ h3
      exact ⟨v, _, cs', List.getElem?_eq_getElem (by omega), h2, h4, h5⟩
    obtain ⟨l, hll, hlq⟩ := list_of len each
    have cell : ∀ (i j : Nat) (e' : List D) (x : D), (l.map enc')[i]? = some e' → e'[j]? = some x → ∃ c, W.cell? (a.add (i * sz + j)) = some c ∧ RepD W (· < W.heap.size) x c := fun i j e' x hi' hj => by
      rw [List.getElem?_map] at hi'
      cases hv : l[i]? with
      | none => rw [hv] at hi'; cases hi'
      | some v =>
        rw [hv] at hi'
        cases hi'
        obtain ⟨y, cs', g1, g2, g3, g4⟩ := hlq i v hv
        obtain ⟨c, g5, g6⟩ := g3.2 j x hj
        rw [Nat.zero_add] at g5
        obtain ⟨_, g7, g8⟩ := World.cells?_some g2
        have hjl : j < sz := by
          rw [← hl v]
          rcases Nat.lt_or_ge j (enc' v).length with h | h
          · exact h
          · rw [List.getElem?_eq_none h] at hj; cases hj
        refine ⟨c, ?_, g6⟩
        rw [← Go.Eng.add_add, g8 j hjl, g5]
    refine ⟨l, repCs_one ?_, fun hk => fitL_cons (.list _ ?_ ?_) fitL_nil⟩
    · have hlen : (l.map enc').length = len := by simp [hll]
      have := RepD.list (w := W) (S := (· < W.heap.size)) (l.map enc') a sz cap (fun i j => (W.cell? (a.add (i * sz + j))).getD undef) (fun hne => by
          have h0 : 0 < len := by
            rcases Nat.eq_zero_or_pos len with h | h
            · exact absurd (List.eq_nil_of_length_eq_zero (hlen.trans h)) hne
            · exact h
          obtain ⟨v, y, cs', _, g2, _⟩ := each 0 h0
          have := World.cells?_block g2 (by omega)
          rw [Nat.zero_mul] at this
          rw [← Go.Eng.block_add a 0]; exact this)
        (by rw [hlen]; exact hlc) (fun e' he => by obtain ⟨y, _, rfl⟩ := List.mem_map.1 he; exact hl y)
        (fun i j e' x hi' hj => by obtain ⟨c, g1, _⟩ := cell i j e' x hi' hj; rw [g1]; rfl)
        (fun i j e' x hi' hj => by obtain ⟨c, g1, g2⟩ := cell i j e' x hi' hj; rw [g1]; exact g2)
      rw [hlen] at this
      exact this
    · have hb := hk
      rw [bulk_slice] at hb
      have := bulk_len (elems.map (·.1))
      rw [List.length_map] at this
      rw [List.length_map]
      omega
    · have hb := hk
      rw [bulk_slice] at hb
      intro e' he
      obtain ⟨v, hv, rfl⟩ := List.mem_map.1 he
      obtain ⟨i, hi'⟩ := List.mem_iff_getElem?.1 hv
      obtain ⟨y, cs', g1, g2, g3, g4⟩ := hlq i v hi'
      have hy : y.1 ∈ elems.map (·.1) := List.mem_map.2 ⟨y, List.mem_of_getElem? g1, rfl⟩
      have := bulk_part hy
      exact g4 (by omega)

/-- a field of a struct -/
theorem rd_field {α : Type} {e : α → List D} {m i : Nat} {t' : TypeId} {piece : List Value} {xs : List (DataW H × List MemPlace)} (h : RdN enc P W m t' e) (hf : DataW.trod enc P W 0 (fun _ => true) true m t' piece = xs[i]?) (hi : i < xs.length) :
    ∃ v, RepCs W (e v) piece ∧ (Rows.uptoBulkAll (xs.map (·.1)) + 1 ≤ 1048576 → FitL (e v)) := by
  rw [List.getElem?_eq_getElem hi] at hf
  obtain ⟨v, h1, h2⟩ := h _ _ hf
  refine ⟨v, h1, fun hb => h2 ?_⟩
  have := bulk_part (H := H) (List.mem_map.2 ⟨xs[i], List.getElem_mem hi, rfl⟩ : (xs[i]).1 ∈ xs.map (·.1))
  omega
theorem rdN_eq {α : Type} {e e' : α → List D} (he : ∀ x, e x = e' x) (h : RdN enc P W n t e') : RdN enc P W n t e := fun cs x hx => by
  obtain ⟨v, h1, h2⟩ := h cs x hx
  exact ⟨v, by rw [he]; exact h1, by rw [he]; exact h2⟩

/-! ### Arguments -/
theorem arg_agg {α : Type} {e : α → List D} {fs : Array Field} {r : Reach} {base : Nat} {v : Value} {d : DataW H} {p : List MemPlace} (rd : ∀ n, RdN enc P W n t e) (ht : P.underlying t = some (.struct fs)) (hv : Value.okWide P W r base t v)
    (h : DataW.Trod enc P W 0 (fun _ => true) true t v d p) : ∃ x : α, (∀ m l, RepA W (· < W.heap.size) (fun _ => ⟨0, false, 0, 0, []⟩) m l (.agg ((e x).map .d)) v) ∧ (Rows.uptoBulk d ≤ 1048576 → FitL (e x)) := by
  obtain ⟨cs, rfl, _⟩ := okWide_struct ht hv
  obtain ⟨n, hn⟩ := h
  obtain ⟨x, h1, h2⟩ := rd n _ _ hn
  have hl : (e x).length = cs.size := by rw [h1.1]; simp [Value.cells]
  have key : ∀ (i : Nat) (c : Value) , cs[i]? = some c → ∃ d, (e x)[i]? = some d ∧ RepD W (· < W.heap.size) d c := fun i c hc => by
    have hlt : i < (e x).length := by
      rw [hl]
      rcases Nat.lt_or_ge i cs.size with h | h
      · exact h
      · rw [Array.getElem?_eq_none h] at hc; cases hc
    obtain ⟨c', h3, h4⟩ := h1.2 i _ (List.getElem?_eq_getElem hlt)
    have : c' = c := by
      rw [Nat.zero_add] at h3
      have : cs.toList[i]? = some c' := h3
      rw [Array.getElem?_toList, hc] at this
      exact (Option.some.inj this).symm
    subst this
    exact ⟨_, List.getElem?_eq_getElem hlt, h4⟩
  refine ⟨x, fun m l => .agg _ _ (by rw [List.length_map, hl]) (fun i c hc => ?_) (fun i y c hy hc => ?_), h2⟩
  · obtain ⟨d, _, h3⟩ := key i c hc; exact h3.one
  · obtain ⟨d, h3, h4⟩ := key i c hc
    rw [List.getElem?_map, h3] at hy
    cases hy
    exact .d _ _ h4
theorem arg_int {k : IntKind} {r : Reach} {base : Nat} {v : Value} {d : DataW H} {p : List MemPlace} (ht : P.underlying t = some (.int k)) (hv : Value.okWide P W r base t v) :
    ∃ x : Int, ∀ S Hp m l, RepA W S Hp m l (.d (.int k x)) v := by
  obtain ⟨x, rfl⟩ := okWide_int ht hv
  exact ⟨x, fun _ _ _ _ => .d _ _ (.int _ _)⟩
theorem arg_str {r : Reach} {base : Nat} {v : Value} {d : DataW H} {p : List MemPlace} (ht : P.underlying t = some .string) (hv : Value.okWide P W r base t v) (h : DataW.Trod enc P W 0 (fun _ => true) true t v d p) :
    ∃ x : ByteArray, (∀ S Hp m l, RepA W S Hp m l (.d (.str x)) v) ∧ (Rows.uptoBulk d ≤ 1048576 → x.size < 1048577) := by
  obtain ⟨x, rfl⟩ := okWide_string ht hv
  obtain ⟨n, hn⟩ := h
  obtain ⟨s, h1, h2, _⟩ := DataW.trod_string ht hn
  have h1 : x = s := by simpa [Value.cells] using h1
  subst h1
  have h2 : d = .lit (.string x.data.toList) := congrArg Prod.fst h2
  subst h2
  refine ⟨x, fun _ _ _ _ => .d _ _ (.str _), fun h => ?_⟩
  rw [bulk_str] at h
  have : x.size = x.data.toList.length := rfl
  omega
theorem arg_bool {r : Reach} {base : Nat} {v : Value} (ht : P.underlying t = some .bool) (hv : Value.okWide P W r base t v) : ∃ x : Bool, ∀ S Hp m l, RepA W S Hp m l (.d (.bool x)) v := by
  obtain ⟨x, rfl⟩ := okWide_bool ht hv
  exact ⟨x, fun _ _ _ _ => .d _ _ (.bool _)⟩
theorem arg_slice {α : Type} {e : α → List D} {u : TypeId} {r : Reach} {base : Nat} {v : Value} {d : DataW H} {p : List MemPlace} (rd : ∀ n, RdN enc P W n t (fun l : List α => [.list (l.map e)])) (ht : P.underlying t = some (.slice u)) (hv : Value.okWide P W r base t v)
    (h : DataW.Trod enc P W 0 (fun _ => true) true t v d p) : ∃ x : List α, (∀ Hp m l, RepA W (· < W.heap.size) Hp m l (.d (.list (x.map e))) v) ∧ (Rows.uptoBulk d ≤ 1048576 → Fit (.list (x.map e))) := by
  obtain ⟨a, len, cap, rfl⟩ := okWide_slice ht hv
  obtain ⟨n, hn⟩ := h
  obtain ⟨x, h1, h2⟩ := rd n _ _ hn
  obtain ⟨c, h3, h4⟩ := h1.2 0 _ rfl
  have : c = .slice a len cap := by simpa [Value.cells] using h3.symm
  subst this
  exact ⟨x, fun _ _ _ => .d _ _ h4, fun h => h2 h _ (List.mem_singleton.2 rfl)⟩

/-! ### The call, from the world's start -/
def Hp0 : Hp := fun _ => ⟨0, false, 0, 0, []⟩
theorem ok0 (m : Mu) : Ok 0 Hp0 m (· < W.heap.size) W := ⟨fun _ h => h, fun _ _ h => (by cases h), fun _ _ h => (by cases h), fun _ _ _ _ h => (by cases h), fun _ _ h => (by cases h)⟩
theorem args_nil {w : World} {S : Nat → Prop} {Hp : Hp} {m : Mu} {l : Nat} : ArgsRep w S Hp m l [] #[] := ⟨rfl, fun i x v h => by simp at h⟩
def RepL (w : World) (S : Nat → Prop) (Hp : Hp) (m : Mu) (l : Nat) : List AV → List Value → Prop
  | [], [] => True
  | x :: xs, v :: vs => RepA w S Hp m l x v ∧ RepL w S Hp m l xs vs
  | _, _ => False
theorem args_of {w : World} {S : Nat → Prop} {Hp : Hp} {m : Mu} {l : Nat} {xs : List AV} {vs : List Value} (h : RepL w S Hp m l xs vs) : ArgsRep w S Hp m l xs vs.toArray := by
  suffices hh : xs.length = vs.length ∧ ∀ (i : Nat) (x : AV) (v : Value), xs[i]? = some x → vs[i]? = some v → RepA w S Hp m l x v by
    exact ⟨by simpa using hh.1, fun i x v hx hv => hh.2 i x v hx (by simpa using hv)⟩
  induction xs generalizing vs with
  | nil => cases vs with
    | nil => exact ⟨rfl, fun i x v h => by simp at h⟩
    | cons _ _ => exact h.elim
  | cons x xs ih => cases vs with
    | nil => exact h.elim
    | cons v vs =>
      obtain ⟨h1, h2⟩ := ih h.2
      refine ⟨by simp [h1], fun i y u hy hu => ?_⟩
      cases i with
      | zero => simp at hy hu; subst hy; subst hu; exact h.1
      | succ i => exact h2 i y u (by simpa using hy) (by simpa using hu)

/-- what the form asks behind a call that says true and leaves all as it is -/
theorem post_true {f : Func} {s : ChangeSpec} {W' : World} {args : Array Value} {ds gs : List (DataW H)} {before : List MemPlace} {u : TypeId} (hW : DataW.Whole enc P f.params.toList s.vars false W args.toList ds gs before) (hvars : s.vars = [])
    (hlaid : laidOutB P = true) (hrd : ∀ t ∈ f.params.toList, P.readableRec t = true ∧ t < P.types.size) (hres : f.resultTypes.toList = [u]) (hu : P.underlying u = some .bool)
    (hfn : s.fn H (ds ++ gs) = { results := [.lit (.bool true)], args := ds }) (hb : Below W.heap.size W W') : s.post enc P f false true false false W args (.bool true) W' := by
  obtain ⟨p, q, hA, hV, rfl, hfz, hnd⟩ := id hW
  rw [hvars] at hV
  obtain ⟨rfl, rfl⟩ := trodVars_none hV
  refine ⟨ds, [], p ++ [], [], p, [], hW, ?_, ?_, ?_, ?_, fun h => by cases h⟩
  · rw [hfn, hres]
    have : (Value.bool true).resultList f.resultTypes.size = [.bool true] := by
      have : f.resultTypes.size = 1 := by rw [← Array.length_toList, hres]; rfl
      rw [this]; rfl
    rw [this]
    exact trodAll_cons_mk (shut_bool hu _) trodAll_mk0
  · rw [hfn]
    have key : ∀ (ts : List TypeId) (vs : List Value) (es : List (DataW H)) (ps : List MemPlace), (∀ t ∈ ts, P.readableRec t = true ∧ t < P.types.size) → DataW.TrodAll enc P W 0 (fun _ => true) true ts vs es ps →
        DataW.TrodAll enc P W' 0 (fun b => decide (b < W.heap.size)) true ts vs es ps := by
      intro ts
      induction ts with
      | nil => intro vs es ps _ h; obtain ⟨rfl, rfl, rfl⟩ := trodAll_nil h; exact trodAll_mk0
      | cons t ts ih =>
        intro vs es ps hr h
        have hlt := DataW.TrodAll.lt h
        obtain ⟨v, vs1, d, ds1, a, b, rfl, rfl, rfl, h1, h2⟩ := trodAll_cons h
        exact trodAll_cons_mk (Below.trod hlaid (hr t (by simp)).1 (hr t (by simp)).2 h1 hb (fun x hx => hlt x (List.mem_append_left _ hx))) (ih _ _ _ (fun t ht => hr t (by simp [ht])) h2)
    exact key _ _ _ _ hrd hA
  · rw [hvars, hfn]; exact rfl
  · refine ⟨hb.os, hb.output, fun i hi => ?_⟩
    rw [hb.block i hi]
    cases W.heap[i]? with
    | none => rfl
    | some o => cases o <;> simp
end
end Go.Proofs.Ythagpbkmakocjaa
