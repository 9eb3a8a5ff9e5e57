import Derived.Test.YthagpbkmakocjaaCn09
import Derived.Test.YthagpbkmakocjaaRows
import Derived.WalkKit
import Derived.ProofKit
import Derived.OpenShut
import Derived.Carry
import Derived.Deep.DeepHandedRow
import Derived.Test.YthagpbkmakocjaaCn22
import Derived.Sort.Walk0
namespace Go.Proofs.Ythagpbkmakocjaa
set_option linter.all false
open Go Go.Eng Go.ChangeShapes Go.WideShapes Go.ChangeAt Go.RowKit
theorem ZsV {H : Type} (b : List UInt8) : Rows.uptoBulk (DataW.lit (H := H) (.string b)) = b.length + 1 := by simp only [Rows.uptoBulk]
theorem Znq {H : Type} (a b : List (DataW H)) : Rows.uptoBulk (.slice a b) = Rows.uptoBulkAll a + Rows.uptoBulkAll b + 1 := by simp only [Rows.uptoBulk]
theorem Zua {H : Type} (a : List (DataW H)) : Rows.uptoBulk (.agg a) = Rows.uptoBulkAll a + 1 := by simp only [Rows.uptoBulk]
def Zn5 (W : World) (ds : List D) (cs : List Value) (o : Nat) : Prop := ∀ (i : Nat) (d : D), ds[i]? = some d → ∃ c, cs[o + i]? = some c ∧ RepD W (· < W.heap.size) d c
def ZkA (W : World) (ds : List D) (cs : List Value) : Prop := ds.length = cs.length ∧ Zn5 W ds cs 0
theorem Zn5.app {W : World} {ds es : List D} {cs : List Value} {o : Nat} (h : Zn5 W ds cs o) (k : Zn5 W es cs (o + ds.length)) : Zn5 W (ds ++ es) cs o := fun i d hi => by
 rcases Nat.lt_or_ge i ds.length with hl | hl
 ·rw [List.getElem?_append_left hl] at hi; exact h i d hi
 ·rw [List.getElem?_append_right hl] at hi
  obtain ⟨c, h1, h2⟩ := k _ d hi
  exact ⟨c, by rw [← h1]; congr 1; omega, h2⟩
theorem ZkA.at {W : World} {ds : List D} {cs : List Value} {o k : Nat} (h : ZkA W ds ((cs.drop o).take k)) : Zn5 W ds cs o := fun i d hi => by
 obtain ⟨c, h1, h2⟩ := h.2 i d hi
 rw [Nat.zero_add, List.getElem?_take] at h1
 split at h1
 ·rw [List.getElem?_drop] at h1; exact ⟨c, h1, h2⟩
 ·cases h1
mutual
def bk : D → Nat
 | .int _ _ => 0
 | .bool _ => 0
 | .str s => s.size
 | .list es => Zez es
def bkL : List D → Nat
 | [] => 0
 | d :: l => bk d + bkL l
def Zez : List (List D) → Nat
 | [] => 0
 | e :: l => bkL e + 1 + Zez l
end
theorem ZoK : ∀ a b : List D, bkL (a ++ b) = bkL a + bkL b
 | [], b => by rw [List.nil_append, bkL, Nat.zero_add]
 | d :: a, b => by rw [List.cons_append, bkL, bkL, ZoK a b, Nat.add_assoc]
theorem ZkJ (d : D) : bkL [d] = bk d := by rw [bkL, bkL, Nat.add_zero]
theorem ZbC {α : Type} {e : α → List D} : ∀ l : List α, l.length ≤ Zez (l.map e)
 | [] => Nat.zero_le _
 | x :: l => by have := ZbC (e := e) l; rw [List.map_cons, Zez, List.length_cons]; omega
theorem Zcd {α : Type} {e : α → List D} {x : α} : ∀ {l : List α}, x ∈ l → bkL (e x) + 1 ≤ Zez (l.map e)
 | y :: l, h => by
  rw [List.map_cons, Zez]
  cases List.mem_cons.1 h with
  | inl h => subst h; omega
  | inr h => have := Zcd (e := e) h; omega
section
variable {H : Type} (enc : TypeId × Value → H) (P : Program) (W : World)
def RdN {α : Type} (n : Nat) (t : TypeId) (e : α → List D) : Prop :=
 ∀ cs x, DataW.trod enc P W 0 (fun _ => true) true n t cs = some x → ∃ v : α, ZkA W (e v) cs ∧ bkL (e v) + 1 ≤ Rows.uptoBulk x.1
end
section
variable {H : Type} {enc : TypeId × Value → H} {P : Program} {W : World} {n : Nat} {t : TypeId}
theorem Zh0 (d : DataW H) : 1 ≤ Rows.uptoBulk d := by cases d <;> (try (rename_i l; cases l)) <;> simp [Rows.uptoBulk]
theorem ZdP {d : D} {c : Value} (h : RepD W (· < W.heap.size) d c) : ZkA W [d] [c] := ⟨rfl, fun i d' hi => by
 cases i with
 | zero => cases hi; exact ⟨c, rfl, h⟩
 | succ i => simp at hi⟩
theorem ZcU {k : IntKind} (ht : P.underlying t = some (.int k)) : RdN enc P W n t (fun v : Int => [.int k v]) := fun cs x hx => by
 obtain ⟨m, rfl, rfl, _⟩ := DataW.trod_int ht hx
 exact ⟨m, ZdP (.int _ _), Zh0 _⟩
theorem Zqf (ht : P.underlying t = some .bool) : RdN enc P W n t (fun v : Bool => [.bool v]) := fun cs x hx => by
 obtain ⟨m, rfl, rfl⟩ := DataW.trod_bool ht hx
 exact ⟨m, ZdP (.bool _), Zh0 _⟩
theorem Zcv (ht : P.underlying t = some .string) : RdN enc P W n t (fun v : ByteArray => [.str v]) := fun cs x hx => by
 obtain ⟨m, rfl, rfl, _⟩ := DataW.trod_string ht hx
 refine ⟨m, ZdP (.str _), ?_⟩
 rw [ZsV, ZkJ]
 exact Nat.le_refl _
theorem ZvV {α : Type} {e : α → List D} : ∀ (l : List α) (xs : List (DataW H × List MemPlace)), l.length = xs.length → (∀ (i : Nat) (v : α), l[i]? = some v → ∃ y : DataW H × List MemPlace, xs[i]? = some y ∧ bkL (e v) + 1 ≤ Rows.uptoBulk y.1) → Zez (l.map e) ≤ Rows.uptoBulkAll (xs.map (·.1))
 | [], _, _, _ => Nat.zero_le _
 | x :: l, [], h, _ => by cases h
 | x :: l, y :: xs, h, k => by
  have := ZvV l xs (Nat.succ.inj h) (fun i v hi => k (i + 1) v hi)
  obtain ⟨y', h1, h2⟩ := k 0 x rfl
  cases h1
  rw [List.map_cons, List.map_cons, Zez]
  simp only [Rows.uptoBulkAll]
  omega
theorem Zpc {α : Type} {Q : Nat → α → Prop} : ∀ (len : Nat), (∀ i, i < len → ∃ v, Q i v) → ∃ l : List α, l.length = len ∧ ∀ i v, l[i]? = some v → Q i v
 | 0, _ => ⟨[], rfl, fun i v h => by simp at h⟩
 | len + 1, h => by
  obtain ⟨l, h1, h2⟩ := Zpc len (fun i hi => h i (by omega))
  obtain ⟨v, hv⟩ := h len (by omega)
  refine ⟨l ++ [v], by simp [h1], fun i w hi => ?_⟩
  rcases Nat.lt_or_ge i l.length with hl | hl
  ·rw [List.getElem?_append_left hl] at hi; exact h2 i w hi
  ·rw [List.getElem?_append_right hl] at hi
   have : i - l.length = 0 := by
    rcases Nat.eq_zero_or_pos (i - l.length) with h0 | h0
    ·exact h0
    ·rw [List.getElem?_eq_none (by simp; omega)] at hi; cases hi
   rw [this] at hi
   cases hi
   have : i = len := by omega
   subst this
   exact hv
theorem ZaX {α : Type} {e : TypeId} {enc' : α → List D} {sz : Nat} (ht : P.underlying t = some (.slice e)) (hsz : P.cellsOf e = sz) (hs0 : sz ≠ 0) (hl : ∀ x, (enc' x).length = sz) (h : ∀ m, m < n → RdN enc P W m e enc') :
  RdN enc P W n t (fun l : List α => [.list (l.map enc')]) := fun cs x hx => by
 rcases DataW.trod_slice ht hx with ⟨rfl, rfl⟩ | ⟨a, len, cap, elems, rest, m, rfl, rfl, rfl, hb, hlc, hcm, hel, hi, _, _⟩
 ·exact ⟨[], ZdP .nil, Zh0 _⟩
 ·have each : ∀ i, i < len → ∃ v : α, ∃ y cs', elems[i]? = some y ∧ W.cells? 0 (a.add (i * sz)) sz = some cs' ∧ ZkA W (enc' v) cs' ∧ bkL (enc' v) + 1 ≤ Rows.uptoBulk y.1 := fun i hlt => by
   have h1 := hi i hlt
   rw [List.getElem?_eq_getElem (by omega), hsz] at h1
   obtain ⟨cs', h2, h3⟩ := Option.bind_eq_some_iff.1 h1
   obtain ⟨v, h4, h5⟩ := h m (by omega) cs' _ h3
   exact ⟨v, _, cs', List.getElem?_eq_getElem (by omega), h2, h4, h5⟩
  obtain ⟨l, hll, hlq⟩ := Zpc len each
  have cell : ∀ (i j : Nat) (e' : List D) (x : D), (l.map enc')[i]? = some e' → e'[j]? = some x → ∃ c, W.cell? (a.add (i * sz + j)) = some c ∧ RepD W (· < W.heap.size) x c := fun i j e' x hi' hj => by
   rw [List.getElem?_map] at hi'
   cases hv : l[i]? with
   | none => rw [hv] at hi'; cases hi'
   | some v =>
    rw [hv] at hi'
    cases hi'
    obtain ⟨y, cs', g1, g2, g3, g4⟩ := hlq i v hv
    obtain ⟨c, g5, g6⟩ := g3.2 j x hj
    rw [Nat.zero_add] at g5
    obtain ⟨_, g7, g8⟩ := World.cells?_some g2
    have hjl : j < sz := by
     rw [← hl v]
     rcases Nat.lt_or_ge j (enc' v).length with h | h
     ·exact h
     ·rw [List.getElem?_eq_none h] at hj; cases hj
    refine ⟨c, ?_, g6⟩
    rw [← Go.Eng.add_add, g8 j hjl, g5]
  refine ⟨l, ZdP ?_, ?_⟩
  ·have hlen : (l.map enc').length = len := by simp [hll]
   have := RepD.list (w := W) (S := (· < W.heap.size)) (l.map enc') a sz cap (fun i j => (W.cell? (a.add (i * sz + j))).getD undef) (fun hne => by
     have h0 : 0 < len := by
      rcases Nat.eq_zero_or_pos len with h | h
      ·exact absurd (List.eq_nil_of_length_eq_zero (hlen.trans h)) hne
      ·exact h
     obtain ⟨v, y, cs', _, g2, _⟩ := each 0 h0
     have := World.cells?_block g2 (by omega)
     rw [Nat.zero_mul] at this
     rw [← Go.Eng.block_add a 0]; exact this)
    (by rw [hlen]; exact hlc) (fun e' he => by obtain ⟨y, _, rfl⟩ := List.mem_map.1 he; exact hl y)
    (fun i j e' x hi' hj => by obtain ⟨c, g1, _⟩ := cell i j e' x hi' hj; rw [g1]; rfl)
    (fun i j e' x hi' hj => by obtain ⟨c, g1, g2⟩ := cell i j e' x hi' hj; rw [g1]; exact g2)
   rw [hlen] at this
   exact this
  ·rw [Znq, ZkJ, bk]
   have := ZvV (e := enc') l elems (by omega) (fun i v hv => by
    obtain ⟨y, cs', g1, g2, g3, g4⟩ := hlq i v hv
    exact ⟨y, g1, g4⟩)
   omega
def FB (xs : List (DataW H × List MemPlace)) (i : Nat) : Nat := Rows.uptoBulkAll ((xs.drop i).map (·.1))
theorem ZaI {xs : List (DataW H × List MemPlace)} {i : Nat} {a b : List D} (h : bkL a + 1 + FB xs (i + 1) ≤ FB xs i) (k : bkL b ≤ FB xs (i + 1)) : bkL (a ++ b) ≤ FB xs i := by
 rw [ZoK]; omega
theorem ZcW {xs : List (DataW H × List MemPlace)} {i : Nat} {a : List D} (h : bkL a + 1 + FB xs (i + 1) ≤ FB xs i) : bkL a ≤ FB xs i := by omega
theorem ZcT {xs : List (DataW H × List MemPlace)} {a : List D} (h : bkL a ≤ FB xs 0) : bkL a + 1 ≤ Rows.uptoBulk (.agg (xs.map (·.1))) := by
 rw [Zua]; exact Nat.succ_le_succ h
theorem Zug {α : Type} {e : α → List D} {m i : Nat} {t' : TypeId} {piece : List Value} {xs : List (DataW H × List MemPlace)} (h : RdN enc P W m t' e) (hf : DataW.trod enc P W 0 (fun _ => true) true m t' piece = xs[i]?) (hi : i < xs.length) :
  ∃ v, ZkA W (e v) piece ∧ bkL (e v) + 1 + FB xs (i + 1) ≤ FB xs i := by
 rw [List.getElem?_eq_getElem hi] at hf
 obtain ⟨v, h1, h2⟩ := h _ _ hf
 refine ⟨v, h1, ?_⟩
 unfold FB
 rw [List.drop_eq_getElem_cons hi, List.map_cons]
 simp only [Rows.uptoBulkAll]
 omega
theorem rf {α : Type} {e : α → List D} {m i k : Nat} {t' : TypeId} {piece : List Value} {xs : List (DataW H × List MemPlace)} (h : RdN enc P W m t' e) (hf : DataW.trod enc P W 0 (fun _ => true) true m t' piece = xs[i]?) (hx : xs.length = k) (hi : Nat.blt i k = true := by kernel_rfl) :
  ∃ v, ZkA W (e v) piece ∧ bkL (e v) + 1 + FB xs (i + 1) ≤ FB xs i := Zug h hf (by rw [hx]; exact Nat.le_of_ble_eq_true hi)
theorem Zpp {α : Type} {e e' : α → List D} (he : ∀ x, e x = e' x) (h : RdN enc P W n t e') : RdN enc P W n t e := fun cs x hx => by
 obtain ⟨v, h1, h2⟩ := h cs x hx
 exact ⟨v, by rw [he]; exact h1, by rw [he]; exact h2⟩
theorem ZoZ {α : Type} {e : α → List D} {u : TypeId} {r : Reach} {base : Nat} {v : Value} {d : DataW H} {p : List MemPlace} (rd : ∀ n, RdN enc P W n t (fun l : List α => [.list (l.map e)])) (ht : P.underlying t = some (.slice u)) (hv : Value.okWide P W r base t v)
  (h : DataW.Trod enc P W 0 (fun _ => true) true t v d p) : ∃ x : List α, (∀ Hp m l, RepA W (· < W.heap.size) Hp m l (.d (.list (x.map e))) v) ∧ bk (.list (x.map e)) + 1 ≤ Rows.uptoBulk d := by
 obtain ⟨a, len, cap, rfl⟩ := okWide_slice ht hv
 obtain ⟨n, hn⟩ := h
 obtain ⟨x, h1, h2⟩ := rd n _ _ hn
 obtain ⟨c, h3, h4⟩ := h1.2 0 _ rfl
 have : c = .slice a len cap := by simpa [Value.cells] using h3.symm
 subst this
 exact ⟨x, fun _ _ _ => .d _ _ h4, by rw [← ZkJ]; exact h2⟩
def Hp0 : Hp := fun _ => ⟨0, false, 0, 0, []⟩
theorem ok0 (m : Mu) : Ok 0 Hp0 m (· < W.heap.size) W := ⟨fun _ h => h, fun _ _ h => (by cases h), fun _ _ h => (by cases h), fun _ _ _ _ h => (by cases h), fun _ _ h => (by cases h)⟩
def ZG7 (w : World) (S : Nat → Prop) (Hp : Hp) (m : Mu) (l : Nat) : List AV → List Value → Prop
 | [], [] => True
 | x :: xs, v :: vs => RepA w S Hp m l x v ∧ ZG7 w S Hp m l xs vs
 | _, _ => False
theorem Zwv {w : World} {S : Nat → Prop} {Hp : Hp} {m : Mu} {l : Nat} {xs : List AV} {vs : List Value} (h : ZG7 w S Hp m l xs vs) : Zek w S Hp m l xs vs.toArray := by
 suffices hh : xs.length = vs.length ∧ ∀ (i : Nat) (x : AV) (v : Value), xs[i]? = some x → vs[i]? = some v → RepA w S Hp m l x v by
  exact ⟨by simpa using hh.1, fun i x v hx hv => hh.2 i x v hx (by simpa using hv)⟩
 induction xs generalizing vs with
 | nil => cases vs with
  | nil => exact ⟨rfl, fun i x v h => by simp at h⟩
  | cons _ _ => exact h.elim
 | cons x xs ih => cases vs with
  | nil => exact h.elim
  | cons v vs =>
   obtain ⟨h1, h2⟩ := ih h.2
   refine ⟨by simp [h1], fun i y u hy hu => ?_⟩
   cases i with
   | zero => simp at hy hu; subst hy; subst hu; exact h.1
   | succ i => exact h2 i y u (by simpa using hy) (by simpa using hu)
theorem Zpb {f : Func} {s : ChangeSpec} {W' : World} {args : Array Value} {ds gs : List (DataW H)} {before : List MemPlace} {u : TypeId} (hW : DataW.Whole enc P f.params.toList s.vars false W args.toList ds gs before) (hvars : s.vars = [])
  (hlaid : laidOutB P = true) (hrd : ∀ t ∈ f.params.toList, P.readableRec t = true ∧ t < P.types.size) (hres : f.resultTypes.toList = [u]) (hu : P.underlying u = some .bool)
  (hfn : s.fn H (ds ++ gs) = { results := [.lit (.bool true)], args := ds }) (hb : Below W.heap.size W W') : s.post enc P f false true false false W args (.bool true) W' := by
 obtain ⟨p, q, hA, hV, rfl, hfz, hnd⟩ := id hW
 rw [hvars] at hV
 obtain ⟨rfl, rfl⟩ := trodVars_none hV
 refine ⟨ds, [], p ++ [], [], p, [], hW, ?_, ?_, ?_, ?_, fun h => by cases h⟩
 ·rw [hfn, hres]
  have : (Value.bool true).resultList f.resultTypes.size = [.bool true] := by
   have : f.resultTypes.size = 1 := by rw [← Array.length_toList, hres]; rfl
   rw [this]; rfl
  rw [this]
  exact trodAll_cons_mk (shut_bool hu _) trodAll_mk0
 ·rw [hfn]
  have key : ∀ (ts : List TypeId) (vs : List Value) (es : List (DataW H)) (ps : List MemPlace), (∀ t ∈ ts, P.readableRec t = true ∧ t < P.types.size) → DataW.TrodAll enc P W 0 (fun _ => true) true ts vs es ps →
    DataW.TrodAll enc P W' 0 (fun b => decide (b < W.heap.size)) true ts vs es ps := by
   intro ts
   induction ts with
   | nil => intro vs es ps _ h; obtain ⟨rfl, rfl, rfl⟩ := trodAll_nil h; exact trodAll_mk0
   | cons t ts ih =>
    intro vs es ps hr h
    have hlt := DataW.TrodAll.lt h
    obtain ⟨v, vs1, d, ds1, a, b, rfl, rfl, rfl, h1, h2⟩ := trodAll_cons h
    exact trodAll_cons_mk (Below.trod hlaid (hr t (by simp)).1 (hr t (by simp)).2 h1 hb (fun x hx => hlt x (List.mem_append_left _ hx))) (ih _ _ _ (fun t ht => hr t (by simp [ht])) h2)
  exact key _ _ _ _ hrd hA
 ·rw [hvars, hfn]; exact rfl
 ·refine ⟨hb.os, hb.output, fun i hi => ?_⟩
  rw [hb.block i hi]
  cases W.heap[i]? with
  | none => rfl
  | some o => cases o <;> simp
end
end Go.Proofs.Ythagpbkmakocjaa
namespace Go.Proofs.Ythagpbkmakocjaa
set_option linter.all false
open Go Go.Eng
section
variable {H : Type} {enc : TypeId × Value → H} {W : World}
set_option maxRecDepth 100000
theorem ZDJ (n : Nat) : RdN enc Try.prog W n 218 ZvM := fun cs x hx => by
 obtain ⟨xs, m, rfl, rfl, hcl, hxl, hf⟩ := DataW.trod_struct Try.underlying218 hx
 obtain ⟨v0, r0, b0⟩ := rf (ZcU Try.underlying3) (hf 0 _ rfl) hxl
 obtain ⟨v1, r1, b1⟩ := rf (ZcU Try.underlying3) (hf 1 _ rfl) hxl
 obtain ⟨v2, r2, b2⟩ := rf (ZcU Try.underlying45) (hf 2 _ rfl) hxl
 obtain ⟨v3, r3, b3⟩ := rf (Zcv Try.underlying9) (hf 3 _ rfl) hxl
 have q := ZcT (ZaI b0 (ZaI b1 (ZaI b2 (ZcW b3))))
 exact ⟨.mk v0 v1 v2 v3, ⟨by rw [hcl]; kernel_rfl, (r0.at.app (r1.at.app (r2.at.app r3.at)))⟩, q⟩
theorem ZuN (n : Nat) (h : ∀ k, k < n → RdN enc Try.prog W k 51 Zyd) : RdN enc Try.prog W n 214 ePr := fun cs x hx => by
 obtain ⟨xs, m, rfl, rfl, hcl, hxl, hf⟩ := DataW.trod_struct Try.underlying214 hx
 obtain ⟨v0, r0, b0⟩ := rf (h m (by omega)) (hf 0 _ rfl) hxl
 obtain ⟨v1, r1, b1⟩ := rf (h m (by omega)) (hf 1 _ rfl) hxl
 have q := ZcT (ZaI b0 (ZcW b1))
 exact ⟨.mk v0 v1, ⟨by rw [hcl]; kernel_rfl, (r0.at.app r1.at)⟩, q⟩
theorem ZpM (n : Nat) (h : ∀ k, k < n → RdN enc Try.prog W k 51 Zyd) : RdN enc Try.prog W n 216 ZFG := fun cs x hx => by
 obtain ⟨xs, m, rfl, rfl, hcl, hxl, hf⟩ := DataW.trod_struct Try.underlying216 hx
 obtain ⟨v0, r0, b0⟩ := rf (ZcU Try.underlying3) (hf 0 _ rfl) hxl
 obtain ⟨v1, r1, b1⟩ := rf (h m (by omega)) (hf 1 _ rfl) hxl
 have q := ZcT (ZaI b0 (ZcW b1))
 exact ⟨.mk v0 v1, ⟨by rw [hcl]; kernel_rfl, (r0.at.app r1.at)⟩, q⟩
theorem Zvo (n : Nat) : RdN enc Try.prog W n 51 Zyd := by
 induction n using Nat.strongRecOn with
 | ind n ih =>
 intro cs x hx
 obtain ⟨xs, m, rfl, rfl, hcl, hxl, hf⟩ := DataW.trod_struct Try.underlying51 hx
 obtain ⟨v0, r0, b0⟩ := rf (ZcU Try.underlying3) (hf 0 _ rfl) hxl
 obtain ⟨v1, r1, b1⟩ := rf (ZcU Try.underlying45) (hf 1 _ rfl) hxl
 obtain ⟨v2, r2, b2⟩ := rf (Zcv Try.underlying9) (hf 2 _ rfl) hxl
 obtain ⟨v3, r3, b3⟩ := rf (ZaX Try.underlying46 (by kernel_rfl : Try.prog.cellsOf 51 = 7) (by decide) (fun x => by rw [Zis]; rfl) (fun k hk => (Zpp Zis (ih k (by omega))))) (hf 3 _ rfl) hxl
 obtain ⟨v4, r4, b4⟩ := rf (ZaX Try.underlying47 (by kernel_rfl : Try.prog.cellsOf 214 = 14) (by decide) (fun x => by rw [Zvw]; rfl) (fun k hk => (Zpp Zvw (ZuN k (fun j hj => ih j (by omega)))))) (hf 4 _ rfl) hxl
 obtain ⟨v5, r5, b5⟩ := rf (ZaX Try.underlying48 (by kernel_rfl : Try.prog.cellsOf 216 = 8) (by decide) (fun x => by rw [ZpF]; rfl) (fun k hk => (Zpp ZpF (ZpM k (fun j hj => ih j (by omega)))))) (hf 5 _ rfl) hxl
 obtain ⟨v6, r6, b6⟩ := rf (ZaX Try.underlying49 (by kernel_rfl : Try.prog.cellsOf 218 = 4) (by decide) (fun _ => rfl) (fun k hk => (ZDJ k))) (hf 6 _ rfl) hxl
 have q := ZcT (ZaI b0 (ZaI b1 (ZaI b2 (ZaI b3 (ZaI b4 (ZaI b5 (ZcW b6)))))))
 exact ⟨.mk v0 v1 v2 v3 v4 v5 v6, ⟨by rw [hcl]; kernel_rfl, (r0.at.app (r1.at.app (r2.at.app (r3.at.app (r4.at.app (r5.at.app r6.at))))))⟩, q⟩
theorem ZBu (n : Nat) : RdN enc Try.prog W n 44 ZHT := fun cs x hx => by
 obtain ⟨xs, m, rfl, rfl, hcl, hxl, hf⟩ := DataW.trod_struct Try.underlying44 hx
 obtain ⟨v0, r0, b0⟩ := rf (ZcU Try.underlying3) (hf 0 _ rfl) hxl
 obtain ⟨v1, r1, b1⟩ := rf (Zcv Try.underlying9) (hf 1 _ rfl) hxl
 have q := ZcT (ZaI b0 (ZcW b1))
 exact ⟨.mk v0 v1, ⟨by rw [hcl]; kernel_rfl, (r0.at.app r1.at)⟩, q⟩
theorem Zn3 (n : Nat) : RdN enc Try.prog W n 159 eNt := fun cs x hx => by
 obtain ⟨xs, m, rfl, rfl, hcl, hxl, hf⟩ := DataW.trod_struct Try.underlying159 hx
 obtain ⟨v0, r0, b0⟩ := rf (Zcv Try.underlying9) (hf 0 _ rfl) hxl
 obtain ⟨v1, r1, b1⟩ := rf (Zvo m) (hf 1 _ rfl) hxl
 have q := ZcT (ZaI b0 (ZcW b1))
 exact ⟨.mk v0 v1, ⟨by rw [hcl]; kernel_rfl, (r0.at.app r1.at)⟩, q⟩
theorem ZDO (n : Nat) : RdN enc Try.prog W n 53 ZeY := fun cs x hx => by
 obtain ⟨xs, m, rfl, rfl, hcl, hxl, hf⟩ := DataW.trod_struct Try.underlying53 hx
 obtain ⟨v0, r0, b0⟩ := rf (ZcU Try.underlying3) (hf 0 _ rfl) hxl
 obtain ⟨v1, r1, b1⟩ := rf (Zcv Try.underlying9) (hf 1 _ rfl) hxl
 obtain ⟨v2, r2, b2⟩ := rf (ZcU Try.underlying3) (hf 2 _ rfl) hxl
 obtain ⟨v3, r3, b3⟩ := rf (ZcU Try.underlying3) (hf 3 _ rfl) hxl
 obtain ⟨v4, r4, b4⟩ := rf (ZBu m) (hf 4 _ rfl) hxl
 obtain ⟨v5, r5, b5⟩ := rf (Zcv Try.underlying9) (hf 5 _ rfl) hxl
 obtain ⟨v6, r6, b6⟩ := rf (Zqf Try.underlying4) (hf 6 _ rfl) hxl
 obtain ⟨v7, r7, b7⟩ := rf (Zvo m) (hf 7 _ rfl) hxl
 obtain ⟨v8, r8, b8⟩ := rf (ZaX Try.underlying37 (by kernel_rfl : Try.prog.cellsOf 159 = 8) (by decide) (fun _ => rfl) (fun k hk => (Zn3 k))) (hf 8 _ rfl) hxl
 have q := ZcT (ZaI b0 (ZaI b1 (ZaI b2 (ZaI b3 (ZaI b4 (ZaI b5 (ZaI b6 (ZaI b7 (ZcW b8)))))))))
 exact ⟨.mk v0 v1 v2 v3 v4 v5 v6 v7 v8, ⟨by rw [hcl]; kernel_rfl, (r0.at.app (r1.at.app (r2.at.app (r3.at.app (r4.at.app (r5.at.app (r6.at.app (r7.at.app r8.at))))))))⟩, q⟩
theorem ZvO (n : Nat) : RdN enc Try.prog W n 157 ZpL := fun cs x hx => by
 obtain ⟨xs, m, rfl, rfl, hcl, hxl, hf⟩ := DataW.trod_struct Try.underlying157 hx
 obtain ⟨v0, r0, b0⟩ := rf (ZcU Try.underlying3) (hf 0 _ rfl) hxl
 obtain ⟨v1, r1, b1⟩ := rf (ZcU Try.underlying3) (hf 1 _ rfl) hxl
 have q := ZcT (ZaI b0 (ZcW b1))
 exact ⟨.mk v0 v1, ⟨by rw [hcl]; kernel_rfl, (r0.at.app r1.at)⟩, q⟩
theorem ZDG (n : Nat) : RdN enc Try.prog W n 39 Zap := fun cs x hx => by
 obtain ⟨xs, m, rfl, rfl, hcl, hxl, hf⟩ := DataW.trod_struct Try.underlying39 hx
 obtain ⟨v0, r0, b0⟩ := rf (Zcv Try.underlying9) (hf 0 _ rfl) hxl
 obtain ⟨v1, r1, b1⟩ := rf (ZaX Try.underlying35 (by kernel_rfl : Try.prog.cellsOf 53 = 16) (by decide) (fun _ => rfl) (fun k hk => (ZDO k))) (hf 1 _ rfl) hxl
 obtain ⟨v2, r2, b2⟩ := rf (ZaX Try.underlying36 (by kernel_rfl : Try.prog.cellsOf 157 = 2) (by decide) (fun _ => rfl) (fun k hk => (ZvO k))) (hf 2 _ rfl) hxl
 obtain ⟨v3, r3, b3⟩ := rf (ZaX Try.underlying34 (by kernel_rfl : Try.prog.cellsOf 9 = 1) (by decide) (fun _ => rfl) (fun k hk => (Zcv Try.underlying9))) (hf 3 _ rfl) hxl
 obtain ⟨v4, r4, b4⟩ := rf (ZaX Try.underlying37 (by kernel_rfl : Try.prog.cellsOf 159 = 8) (by decide) (fun _ => rfl) (fun k hk => (Zn3 k))) (hf 4 _ rfl) hxl
 have q := ZcT (ZaI b0 (ZaI b1 (ZaI b2 (ZaI b3 (ZcW b4)))))
 exact ⟨.mk v0 v1 v2 v3 v4, ⟨by rw [hcl]; kernel_rfl, (r0.at.app (r1.at.app (r2.at.app (r3.at.app r4.at))))⟩, q⟩
theorem ZDZ (n : Nat) : RdN enc Try.prog W n 127 Zol := fun cs x hx => by
 obtain ⟨xs, m, rfl, rfl, hcl, hxl, hf⟩ := DataW.trod_struct Try.underlying127 hx
 obtain ⟨v0, r0, b0⟩ := rf (Zcv Try.underlying9) (hf 0 _ rfl) hxl
 obtain ⟨v1, r1, b1⟩ := rf (ZcU Try.underlying3) (hf 1 _ rfl) hxl
 obtain ⟨v2, r2, b2⟩ := rf (ZaX Try.underlying37 (by kernel_rfl : Try.prog.cellsOf 159 = 8) (by decide) (fun _ => rfl) (fun k hk => (Zn3 k))) (hf 2 _ rfl) hxl
 have q := ZcT (ZaI b0 (ZaI b1 (ZcW b2)))
 exact ⟨.mk v0 v1 v2, ⟨by rw [hcl]; kernel_rfl, (r0.at.app (r1.at.app r2.at))⟩, q⟩
theorem ZBA (n : Nat) : RdN enc Try.prog W n 42 Zam := fun cs x hx => by
 obtain ⟨xs, m, rfl, rfl, hcl, hxl, hf⟩ := DataW.trod_struct Try.underlying42 hx
 obtain ⟨v0, r0, b0⟩ := rf (Zcv Try.underlying9) (hf 0 _ rfl) hxl
 obtain ⟨v1, r1, b1⟩ := rf (Zqf Try.underlying4) (hf 1 _ rfl) hxl
 obtain ⟨v2, r2, b2⟩ := rf (ZaX Try.underlying40 (by kernel_rfl : Try.prog.cellsOf 127 = 3) (by decide) (fun _ => rfl) (fun k hk => (ZDZ k))) (hf 2 _ rfl) hxl
 obtain ⟨v3, r3, b3⟩ := rf (ZaX Try.underlying36 (by kernel_rfl : Try.prog.cellsOf 157 = 2) (by decide) (fun _ => rfl) (fun k hk => (ZvO k))) (hf 3 _ rfl) hxl
 obtain ⟨v4, r4, b4⟩ := rf (ZaX Try.underlying37 (by kernel_rfl : Try.prog.cellsOf 159 = 8) (by decide) (fun _ => rfl) (fun k hk => (Zn3 k))) (hf 4 _ rfl) hxl
 have q := ZcT (ZaI b0 (ZaI b1 (ZaI b2 (ZaI b3 (ZcW b4)))))
 exact ⟨.mk v0 v1 v2 v3 v4, ⟨by rw [hcl]; kernel_rfl, (r0.at.app (r1.at.app (r2.at.app (r3.at.app r4.at))))⟩, q⟩
theorem ZBB (n : Nat) : RdN enc Try.prog W n 59 ZgX := fun cs x hx => by
 obtain ⟨xs, m, rfl, rfl, hcl, hxl, hf⟩ := DataW.trod_struct Try.underlying59 hx
 obtain ⟨v0, r0, b0⟩ := rf (Zcv Try.underlying9) (hf 0 _ rfl) hxl
 obtain ⟨v1, r1, b1⟩ := rf (Zcv Try.underlying9) (hf 1 _ rfl) hxl
 obtain ⟨v2, r2, b2⟩ := rf (Zcv Try.underlying9) (hf 2 _ rfl) hxl
 obtain ⟨v3, r3, b3⟩ := rf (ZcU Try.underlying3) (hf 3 _ rfl) hxl
 obtain ⟨v4, r4, b4⟩ := rf (ZaX Try.underlying37 (by kernel_rfl : Try.prog.cellsOf 159 = 8) (by decide) (fun _ => rfl) (fun k hk => (Zn3 k))) (hf 4 _ rfl) hxl
 have q := ZcT (ZaI b0 (ZaI b1 (ZaI b2 (ZaI b3 (ZcW b4)))))
 exact ⟨.mk v0 v1 v2 v3 v4, ⟨by rw [hcl]; kernel_rfl, (r0.at.app (r1.at.app (r2.at.app (r3.at.app r4.at))))⟩, q⟩
theorem ZBk (n : Nat) : RdN enc Try.prog W n 57 Zaq := fun cs x hx => by
 obtain ⟨xs, m, rfl, rfl, hcl, hxl, hf⟩ := DataW.trod_struct Try.underlying57 hx
 obtain ⟨v0, r0, b0⟩ := rf (Zcv Try.underlying9) (hf 0 _ rfl) hxl
 obtain ⟨v1, r1, b1⟩ := rf (ZaX Try.underlying55 (by kernel_rfl : Try.prog.cellsOf 59 = 5) (by decide) (fun _ => rfl) (fun k hk => (ZBB k))) (hf 1 _ rfl) hxl
 obtain ⟨v2, r2, b2⟩ := rf (ZaX Try.underlying37 (by kernel_rfl : Try.prog.cellsOf 159 = 8) (by decide) (fun _ => rfl) (fun k hk => (Zn3 k))) (hf 2 _ rfl) hxl
 have q := ZcT (ZaI b0 (ZaI b1 (ZcW b2)))
 exact ⟨.mk v0 v1 v2, ⟨by rw [hcl]; kernel_rfl, (r0.at.app (r1.at.app r2.at))⟩, q⟩
theorem ZCw (n : Nat) : RdN enc Try.prog W n 61 Zas := fun cs x hx => by
 obtain ⟨xs, m, rfl, rfl, hcl, hxl, hf⟩ := DataW.trod_struct Try.underlying61 hx
 obtain ⟨v0, r0, b0⟩ := rf (Zcv Try.underlying9) (hf 0 _ rfl) hxl
 obtain ⟨v1, r1, b1⟩ := rf (Zcv Try.underlying9) (hf 1 _ rfl) hxl
 obtain ⟨v2, r2, b2⟩ := rf (ZaX Try.underlying34 (by kernel_rfl : Try.prog.cellsOf 9 = 1) (by decide) (fun _ => rfl) (fun k hk => (Zcv Try.underlying9))) (hf 2 _ rfl) hxl
 obtain ⟨v3, r3, b3⟩ := rf (ZaX Try.underlying23 (by kernel_rfl : Try.prog.cellsOf 39 = 5) (by decide) (fun _ => rfl) (fun k hk => (ZDG k))) (hf 3 _ rfl) hxl
 obtain ⟨v4, r4, b4⟩ := rf (ZaX Try.underlying24 (by kernel_rfl : Try.prog.cellsOf 42 = 5) (by decide) (fun _ => rfl) (fun k hk => (ZBA k))) (hf 4 _ rfl) hxl
 obtain ⟨v5, r5, b5⟩ := rf (ZaX Try.underlying25 (by kernel_rfl : Try.prog.cellsOf 57 = 3) (by decide) (fun _ => rfl) (fun k hk => (ZBk k))) (hf 5 _ rfl) hxl
 have q := ZcT (ZaI b0 (ZaI b1 (ZaI b2 (ZaI b3 (ZaI b4 (ZcW b5))))))
 exact ⟨.mk v0 v1 v2 v3 v4 v5, ⟨by rw [hcl]; kernel_rfl, (r0.at.app (r1.at.app (r2.at.app (r3.at.app (r4.at.app r5.at)))))⟩, q⟩
end
end Go.Proofs.Ythagpbkmakocjaa
namespace Go.Proofs.Ythagpbkmakocjaa
set_option linter.all false
open Go Go.Eng
structure OkF (f : Fil) : Prop where
 m : ∀ m ∈ f.messages, OkM m
 e : ∀ e ∈ f.enums, OkE e
 v : ∀ v ∈ f.services, OkV v
theorem Zvl (d : Fld) : d.type.name.size + Zez (d.notes.map eNt) ≤ bkL (ZeY d) := by
 simp only [ZeY, bkL, bk]; omega
theorem Zmx (m : Msg) : m.name.size + Zez (m.fields.map ZeY) + Zez (m.reserved.map ZpL) + Zez (m.gone.map Zag) + Zez (m.notes.map eNt) ≤ bkL (Zap m) := by
 simp only [Zap, bkL, bk]; omega
theorem ZBU (d : Itm) : Zez (d.notes.map eNt) ≤ bkL (Zol d) := by
 simp only [Zol, bkL, bk]; omega
theorem Zqj (m : Enm) : m.name.size + Zez (m.items.map Zol) + Zez (m.reserved.map ZpL) + Zez (m.notes.map eNt) ≤ bkL (Zam m) := by
 simp only [Zam, bkL, bk]; omega
theorem ZvL (d : Mth) : d.inn.size + d.out.size + Zez (d.notes.map eNt) ≤ bkL (ZgX d) := by
 simp only [ZgX, bkL, bk]; omega
theorem Zmn (m : Svc) : m.name.size + Zez (m.methods.map ZgX) + Zez (m.notes.map eNt) ≤ bkL (Zaq m) := by
 simp only [Zaq, bkL, bk]; omega
theorem ZmM (f : Fil) : f.name.size + f.space.size + Zez (f.imports.map Zag) + Zez (f.messages.map Zap) + Zez (f.enums.map Zam) + Zez (f.services.map Zaq) ≤ bkL (Zas f) := by
 simp only [Zas, bkL, bk]; omega
theorem ZDj {m : Msg} (h : bkL (Zap m) ≤ 1048576) : OkM m := by
 have h1 := Zmx m
 have a := ZbC (e := ZeY) m.fields
 have b := ZbC (e := ZpL) m.reserved
 have c := ZbC (e := Zag) m.gone
 have d := ZbC (e := eNt) m.notes
 refine ⟨by omega, by omega, by omega, by omega, fun x hx => ?_⟩
 have e := Zcd (e := ZeY) hx
 have f := Zvl x
 have g := ZbC (e := eNt) x.notes
 omega
theorem ZDr {m : Enm} (h : bkL (Zam m) ≤ 1048576) : OkE m := by
 have h1 := Zqj m
 have a := ZbC (e := Zol) m.items
 have b := ZbC (e := ZpL) m.reserved
 have d := ZbC (e := eNt) m.notes
 refine ⟨by omega, by omega, by omega, fun x hx => ?_⟩
 have e := Zcd (e := Zol) hx
 have f := ZBU x
 have g := ZbC (e := eNt) x.notes
 omega
theorem ZB5 {m : Svc} (h : bkL (Zaq m) ≤ 1048576) : OkV m := by
 have h1 := Zmn m
 have a := ZbC (e := ZgX) m.methods
 have d := ZbC (e := eNt) m.notes
 refine ⟨by omega, by omega, fun x hx => ?_⟩
 have e := Zcd (e := ZgX) hx
 have f := ZvL x
 have g := ZbC (e := eNt) x.notes
 omega
theorem ZDL {f : Fil} (h : bkL (Zas f) ≤ 1048576) : OkF f := by
 have h1 := ZmM f
 exact ⟨fun m hm => ZDj (by have := Zcd (e := Zap) hm; omega), fun m hm => ZDr (by have := Zcd (e := Zam) hm; omega), fun m hm => ZB5 (by have := Zcd (e := Zaq) hm; omega)⟩
theorem ZD2 {f : Fil} (h : bkL (Zas f) ≤ 1048576) : SzF f := by
 have h1 := ZmM f
 have a := ZbC (e := Zag) f.imports
 have b := ZbC (e := Zap) f.messages
 have c := ZbC (e := Zam) f.enums
 have d := ZbC (e := Zaq) f.services
 refine ⟨by omega, by omega, by omega, by omega, by omega, by omega, fun x hx => ?_, fun x hx => ?_, fun x hx => ?_⟩
 ·have := Zcd (e := Zap) hx; have := Zmx x; omega
 ·have := Zcd (e := Zam) hx; have := Zqj x; omega
 ·have := Zcd (e := Zaq) hx; have := Zmn x; omega
theorem ZBy {f : Fil} (h : bkL (Zas f) ≤ 1048576) : SzG f := by
 have h1 := ZmM f
 refine ⟨fun x hx => ?_, fun x hx d hd => ?_, fun x hx => ?_, fun x hx d hd => ?_, fun x hx => ?_⟩
 ·have := Zcd (e := Zap) hx; have := Zmx x; have := ZbC (e := ZeY) x.fields; omega
 ·have := Zcd (e := Zap) hx; have := Zmx x; have := Zcd (e := ZeY) hd; have := Zvl d; omega
 ·have := Zcd (e := Zaq) hx; have := Zmn x; have := ZbC (e := ZgX) x.methods; omega
 ·have := Zcd (e := Zaq) hx; have := Zmn x; have := Zcd (e := ZgX) hd; have := ZvL d; omega
 ·have := Zcd (e := Zam) hx; have := Zqj x; have := ZbC (e := Zol) x.items; omega
theorem ZCL {α : Type} (a b : α → Nat) {x y : α} : ∀ {l : List α}, x ∈ l → y ∈ l → a x + b y ≤ (l.map fun z => a z + b z).sum
 | z :: l, hx, hy => by
  have one : ∀ (c : α → Nat) {w : α} {l : List α}, w ∈ l → c w ≤ (l.map c).sum := fun c w l hw => by
   induction l with
   | nil => cases hw
   | cons v l ih => rw [List.map_cons, List.sum_cons]; cases List.mem_cons.1 hw with
    | inl h => subst h; omega
    | inr h => have := ih h; omega
  have spl : ∀ l : List α, (l.map fun z => a z + b z).sum = (l.map a).sum + (l.map b).sum := fun l => by
   induction l with
   | nil => rfl
   | cons v l ih => simp only [List.map_cons, List.sum_cons, ih]; omega
  rw [spl]
  have := one a hx
  have := one b hy
  omega
theorem Zv9 : ∀ fs : List Fil, (fs.map fun f => f.imports.length + tot f).sum ≤ Zez (fs.map Zas)
 | [] => Nat.le_refl _
 | f :: l => by
  have := Zv9 l
  have h1 := ZmM f
  have a := ZbC (e := Zag) f.imports
  have b := ZbC (e := Zap) f.messages
  have c := ZbC (e := Zam) f.enums
  have d := ZbC (e := Zaq) f.services
  simp only [List.map_cons, List.sum_cons, Zez, tot] at *
  omega
theorem Zpz : ∀ fs : List Fil, (fs.map tot).sum ≤ (fs.map fun f => f.imports.length + tot f).sum
 | [] => Nat.le_refl _
 | f :: l => by have := Zpz l; simp only [List.map_cons, List.sum_cons]; omega
theorem szs {fs : List Fil} (h : Zez (fs.map Zas) ≤ 1048576) : SzA fs ∧ (∀ f ∈ fs, SzG f) ∧ ∀ f ∈ fs, OkF f := by
 have k : ∀ f ∈ fs, bkL (Zas f) ≤ 1048576 := fun f hf => by have := Zcd (e := Zas) hf; omega
 have a := ZbC (e := Zas) fs
 have b := Zv9 fs
 have c := Zpz fs
 exact ⟨⟨fun f hf => ZD2 (k f hf), by omega, by omega, fun f hf g hg => by have := ZCL (fun f : Fil => f.imports.length) tot hg hf; omega⟩, fun f hf => ZBy (k f hf), fun f hf => ZDL (k f hf)⟩
theorem ZkU (known msgs : List ByteArray) (en : List Enm) (scope : ByteArray) (d : Fld) : (Zbr known msgs en scope d).1.notes = d.notes := by
 unfold Zbr
 repeat' split
 all_goals rfl
theorem Zpi (known msgs : List ByteArray) (space : ByteArray) (d : Mth) : (ZeO known msgs space d).1.notes = d.notes := by
 unfold ZeO
 repeat' split
 all_goals rfl
theorem ZzM {fs : List Fil} {f : Fil} {m : Msg} (h : OkM m) : OkM (mS fs f m).1 := by
 unfold mS Zvb
 split
 ·exact h
 ·refine ⟨by simpa using h.f, h.r, h.g, h.n, fun d hd => ?_⟩
  obtain ⟨x, hx, rfl⟩ := List.mem_map.1 hd
  rw [ZkU]
  exact h.d x hx
theorem Zyz {fs : List Fil} {f : Fil} {m : Svc} (h : OkV m) : OkV (vS' fs f m).1 := by
 unfold vS' ZrP
 split
 ·exact h
 ·refine ⟨by simpa using h.m, h.n, fun d hd => ?_⟩
  obtain ⟨x, hx, rfl⟩ := List.mem_map.1 hd
  rw [Zpi]
  exact h.d x hx
theorem ZtL {fs : List Fil} {s : Scm} (hF : ∀ f ∈ fs, OkF f) (hb : ¬ Zon fs) (h1 : s.messages.Perm (fs.flatMap (Zel fs))) (h2 : s.enums.Perm (ZaN fs)) (h3 : s.services.Perm (fs.flatMap (Zd3 fs))) : OkS s := by
 unfold Zon at hb
 refine ⟨by rw [h1.length_eq, Zgo]; omega, by rw [h2.length_eq, ZeB]; omega, by rw [h3.length_eq, Zf3]; omega, fun m hm => ?_, fun m hm => ?_, fun m hm => ?_⟩
 ·obtain ⟨f, hf, hm⟩ := List.mem_flatMap.1 (h1.mem_iff.1 hm)
  obtain ⟨x, hx, rfl⟩ := List.mem_map.1 hm
  exact ZzM ((hF f hf).m x hx)
 ·obtain ⟨f, hf, hm⟩ := List.mem_flatMap.1 (h2.mem_iff.1 hm)
  obtain ⟨x, hx, rfl⟩ := List.mem_map.1 hm
  exact ⟨((hF f hf).e x hx).i, ((hF f hf).e x hx).r, ((hF f hf).e x hx).n, ((hF f hf).e x hx).d⟩
 ·obtain ⟨f, hf, hm⟩ := List.mem_flatMap.1 (h3.mem_iff.1 hm)
  obtain ⟨x, hx, rfl⟩ := List.mem_map.1 hm
  exact Zyz ((hF f hf).v x hx)
end Go.Proofs.Ythagpbkmakocjaa
namespace Go.Proofs.Ythagpbkmakocjaa
set_option linter.all false
open Go Go.Eng
set_option maxRecDepth 100000 in
theorem aw' : Zca = some true := by kernel_rfl
def ZlJ {α : Type} (nm : α → ByteArray) (l : List α) : List α := Zqc (fun x y => Zst (nm x) (nm y)) l
theorem ZiA {α : Type} (nm : α → ByteArray) (l : List α) : (ZlJ nm l).length = l.length := Ze7 l
theorem ZIz (ms : List Msg) (es : List Enm) (us : List Svc) (l1 : ms.length ≤ 1048576) (l2 : es.length ≤ 1048576) (l3 : us.length ≤ 1048576) : ZcA ms es us = some (ZlJ (fun y : Msg => y.name) ms, ZlJ (fun y : Enm => y.name) es, ZlJ (fun y : Svc => y.name) us) := by
 have s1 := m59 (Zo6 fun x y => m60 x y) (fun x y => m60 x y) ms l1
 have s2 := m59 (Zo6 fun x y => m63 x y) (fun x y => m63 x y) es l2
 have s3 := m59 (Zo6 fun x y => m65 x y) (fun x y => m65 x y) us l3
 rw [ZdR (ZkV fun y : Msg => y.name)] at s1
 rw [ZdR (ZkV fun y : Enm => y.name)] at s2
 rw [ZdR (ZkV fun y : Svc => y.name)] at s3
 unfold ZcA ZlJ
 dsimp only [Zwr, ZAp, ZyB, ZAg, Zxh, Zxy, ZAC, Zxz, br, vz, vs, wa, wm, wi, lc, ln, lf, lfe, lxe, fl, lr, vw]
 simp only [s1, s2, s3, Option.bind_some, Ze7, and_self, if_true]
def Zcg (fs : List Fil) : Scm := if (ZeZ fs).2 = 0 then ⟨ZlJ (fun y => y.name) (fs.flatMap (Zel fs)), ZlJ (fun y => y.name) (ZaN fs), ZlJ (fun y => y.name) (fs.flatMap (Zd3 fs))⟩ else ⟨[], [], []⟩
theorem ZCj {fs : List Fil} (h : Zez (fs.map Zas) ≤ 1048576) :
  Zdn fs = some (Zcg fs, ZeZ fs) ∧ OkS (Zcg fs) ∧ ((ZeZ fs).2 = 0 → Base0 fs ∧ fs.findSome? (ZiU fs) = none ∧ ¬ Zon fs) := by
 obtain ⟨hA, hG, hO⟩ := szs h
 have hi : ∀ f ∈ fs, f.imports.length < 2147483648 := fun f hf => (hA.f f hf).is
 obtain ⟨l1, o1⟩ := m22 fs hi hA.n
 have c1 := m23 fs hA
 rw [ZD4] at c1
 have key : Zdn fs = some (Zcg fs, ZeZ fs) ∧ ((ZeZ fs).2 = 0 → Base0 fs ∧ fs.findSome? (ZiU fs) = none ∧ ¬ Zon fs) := by
  unfold Zdn Zcg ZeZ
  simp only [Zyf, Zzw, ZwV, ZAh, Zzq, ZwJ, ZxL, ZxH, Zzh, ZAa, vz, vw, cl, o1, c1, Option.bind_some]
  by_cases h0 : (Zx0 fs).2 = 0
  ·simp only [h0, decide_true, Bool.not_true, Bool.false_eq_true, if_false, ne_eq, not_true_eq_false]
   by_cases hb : Zon fs
   ·simp only [hb, if_true]
    exact ⟨rfl, fun h => absurd h (by decide)⟩
   ·simp only [hb, if_false]
    cases hd : ZAX fs with
    | some x => exact ⟨rfl, fun h => absurd h (by decide : ¬ (9 : Int) = 0)⟩
    | none =>
     have hB := ZF5 hA hG (ZpC h0) hd
     have hM : (ZaP fs).length < 4611686018427387904 := by
      have e : (ZaP fs).length = Zkg fs := Zhv Zei _ Zcn fs
      have := hA.t
      have := ZDn fs
      omega
     have hE : (ZaN fs).length < 549755813888 := by
      have e := ZeB fs
      have := hA.t
      have := ZDn fs
      omega
     simp only [Bool.false_eq_true, if_false, ZHP fs hA, m26 (ZaN fs) hE, ZIH fs hB _ hM (by omega), Option.bind_some, Sum.elim_inl, decide_true, Bool.not_true]
     cases he : fs.findSome? (ZiU fs) with
     | some r =>
      have hr : r.2 ≠ 0 := by
       obtain ⟨f, _, hf⟩ := List.exists_of_findSome?_eq_some he
       exact ZyN hf
      simp only [hr, if_false]
      exact ⟨rfl, fun h => absurd h id⟩
     | none =>
      unfold Zon at hb
      simp only [Option.elim, Sum.elim_inl, Option.bind_some, ZIz (fs.flatMap (Zel fs)) (ZaN fs) (fs.flatMap (Zd3 fs)) (by rw [Zgo]; omega) (by rw [ZeB]; omega) (by rw [Zf3]; omega)]
      exact ⟨rfl, fun _ => ⟨hB, trivial, id⟩⟩
  ·simp only [h0, decide_false, Bool.not_false, if_true, if_false, ne_eq, not_false_eq_true]
   exact ⟨trivial, fun h => h.elim⟩
 refine ⟨key.1, ?_, key.2⟩
 unfold Zcg
 by_cases h0 : (ZeZ fs).2 = 0
 ·obtain ⟨_, _, e⟩ := key.2 h0
  rw [if_pos h0]
  exact ZtL hO e (Zck _) (Zck _) (Zck _)
 ·rw [if_neg h0]
  refine ⟨by decide, by decide, by decide, ?_, ?_, ?_⟩ <;> (intro m hm; cases hm)
end Go.Proofs.Ythagpbkmakocjaa
namespace Go.Proofs.Ythagpbkmakocjaa
set_option linter.all false
open Go Go.Eng
theorem ZwN {α : Type} [Rw α] (nm : α → ByteArray) {l : List α} (hs : l.Pairwise fun x y => sLt (nm x) (nm y) = true) {i : Nat} {x : α} (hx : l[i]? = some x) :
  (decide ((0 : Int) < (i : Int)) && !sLt (nm (l.getD ((i : Int) - 1).toNat Rw.z)) (nm x)) = false ∧ (decide ((0 : Int) < (i : Int)) = true → 0 ≤ (i : Int) - 1 ∧ (i : Int) - 1 < (l.length : Int)) := by
 obtain ⟨h1, h2⟩ := List.getElem?_eq_some_iff.1 hx
 refine ⟨?_, fun h => by have := of_decide_eq_true h; omega⟩
 cases i with
 | zero => simp
 | succ k =>
  have e : (((k + 1 : Nat) : Int) - 1).toNat = k := by omega
  have e2 : l.getD k Rw.z = l[k] := by rw [List.getD_eq_getElem?_getD, List.getElem?_eq_getElem (by omega)]; rfl
  have := List.pairwise_iff_getElem.1 hs k (k + 1) (by omega) h1 (by omega)
  rw [h2] at this
  rw [e, e2, this]
  simp
structure Res (s : Scm) : Prop where
 m : s.messages.Pairwise fun x y => sLt x.name y.name = true
 e : s.enums.Pairwise fun x y => sLt x.name y.name = true
 v : s.services.Pairwise fun x y => sLt x.name y.name = true
 f : ∀ x ∈ s.messages, ∀ d ∈ x.fields, d.type.kind ≠ 0 ∧ (d.type.kind = 10 → d.type.name ∈ s.messages.map fun x => x.name) ∧ (d.type.kind = 9 → d.type.name ∈ s.enums.map fun x => x.name)
 t : ∀ x ∈ s.services, ∀ d ∈ x.methods, d.inn ∈ (s.messages.map fun x => x.name) ∧ d.out ∈ s.messages.map fun x => x.name
theorem Zpr {l : List ByteArray} {x : ByteArray} (hl : l.length < 4611686018427387904) (h : x ∈ l) : Zbj l x = some true := by
 rw [m14 l x hl]
 congr 1
 rw [List.any_eq_true]
 exact ⟨x, h, by simp⟩
theorem ZiJ {α β : Type} {g : α → β × Int} {nm : α → ByteArray} {l : List α} (h : Ztz g nm l = none) : ∀ x ∈ l, (g x).2 = 0 := fun x hx => by
 unfold Ztz at h
 have := List.findSome?_eq_none_iff.1 h x hx
 split at this
 ·assumption
 ·cases this
theorem ZwQ {known msgs : List ByteArray} {en : List Enm} {space : ByteArray} {m : Msg} (h : (Zvb known msgs en space m).2 = 0) : (∀ d ∈ m.fields, (Zbr known msgs en (ZaL space m.name) d).2 = 0) ∧ (Zvb known msgs en space m).1 = { m with name := ZaL space m.name, fields := m.fields.map fun d => (Zbr known msgs en (ZaL space m.name) d).1 } := by
 unfold Zvb at h ⊢
 split at h
 ·rename_i c hc
  exfalso
  unfold ZrF at hc
  obtain ⟨x, _, hx⟩ := List.exists_of_findSome?_eq_some hc
  split at hx
  ·cases hx
  ·rename_i k; cases hx; exact k h
 ·rename_i hc
  exact ⟨fun d hd => ZiM hc hd, rfl⟩
theorem Zwi {known msgs : List ByteArray} {space : ByteArray} {m : Svc} (h : (ZrP known msgs space m).2 = 0) : (∀ d ∈ m.methods, (ZeO known msgs space d).2 = 0) ∧ (ZrP known msgs space m).1 = { m with name := ZaL space m.name, methods := m.methods.map fun d => (ZeO known msgs space d).1 } := by
 unfold ZrP at h ⊢
 split at h
 ·rename_i c hc
  exfalso
  unfold ZrF at hc
  obtain ⟨x, _, hx⟩ := List.exists_of_findSome?_eq_some hc
  split at hx
  ·cases hx
  ·rename_i k; cases hx; exact k h
 ·rename_i hc
  exact ⟨fun d hd => ZiM hc hd, rfl⟩
theorem ZiO {fs : List Fil} (h : fs.findSome? (ZiU fs) = none) {f : Fil} (hf : f ∈ fs) : (∀ m ∈ f.messages, (mS fs f m).2 = 0) ∧ ∀ v ∈ f.services, (vS' fs f v).2 = 0 := by
 have h1 := List.findSome?_eq_none_iff.1 h f hf
 unfold ZiU at h1
 rw [Option.or_eq_none_iff] at h1
 exact ⟨ZiJ h1.1, ZiJ h1.2⟩
theorem Zzz {fs : List Fil} (h : fs.findSome? (ZiU fs) = none) : (fs.flatMap (Zel fs)).map (fun x => x.name) = ZaP fs := by
 have key : ∀ l : List Fil, (∀ f ∈ l, f ∈ fs) → (l.flatMap (Zel fs)).map (fun x => x.name) = l.flatMap Zei := fun l => by
  induction l with
  | nil => intro _; rfl
  | cons f l ih =>
   intro hl
   rw [List.flatMap_cons, List.flatMap_cons, List.map_append, ih fun g hg => hl g (List.mem_cons_of_mem _ hg)]
   congr 1
   unfold Zel Zei
   rw [List.map_map]
   refine List.map_congr_left fun m hm => ?_
   have := (ZwQ ((ZiO h (hl f (List.mem_cons_self ..))).1 m hm)).2
   show (mS fs f m).1.name = _
   unfold mS
   rw [this]
 exact key fs fun _ h => h
theorem ZAv {fs : List Fil} (h : fs.findSome? (ZiU fs) = none) : (fs.flatMap (Zd3 fs)).map (fun x => x.name) = fs.flatMap Zj1 := by
 have key : ∀ l : List Fil, (∀ f ∈ l, f ∈ fs) → (l.flatMap (Zd3 fs)).map (fun x => x.name) = l.flatMap Zj1 := fun l => by
  induction l with
  | nil => intro _; rfl
  | cons f l ih =>
   intro hl
   rw [List.flatMap_cons, List.flatMap_cons, List.map_append, ih fun g hg => hl g (List.mem_cons_of_mem _ hg)]
   congr 1
   unfold Zd3 Zj1
   rw [List.map_map]
   refine List.map_congr_left fun m hm => ?_
   have := (Zwi ((ZiO h (hl f (List.mem_cons_self ..))).2 m hm)).2
   show (vS' fs f m).1.name = _
   unfold vS'
   rw [this]
 exact key fs fun _ h => h
theorem ZAK (fs : List Fil) : (ZaN fs).map (fun e => e.name) = fs.flatMap Zfd := by
 unfold ZaN
 induction fs with
 | nil => rfl
 | cons f l ih => rw [List.flatMap_cons, List.flatMap_cons, List.map_append, ih]; simp [Zfd]
theorem ZDY {fs : List Fil} (h : (ZeZ fs).2 = 0) : (Zaf fs).Nodup := by
 unfold ZeZ at h
 split at h
 ·rename_i k; exact absurd h k
 ·split at h
  ·exact absurd h (by decide)
  ·split at h
   ·exact absurd h (by decide : ¬ (9 : Int) = 0)
   ·rename_i hd
    exact (Zh6 hd).1
end Go.Proofs.Ythagpbkmakocjaa
namespace Go.Proofs.Ythagpbkmakocjaa
set_option linter.all false
open Go Go.Eng
theorem Zw7 (a b : ByteArray) : sLt a b = true ↔ bl8 a < bl8 b := by
 unfold sLt bl8
 rw [ByteArray.toList_eq, ByteArray.toList_eq, Go.Proofs.bytesLess_eq, decide_eq_true_eq]
theorem ZBe {x y : List UInt8} (h : x ≤ y) (hn : x ≠ y) : x < y := by
 rcases Classical.em (x < y) with h1 | h1
 ·exact h1
 ·exact absurd (List.le_antisymm h h1) hn
theorem Ztc (xs : List ByteArray) : (ZcL xs).Pairwise fun x y => bl8 x ≤ bl8 y := by
 have := List.pairwise_mergeSort (le := fun x y : ByteArray => decide (bl8 x ≤ bl8 y)) (fun a b c h1 h2 => by simp only [decide_eq_true_eq] at *; exact List.le_trans h1 h2) (fun a b => by simp only [Bool.or_eq_true, decide_eq_true_eq]; exact List.le_total _ _) xs
 exact this.imp fun h => by simpa using h
theorem ga {zs : List (List UInt8)} {j : Nat} (h : j < zs.length) : zs.toArray[j]! = zs[j] := by
 rw [getElem!_pos _ j (by simpa using h)]; simp
theorem ZnG {zs : List (List UInt8)} (h : zs.Pairwise fun x y => x ≤ y) : (Go.Lib.compact zs).Pairwise fun x y => x < y := by
 unfold Go.Lib.compact Go.Lib.compactUpTo
 rw [List.pairwise_map]
 refine (List.pairwise_lt_range.filter _).imp_of_mem fun {a b} ha hb hab => ?_
 obtain ⟨a1, _⟩ := List.mem_filter.1 ha
 obtain ⟨b1, b2⟩ := List.mem_filter.1 hb
 rw [List.mem_range] at a1 b1
 unfold Go.Lib.keeps at b2
 have b3 := of_decide_eq_true b2
 have b4 : zs.toArray[b]! ≠ zs.toArray[b - 1]! := b3.resolve_left (by omega)
 rw [ga b1, ga (by omega)] at b4
 rw [ga a1, ga b1]
 have h1 : zs[a] ≤ zs[b - 1] := by
  by_cases e : a = b - 1
  ·subst e; exact List.le_refl _
  ·exact List.pairwise_iff_getElem.1 h a (b - 1) a1 (by omega) (by omega)
 have h2 : zs[b - 1] ≤ zs[b] := List.pairwise_iff_getElem.1 h (b - 1) b (by omega) b1 (by omega)
 have h3 : zs[b - 1] < zs[b] := ZBe h2 fun e => b4 e.symm
 refine ZBe (List.le_trans h1 h2) fun e => ?_
 rw [e] at h1
 exact h1 h3
theorem Zkq {zs : List (List UInt8)} (x : List UInt8) : x ∈ Go.Lib.compact zs ↔ x ∈ zs := by
 unfold Go.Lib.compact Go.Lib.compactUpTo
 constructor
 ·intro h
  obtain ⟨j, hj, rfl⟩ := List.mem_map.1 h
  have := List.mem_range.1 (List.mem_filter.1 hj).1
  rw [ga this]
  exact List.getElem_mem this
 ·intro h
  obtain ⟨j, hj, rfl⟩ := List.mem_iff_getElem.1 h
  have key : ∀ (n j : Nat) (hj : j < zs.length), j ≤ n → zs[j] ∈ ((List.range zs.length).filter (Go.Lib.keeps zs.toArray)).map (zs.toArray[·]!) := fun n => by
   induction n with
   | zero =>
    intro j hj hn
    have : j = 0 := by omega
    subst this
    exact List.mem_map.2 ⟨0, List.mem_filter.2 ⟨List.mem_range.2 hj, by unfold Go.Lib.keeps; simp⟩, ga hj⟩
   | succ n ih =>
    intro j hj hn
    by_cases hk : Go.Lib.keeps zs.toArray j = true
    ·exact List.mem_map.2 ⟨j, List.mem_filter.2 ⟨List.mem_range.2 hj, hk⟩, ga hj⟩
    ·unfold Go.Lib.keeps at hk
     rw [decide_eq_true_eq, not_or] at hk
     have e := Classical.not_not.1 hk.2
     rw [ga hj, ga (by omega)] at e
     rw [e]
     exact ih (j - 1) (by omega) (by omega)
  exact key j j hj (Nat.le_refl _)
theorem Zqr {a b : ByteArray} (h : bl8 a = bl8 b) : a = b := by
 unfold bl8 at h
 obtain ⟨⟨a⟩⟩ := a
 obtain ⟨⟨b⟩⟩ := b
 simp only at h
 rw [h]
theorem Zrx (N : List ByteArray) : (ZcO (ZcL N)).Pairwise fun x y => sLt x y = true := by
 have h : ((ZcL N).map bl8).Pairwise fun x y => x ≤ y := List.pairwise_map.2 (Ztc N)
 have h2 := ZnG h
 rw [← Zgn] at h2
 exact (List.pairwise_map.1 h2).imp fun h => (Zw7 _ _).2 h
theorem ZlO (N : List ByteArray) (x : ByteArray) : x ∈ ZcO (ZcL N) ↔ x ∈ N := by
 have h1 : x ∈ ZcO (ZcL N) ↔ bl8 x ∈ (ZcO (ZcL N)).map bl8 := ⟨fun h => List.mem_map.2 ⟨x, h, rfl⟩, fun h => by
  obtain ⟨y, hy, e⟩ := List.mem_map.1 h
  rwa [← Zqr e]⟩
 have h2 : bl8 x ∈ (ZcL N).map bl8 ↔ x ∈ ZcL N := ⟨fun h => by
  obtain ⟨y, hy, e⟩ := List.mem_map.1 h
  rwa [← Zqr e], fun h => List.mem_map.2 ⟨x, h, rfl⟩⟩
 rw [h1, Zgn, Zkq, h2]
 exact (List.mergeSort_perm _ _).mem_iff
def Zce (s t : ByteArray) : Bool := sLt t s || decide (t = s)
def Zkh (out : List ByteArray) (s : ByteArray) : List ByteArray := out.takeWhile (Zce s) ++ s :: out.dropWhile (Zce s)
def ZhY (out : List ByteArray) (s : ByteArray) : List ByteArray := if ZgY out s = true then out else Zkh out s
theorem Ztj (out : List ByteArray) (s : ByteArray) : (Zkh out s).length = out.length + 1 := by
 unfold Zkh
 have := congrArg List.length (List.takeWhile_append_dropWhile (p := Zce s) (l := out))
 rw [List.length_append] at this
 rw [List.length_append, List.length_cons]
 omega
theorem ZtP (out : List ByteArray) (s x : ByteArray) : x ∈ Zkh out s ↔ x = s ∨ x ∈ out := by
 have h := List.takeWhile_append_dropWhile (p := Zce s) (l := out)
 have h2 : x ∈ out ↔ x ∈ out.takeWhile (Zce s) ∨ x ∈ out.dropWhile (Zce s) := by
  conv => lhs; rw [← h]
  exact List.mem_append
 unfold Zkh
 rw [List.mem_append, List.mem_cons, h2]
 constructor
 ·rintro (h | h | h)
  ·exact .inr (.inl h)
  ·exact .inl h
  ·exact .inr (.inr h)
 ·rintro (h | h | h)
  ·exact .inr (.inl h)
  ·exact .inl h
  ·exact .inr (.inr h)
theorem Zvt {p : ByteArray → Bool} {x : ByteArray} : ∀ {l : List ByteArray}, x ∈ l.takeWhile p → p x = true
 | [], h => by cases h
 | y :: l, h => by
  rw [List.takeWhile_cons] at h
  split at h
  ·rename_i hy
   rcases List.mem_cons.1 h with rfl | h
   ·exact hy
   ·exact Zvt h
  ·cases h
theorem Zy3 {out : List ByteArray} {s : ByteArray} (h : out.Pairwise fun x y => sLt x y = true) (hs : s ∉ out) : (Zkh out s).Pairwise fun x y => sLt x y = true := by
 have e := List.takeWhile_append_dropWhile (p := Zce s) (l := out)
 have h' := h
 rw [← e, List.pairwise_append] at h'
 obtain ⟨h1, h2, h3⟩ := h'
 have t1 : ∀ x ∈ out.takeWhile (Zce s), sLt x s = true := fun x hx => by
  have hm : x ∈ out := by rw [← e]; exact List.mem_append_left _ hx
  have hp : Zce s x = true := Zvt hx
  unfold Zce at hp
  rcases Bool.or_eq_true_iff.1 hp with h | h
  ·exact h
  ·exact absurd (of_decide_eq_true h ▸ hm) hs
 have t2 : ∀ x ∈ out.dropWhile (Zce s), sLt s x = true := fun x hx => by
  cases hd : out.dropWhile (Zce s) with
  | nil => rw [hd] at hx; cases hx
  | cons b r =>
   have hb : Zce s b = false := by
    have := List.head?_dropWhile_not (Zce s) out
    rw [hd] at this
    simpa using this
   have hsb : sLt s b = true := by
    unfold Zce at hb
    rw [Bool.or_eq_false_iff] at hb
    exact Zq7 hb.1 (of_decide_eq_false hb.2)
   rw [hd] at hx h2
   rcases List.mem_cons.1 hx with rfl | hx
   ·exact hsb
   ·exact Zmq hsb (List.rel_of_pairwise_cons h2 hx)
 unfold Zkh
 rw [List.pairwise_append]
 refine ⟨h1, List.pairwise_cons.2 ⟨t2, h2⟩, fun a ha b hb => ?_⟩
 rcases List.mem_cons.1 hb with rfl | hb
 ·exact t1 a ha
 ·exact h3 a ha b hb
theorem Zh8 : ∀ (N out : List ByteArray), out.Pairwise (fun x y => sLt x y = true) → (N.foldl ZhY out).Pairwise (fun x y => sLt x y = true) ∧ ∀ x, x ∈ N.foldl ZhY out ↔ x ∈ N ∨ x ∈ out
 | [], out, h => ⟨h, fun x => by simp⟩
 | s :: N, out, h => by
  rw [List.foldl_cons]
  by_cases hm : ZgY out s = true
  ·have e : ZhY out s = out := by unfold ZhY; rw [if_pos hm]
   rw [e]
   obtain ⟨a, b⟩ := Zh8 N out h
   refine ⟨a, fun x => ?_⟩
   rw [b, List.mem_cons]
   constructor
   ·rintro (h | h)
    ·exact .inl (.inr h)
    ·exact .inr h
   ·rintro ((rfl | h) | h)
    ·exact .inr (ZeN.1 hm)
    ·exact .inl h
    ·exact .inr h
  ·have e : ZhY out s = Zkh out s := by unfold ZhY; rw [if_neg hm]
   rw [e]
   obtain ⟨a, b⟩ := Zh8 N (Zkh out s) (Zy3 h fun q => hm (ZeN.2 q))
   refine ⟨a, fun x => ?_⟩
   rw [b, ZtP, List.mem_cons]
   constructor
   ·rintro (h | h | h)
    ·exact .inl (.inr h)
    ·exact .inl (.inl h)
    ·exact .inr h
   ·rintro ((h | h) | h)
    ·exact .inr (.inl h)
    ·exact .inl h
    ·exact .inr (.inr h)
theorem Zxr {l : List ByteArray} (h : l.Pairwise fun x y => sLt x y = true) : l.Nodup := h.imp fun {a b} h e => by rw [e, ZkO] at h; cases h
theorem ZFc {l r : List ByteArray} (h : l.Pairwise fun x y => sLt x y = true) (k : r.Pairwise fun x y => sLt x y = true) (hm : ∀ x, x ∈ l ↔ x ∈ r) : l = r :=
 Zib (lt := fun x y : ByteArray => sLt x y = true) (fun a b h1 h2 => by have := Zmq h1 h2; rw [ZkO] at this; cases this) h k ((List.perm_ext_iff_of_nodup (Zxr h) (Zxr k)).2 hm)
theorem Zsp (N : List ByteArray) : N.foldl ZhY [] = ZcO (ZcL N) := by
 obtain ⟨a, b⟩ := Zh8 N [] .nil
 exact ZFc a (Zrx N) fun x => by rw [b, ZlO]; simp
end Go.Proofs.Ythagpbkmakocjaa
