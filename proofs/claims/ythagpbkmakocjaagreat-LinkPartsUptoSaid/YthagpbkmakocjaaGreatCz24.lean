import Derived.Test.YthagpbkmakocjaaGreatCz10
import Derived.Test.YthagpbkmakocjaaGreatRows
import Derived.WalkKit
import Derived.ProofKit
import Derived.OpenShut
import Derived.Carry
import Derived.Deep.DeepHandedRow
import Derived.Test.YthagpbkmakocjaaGreatCz13
import Derived.Test.YthagpbkmakocjaaGreatCz19
import Derived.Test.YthagpbkmakocjaaGreatCz00
namespace Go.Proofs.YthagpbkmakocjaaGreat
set_option linter.all false
open Go Go.Eng Go.ChangeShapes Go.WideShapes Go.ChangeAt Go.RowKit
theorem Zxt {H : Type} (b : List UInt8) : Rows.uptoBulk (DataW.lit (H := H) (.string b)) = b.length + 1 := by simp only [Rows.uptoBulk]
theorem Zo9 {H : Type} (a b : List (DataW H)) : Rows.uptoBulk (.slice a b) = Rows.uptoBulkAll a + Rows.uptoBulkAll b + 1 := by simp only [Rows.uptoBulk]
theorem Zwr {H : Type} (a : List (DataW H)) : Rows.uptoBulk (.agg a) = Rows.uptoBulkAll a + 1 := by simp only [Rows.uptoBulk]
def ZjT (W : World) (ds : List D) (cs : List Value) (o : Nat) : Prop := ∀ (i : Nat) (d : D), ds[i]? = some d → ∃ c, cs[o + i]? = some c ∧ RepD W (· < W.heap.size) d c
def Zmi (W : World) (ds : List D) (cs : List Value) : Prop := ds.length = cs.length ∧ ZjT W ds cs 0
theorem ZjT.app {W : World} {ds es : List D} {cs : List Value} {o : Nat} (h : ZjT W ds cs o) (k : ZjT W es cs (o + ds.length)) : ZjT W (ds ++ es) cs o := fun i d hi => by
 rcases Yw i ds.length with hl | hl
 ·rw [Yn hl] at hi; exact h i d hi
 ·rw [Ys hl] at hi
  obtain ⟨c, h1, h2⟩ := k _ d hi
  grind
theorem ZjT.nil {W : World} {cs : List Value} {o : Nat} : ZjT W [] cs o := fun i d h => by simp at h
theorem Zmi.at {W : World} {ds : List D} {cs : List Value} {o k : Nat} (h : Zmi W ds ((cs.drop o).take k)) : ZjT W ds cs o := fun i d hi => by
 obtain ⟨c, h1, h2⟩ := h.2 i d hi
 grind
mutual
def bk : D → Nat
 | .int _ _ => 0
 | .bool _ => 0
 | .str s => s.size
 | .list es => Zer es
 | .map _ es => Zer es
def bkL : List D → Nat
 | [] => 0
 | d :: l => bk d + bkL l
def Zer : List (List D) → Nat
 | [] => 0
 | e :: l => bkL e + 1 + Zer l
end
theorem Ztd : ∀ a b : List D, bkL (a ++ b) = bkL a + bkL b
 | [], b => by rw [Yai, bkL, YH]
 | d :: a, b => by rw [YaZ, bkL, bkL, Ztd a b, YD]
theorem Zmy (d : D) : bkL [d] = bk d := by rw [bkL, bkL, YaH]
theorem Zbv {α : Type} {e : α → List D} : ∀ l : List α, l.length ≤ Zer (l.map e)
 | [] => Yaq _
 | x :: l => by have := Zbv (e := e) l; rw [Yo, Zer, YU]; omega
theorem ZcW {α : Type} {e : α → List D} {x : α} : ∀ {l : List α}, x ∈ l → bkL (e x) + 1 ≤ Zer (l.map e)
 | y :: l, h => by
  rw [Yo, Zer]
  cases Yx.1 h with
  | inl h => subst h; omega
  | inr h => have := ZcW (e := e) h; omega
section
variable {H : Type} (enc : TypeId × Value → H) (P : Program) (W : World)
def RdN {α : Type} (n : Nat) (t : TypeId) (e : α → List D) : Prop :=
 ∀ cs x, DataW.trod enc P W 0 (fun _ => true) true n t cs = some x → ∃ v : α, Zmi W (e v) cs ∧ bkL (e v) + 1 ≤ Rows.uptoBulk x.1
end
section
variable {H : Type} {enc : TypeId × Value → H} {P : Program} {W : World} {n : Nat} {t : TypeId}
theorem ZgI (d : DataW H) : 1 ≤ Rows.uptoBulk d := by cases d <;> (try (rename_i l; cases l)) <;> simp [Rows.uptoBulk]
theorem ZdS {d : D} {c : Value} (h : RepD W (· < W.heap.size) d c) : Zmi W [d] [c] := ⟨rfl, fun i d' hi => by
 cases i with
 | zero => cases hi; exact ⟨c, rfl, h⟩
 | succ i => simp at hi⟩
theorem ZdE {k : IntKind} (ht : P.underlying t = some (.int k)) : RdN enc P W n t (fun v : Int => [.int k v]) := fun cs x hx => by
 obtain ⟨m, rfl, rfl, _⟩ := DataW.trod_int ht hx
 exact ⟨m, ZdS (.int _ _), ZgI _⟩
theorem ZqE (ht : P.underlying t = some .bool) : RdN enc P W n t (fun v : Bool => [.bool v]) := fun cs x hx => by
 obtain ⟨m, rfl, rfl⟩ := DataW.trod_bool ht hx
 exact ⟨m, ZdS (.bool _), ZgI _⟩
theorem Zc7 (ht : P.underlying t = some .string) : RdN enc P W n t (fun v : ByteArray => [.str v]) := fun cs x hx => by
 obtain ⟨m, rfl, rfl, _⟩ := DataW.trod_string ht hx
 refine ⟨m, ZdS (.str _), ?_⟩
 rw [Zxt, Zmy]
 exact Nat.le_refl _
theorem ZGF (ht : P.underlying t = some (.int .u8)) : RdN enc P W n t eBy := fun cs x hx => by
 obtain ⟨m, rfl, rfl, hw⟩ := DataW.trod_int ht hx
 have h1 : (0 : Int) ≤ m ∧ m ≤ 255 := by
  unfold Lit.wf at hw
  rw [Yd] at hw
  exact ⟨of_decide_eq_true hw.1, of_decide_eq_true hw.2⟩
 have e : eBy ⟨UInt8.ofNat m.toNat⟩ = [.int .u8 m] := by
  unfold eBy By.v
  have : (UInt8.ofNat m.toNat).toNat = m.toNat := by rw [UInt8.toNat_ofNat']; omega
  grind
 exact ⟨_, by rw [e]; exact ZdS (.int _ _), by rw [e]; exact ZgI _⟩
theorem Zy5 {α : Type} {e : α → List D} : ∀ (l : List α) (xs : List (DataW H × List MemPlace)), l.length = xs.length → (∀ (i : Nat) (v : α), l[i]? = some v → ∃ y : DataW H × List MemPlace, xs[i]? = some y ∧ bkL (e v) + 1 ≤ Rows.uptoBulk y.1) → Zer (l.map e) ≤ Rows.uptoBulkAll (xs.map (·.1))
 | [], _, _, _ => Yaq _
 | x :: l, [], h, _ => by cases h
 | x :: l, y :: xs, h, k => by
  have := Zy5 l xs (YbF h) (fun i v hi => k (i + 1) v hi)
  obtain ⟨y', h1, h2⟩ := k 0 x rfl
  cases h1
  rw [Yo, Yo, Zer]
  simp only [Rows.uptoBulkAll]
  omega
theorem Zqp {α : Type} {Q : Nat → α → Prop} : ∀ (len : Nat), (∀ i, i < len → ∃ v, Q i v) → ∃ l : List α, l.length = len ∧ ∀ i v, l[i]? = some v → Q i v
 | 0, _ => ⟨[], rfl, fun i v h => by simp at h⟩
 | len + 1, h => by
  obtain ⟨l, h1, h2⟩ := Zqp len (fun i hi => h i (by omega))
  obtain ⟨v, hv⟩ := h len (by omega)
  refine ⟨l ++ [v], by simp [h1], fun i w hi => ?_⟩
  grind
theorem ZaN {α : Type} {e : TypeId} {enc' : α → List D} {sz : Nat} (ht : P.underlying t = some (.slice e)) (hsz : P.cellsOf e = sz) (hs0 : sz ≠ 0) (hl : ∀ x, (enc' x).length = sz) (h : ∀ m, m < n → RdN enc P W m e enc') :
  RdN enc P W n t (fun l : List α => [.list (l.map enc')]) := fun cs x hx => by
 rcases DataW.trod_slice ht hx with ⟨rfl, rfl⟩ | ⟨a, len, cap, elems, rest, m, rfl, rfl, rfl, hb, hlc, hcm, hel, hi, _, _⟩
 ·exact ⟨[], ZdS .nil, ZgI _⟩
 ·have each : ∀ i, i < len → ∃ v : α, ∃ y cs', elems[i]? = some y ∧ W.cells? 0 (a.add (i * sz)) sz = some cs' ∧ Zmi W (enc' v) cs' ∧ bkL (enc' v) + 1 ≤ Rows.uptoBulk y.1 := fun i hlt => by
   have h1 := hi i hlt
   rw [Yc (by omega), hsz] at h1
   obtain ⟨cs', h2, h3⟩ := YbQ.1 h1
   obtain ⟨v, h4, h5⟩ := h m (by omega) cs' _ h3
   exact ⟨v, _, cs', Yc (by omega), h2, h4, h5⟩
  obtain ⟨l, hll, hlq⟩ := Zqp len each
  have cell : ∀ (i j : Nat) (e' : List D) (x : D), (l.map enc')[i]? = some e' → e'[j]? = some x → ∃ c, W.cell? (a.add (i * sz + j)) = some c ∧ RepD W (· < W.heap.size) x c := fun i j e' x hi' hj => by
   rw [YM] at hi'
   cases hv : l[i]? with
   | none => rw [hv] at hi'; cases hi'
   | some v =>
    rw [hv] at hi'
    cases hi'
    obtain ⟨y, cs', g1, g2, g3, g4⟩ := hlq i v hv
    obtain ⟨c, g5, g6⟩ := g3.2 j x hj
    rw [YH] at g5
    obtain ⟨_, g7, g8⟩ := World.cells?_some g2
    have hjl : j < sz := by
     rw [← hl v]
     rcases Yw j (enc' v).length with h | h
     ·exact h
     ·rw [YC h] at hj; cases hj
    refine ⟨c, ?_, g6⟩
    rw [← Go.Eng.add_add, g8 j hjl, g5]
  refine ⟨l, ZdS ?_, ?_⟩
  ·have hlen : (l.map enc').length = len := by simp [hll]
   have := RepD.list (w := W) (S := (· < W.heap.size)) (l.map enc') a sz cap (fun i j => (W.cell? (a.add (i * sz + j))).getD undef) (fun hne => by
     have h0 : 0 < len := by
      rcases Ybv len with h | h
      ·exact absurd (Y6 (hlen.trans h)) hne
      ·exact h
     obtain ⟨v, y, cs', _, g2, _⟩ := each 0 h0
     have := World.cells?_block g2 (by omega)
     rw [YaU] at this
     rw [← Go.Eng.block_add a 0]; exact this)
    (by rw [hlen]; exact hlc) (fun e' he => by obtain ⟨y, _, rfl⟩ := Yy.1 he; exact hl y)
    (fun i j e' x hi' hj => by obtain ⟨c, g1, _⟩ := cell i j e' x hi' hj; rw [g1]; rfl)
    (fun i j e' x hi' hj => by obtain ⟨c, g1, g2⟩ := cell i j e' x hi' hj; rw [g1]; exact g2)
   rw [hlen] at this
   exact this
  ·rw [Zo9, Zmy, bk]
   have := Zy5 (e := enc') l elems (by omega) (fun i v hv => by
    obtain ⟨y, cs', g1, g2, g3, g4⟩ := hlq i v hv
    exact ⟨y, g1, g4⟩)
   omega
def FB (xs : List (DataW H × List MemPlace)) (i : Nat) : Nat := Rows.uptoBulkAll ((xs.drop i).map (·.1))
theorem ZaH {xs : List (DataW H × List MemPlace)} {i : Nat} {a b : List D} (h : bkL a + 1 + FB xs (i + 1) ≤ FB xs i) (k : bkL b ≤ FB xs (i + 1)) : bkL (a ++ b) ≤ FB xs i := by
 rw [Ztd]; omega
theorem Zdy {xs : List (DataW H × List MemPlace)} {i : Nat} {a : List D} (h : bkL a + 1 + FB xs (i + 1) ≤ FB xs i) : bkL a ≤ FB xs i := by omega
theorem ZdD {xs : List (DataW H × List MemPlace)} {a : List D} (h : bkL a ≤ FB xs 0) : bkL a + 1 ≤ Rows.uptoBulk (.agg (xs.map (·.1))) := by
 rw [Zwr]; exact Nat.succ_le_succ h
theorem Zw2 {α : Type} {e : α → List D} {m i : Nat} {t' : TypeId} {piece : List Value} {xs : List (DataW H × List MemPlace)} (h : RdN enc P W m t' e) (hf : DataW.trod enc P W 0 (fun _ => true) true m t' piece = xs[i]?) (hi : i < xs.length) :
  ∃ v, Zmi W (e v) piece ∧ bkL (e v) + 1 + FB xs (i + 1) ≤ FB xs i := by
 rw [Yc hi] at hf
 obtain ⟨v, h1, h2⟩ := h _ _ hf
 refine ⟨v, h1, ?_⟩
 unfold FB
 rw [Yae hi, Yo]
 simp only [Rows.uptoBulkAll]
 omega
theorem rf {α : Type} {e : α → List D} {m i k : Nat} {t' : TypeId} {piece : List Value} {xs : List (DataW H × List MemPlace)} (h : RdN enc P W m t' e) (hf : DataW.trod enc P W 0 (fun _ => true) true m t' piece = xs[i]?) (hx : xs.length = k) (hi : Nat.blt i k = true := by kernel_rfl) :
  ∃ v, Zmi W (e v) piece ∧ bkL (e v) + 1 + FB xs (i + 1) ≤ FB xs i := Zw2 h hf (by rw [hx]; exact Yh hi)
theorem Zt5 {α : Type} {e e' : α → List D} (he : ∀ x, e x = e' x) (h : RdN enc P W n t e') : RdN enc P W n t e := fun cs x hx => by
 obtain ⟨v, h1, h2⟩ := h cs x hx
 grind
theorem Zhd {α : Type} {e : α → List D} {u : TypeId} {r : Reach} {base : Nat} {v : Value} {d : DataW H} {p : List MemPlace} (rd : ∀ n, RdN enc P W n t (fun l : List α => [.list (l.map e)])) (ht : P.underlying t = some (.slice u)) (hv : Value.okWide P W r base t v)
  (h : DataW.Trod enc P W 0 (fun _ => true) true t v d p) : ∃ x : List α, (∀ Hp m l, RepA W (· < W.heap.size) Hp m l (.d (.list (x.map e))) v) ∧ bk (.list (x.map e)) + 1 ≤ Rows.uptoBulk d := by
 obtain ⟨a, len, cap, rfl⟩ := okWide_slice ht hv
 obtain ⟨n, hn⟩ := h
 obtain ⟨x, h1, h2⟩ := rd n _ _ hn
 obtain ⟨c, h3, h4⟩ := h1.2 0 _ rfl
 have : c = .slice a len cap := by simpa [Value.cells] using h3.symm
 subst this
 exact ⟨x, fun _ _ _ => .d _ _ h4, by rw [← Zmy]; exact h2⟩
def Hp0 : Hp := fun _ => ⟨0, false, 0, 0, []⟩
theorem ok0 (m : Mu) : Ok 0 Hp0 m (· < W.heap.size) W := ⟨fun _ h => h, fun _ _ h => (by cases h), fun _ _ h => (by cases h), fun _ _ _ _ h => (by cases h), fun _ _ h => (by cases h), ⟨fun _ _ h => (by cases h), fun _ _ h => (by cases h), fun _ _ _ _ h => (by cases h)⟩⟩
def ZN4 (w : World) (S : Nat → Prop) (Hp : Hp) (m : Mu) (l : Nat) : List AV → List Value → Prop
 | [], [] => True
 | x :: xs, v :: vs => RepA w S Hp m l x v ∧ ZN4 w S Hp m l xs vs
 | _, _ => False
theorem ZDB {w : World} {S : Nat → Prop} {Hp : Hp} {m : Mu} {l : Nat} {xs : List AV} {vs : List Value} (h : ZN4 w S Hp m l xs vs) : Ze9 w S Hp m l xs vs.toArray := by
 suffices hh : xs.length = vs.length ∧ ∀ (i : Nat) (x : AV) (v : Value), xs[i]? = some x → vs[i]? = some v → RepA w S Hp m l x v by
  exact ⟨by simpa using hh.1, fun i x v hx hv => hh.2 i x v hx (by simpa using hv)⟩
 induction xs generalizing vs with
 | nil => cases vs with
  | nil => exact ⟨rfl, fun i x v h => by simp at h⟩
  | cons _ _ => exact h.elim
 | cons x xs ih => cases vs with
  | nil => exact h.elim
  | cons v vs =>
   obtain ⟨h1, h2⟩ := ih h.2
   refine ⟨by simp [h1], fun i y u hy hu => ?_⟩
   cases i with
   | zero => simp at hy hu; subst hy; subst hu; exact h.1
   | succ i => exact h2 i y u (by simpa using hy) (by simpa using hu)
theorem ZsR {f : Func} {s : ChangeSpec} {W' : World} {args : Array Value} {ds gs : List (DataW H)} {before : List MemPlace} {u : TypeId} (hW : DataW.Whole enc P f.params.toList s.vars false W args.toList ds gs before) (hvars : s.vars = [])
  (hlaid : laidOutB P = true) (hrd : ∀ t ∈ f.params.toList, P.readableRec t = true ∧ t < P.types.size) (hres : f.resultTypes.toList = [u]) (hu : P.underlying u = some .bool)
  (hfn : s.fn H (ds ++ gs) = { results := [.lit (.bool true)], args := ds }) (hb : Below W.heap.size W W') : s.post enc P f false true false false W args (.bool true) W' := by
 obtain ⟨p, q, hA, hV, rfl, hfz, hnd⟩ := id hW
 rw [hvars] at hV
 obtain ⟨rfl, rfl⟩ := trodVars_none hV
 refine ⟨ds, [], p ++ [], [], p, [], hW, ?_, ?_, ?_, ?_, fun h => by cases h⟩
 ·rw [hfn, hres]
  have : (Value.bool true).resultList f.resultTypes.size = [.bool true] := by
   have : f.resultTypes.size = 1 := by rw [← Yal, hres]; rfl
   rw [this]; rfl
  rw [this]
  exact trodAll_cons_mk (shut_bool hu _) trodAll_mk0
 ·rw [hfn]
  have key : ∀ (ts : List TypeId) (vs : List Value) (es : List (DataW H)) (ps : List MemPlace), (∀ t ∈ ts, P.readableRec t = true ∧ t < P.types.size) → DataW.TrodAll enc P W 0 (fun _ => true) true ts vs es ps →
    DataW.TrodAll enc P W' 0 (fun b => decide (b < W.heap.size)) true ts vs es ps := by
   intro ts
   induction ts with
   | nil => intro vs es ps _ h; obtain ⟨rfl, rfl, rfl⟩ := trodAll_nil h; exact trodAll_mk0
   | cons t ts ih =>
    intro vs es ps hr h
    have hlt := DataW.TrodAll.lt h
    obtain ⟨v, vs1, d, ds1, a, b, rfl, rfl, rfl, h1, h2⟩ := trodAll_cons h
    exact trodAll_cons_mk (Below.trod hlaid (hr t (by simp)).1 (hr t (by simp)).2 h1 hb (fun x hx => hlt x (Yay _ hx))) (ih _ _ _ (fun t ht => hr t (by simp [ht])) h2)
  exact key _ _ _ _ hrd hA
 ·rw [hvars, hfn]; exact rfl
 ·refine ⟨hb.os, hb.output, fun i hi => ?_⟩
  rw [hb.block i hi]
  cases W.heap[i]? with
  | none => rfl
  | some o => cases o <;> simp
end
end Go.Proofs.YthagpbkmakocjaaGreat
namespace Go.Proofs.YthagpbkmakocjaaGreat
set_option linter.all false
open Go Go.Eng
section
variable {H : Type} {enc : TypeId × Value → H} {W : World}
set_option maxRecDepth 100000
theorem ZHR (n : Nat) : RdN enc Tryz.prog W n 230 ZzH := fun cs x hx => by
 obtain ⟨xs, m, rfl, rfl, hcl, hxl, hf⟩ := DataW.trod_struct Tryz.underlying230 hx
 obtain ⟨v0, r0, b0⟩ := rf (ZdE Tryz.underlying3) (hf 0 _ rfl) hxl
 obtain ⟨v1, r1, b1⟩ := rf (ZdE Tryz.underlying3) (hf 1 _ rfl) hxl
 obtain ⟨v2, r2, b2⟩ := rf (ZdE Tryz.underlying76) (hf 2 _ rfl) hxl
 obtain ⟨v3, r3, b3⟩ := rf (Zc7 Tryz.underlying9) (hf 3 _ rfl) hxl
 have q := ZdD (ZaH b0 (ZaH b1 (ZaH b2 (Zdy b3))))
 exact ⟨.mk v0 v1 v2 v3, ⟨by rw [hcl]; kernel_rfl, (r0.at.app (r1.at.app (r2.at.app r3.at)))⟩, q⟩
theorem Zws (n : Nat) (h : ∀ k, k < n → RdN enc Tryz.prog W k 82 Zv5) : RdN enc Tryz.prog W n 226 ePr := fun cs x hx => by
 obtain ⟨xs, m, rfl, rfl, hcl, hxl, hf⟩ := DataW.trod_struct Tryz.underlying226 hx
 obtain ⟨v0, r0, b0⟩ := rf (h m (by omega)) (hf 0 _ rfl) hxl
 obtain ⟨v1, r1, b1⟩ := rf (h m (by omega)) (hf 1 _ rfl) hxl
 have q := ZdD (ZaH b0 (Zdy b1))
 exact ⟨.mk v0 v1, ⟨by rw [hcl]; kernel_rfl, (r0.at.app r1.at)⟩, q⟩
theorem ZrY (n : Nat) (h : ∀ k, k < n → RdN enc Tryz.prog W k 82 Zv5) : RdN enc Tryz.prog W n 228 ZML := fun cs x hx => by
 obtain ⟨xs, m, rfl, rfl, hcl, hxl, hf⟩ := DataW.trod_struct Tryz.underlying228 hx
 obtain ⟨v0, r0, b0⟩ := rf (ZdE Tryz.underlying3) (hf 0 _ rfl) hxl
 obtain ⟨v1, r1, b1⟩ := rf (h m (by omega)) (hf 1 _ rfl) hxl
 have q := ZdD (ZaH b0 (Zdy b1))
 exact ⟨.mk v0 v1, ⟨by rw [hcl]; kernel_rfl, (r0.at.app r1.at)⟩, q⟩
theorem ZyG (n : Nat) : RdN enc Tryz.prog W n 82 Zv5 := by
 induction n using Nat.strongRecOn with
 | ind n ih =>
 intro cs x hx
 obtain ⟨xs, m, rfl, rfl, hcl, hxl, hf⟩ := DataW.trod_struct Tryz.underlying82 hx
 obtain ⟨v0, r0, b0⟩ := rf (ZdE Tryz.underlying3) (hf 0 _ rfl) hxl
 obtain ⟨v1, r1, b1⟩ := rf (ZdE Tryz.underlying76) (hf 1 _ rfl) hxl
 obtain ⟨v2, r2, b2⟩ := rf (Zc7 Tryz.underlying9) (hf 2 _ rfl) hxl
 obtain ⟨v3, r3, b3⟩ := rf (ZaN Tryz.underlying77 (by kernel_rfl : Tryz.prog.cellsOf 82 = 7) (by decide) (fun x => by rw [ZiJ]; rfl) (fun k hk => (Zt5 ZiJ (ih k (by omega))))) (hf 3 _ rfl) hxl
 obtain ⟨v4, r4, b4⟩ := rf (ZaN Tryz.underlying78 (by kernel_rfl : Tryz.prog.cellsOf 226 = 14) (by decide) (fun x => by rw [Zzn]; rfl) (fun k hk => (Zt5 Zzn (Zws k (fun j hj => ih j (by omega)))))) (hf 4 _ rfl) hxl
 obtain ⟨v5, r5, b5⟩ := rf (ZaN Tryz.underlying79 (by kernel_rfl : Tryz.prog.cellsOf 228 = 8) (by decide) (fun x => by rw [Zqr]; rfl) (fun k hk => (Zt5 Zqr (ZrY k (fun j hj => ih j (by omega)))))) (hf 5 _ rfl) hxl
 obtain ⟨v6, r6, b6⟩ := rf (ZaN Tryz.underlying80 (by kernel_rfl : Tryz.prog.cellsOf 230 = 4) (by decide) (fun _ => rfl) (fun k hk => (ZHR k))) (hf 6 _ rfl) hxl
 have q := ZdD (ZaH b0 (ZaH b1 (ZaH b2 (ZaH b3 (ZaH b4 (ZaH b5 (Zdy b6)))))))
 exact ⟨.mk v0 v1 v2 v3 v4 v5 v6, ⟨by rw [hcl]; kernel_rfl, (r0.at.app (r1.at.app (r2.at.app (r3.at.app (r4.at.app (r5.at.app r6.at))))))⟩, q⟩
theorem ZGC (n : Nat) : RdN enc Tryz.prog W n 75 ZQx := fun cs x hx => by
 obtain ⟨xs, m, rfl, rfl, hcl, hxl, hf⟩ := DataW.trod_struct Tryz.underlying75 hx
 obtain ⟨v0, r0, b0⟩ := rf (ZdE Tryz.underlying3) (hf 0 _ rfl) hxl
 obtain ⟨v1, r1, b1⟩ := rf (Zc7 Tryz.underlying9) (hf 1 _ rfl) hxl
 have q := ZdD (ZaH b0 (Zdy b1))
 exact ⟨.mk v0 v1, ⟨by rw [hcl]; kernel_rfl, (r0.at.app r1.at)⟩, q⟩
theorem Zo8 (n : Nat) : RdN enc Tryz.prog W n 159 eNt := fun cs x hx => by
 obtain ⟨xs, m, rfl, rfl, hcl, hxl, hf⟩ := DataW.trod_struct Tryz.underlying159 hx
 obtain ⟨v0, r0, b0⟩ := rf (Zc7 Tryz.underlying9) (hf 0 _ rfl) hxl
 obtain ⟨v1, r1, b1⟩ := rf (ZyG m) (hf 1 _ rfl) hxl
 have q := ZdD (ZaH b0 (Zdy b1))
 exact ⟨.mk v0 v1, ⟨by rw [hcl]; kernel_rfl, (r0.at.app r1.at)⟩, q⟩
theorem ZLr (n : Nat) : RdN enc Tryz.prog W n 84 Zdb := fun cs x hx => by
 obtain ⟨xs, m, rfl, rfl, hcl, hxl, hf⟩ := DataW.trod_struct Tryz.underlying84 hx
 obtain ⟨v0, r0, b0⟩ := rf (ZdE Tryz.underlying3) (hf 0 _ rfl) hxl
 obtain ⟨v1, r1, b1⟩ := rf (Zc7 Tryz.underlying9) (hf 1 _ rfl) hxl
 obtain ⟨v2, r2, b2⟩ := rf (ZdE Tryz.underlying3) (hf 2 _ rfl) hxl
 obtain ⟨v3, r3, b3⟩ := rf (ZdE Tryz.underlying3) (hf 3 _ rfl) hxl
 obtain ⟨v4, r4, b4⟩ := rf (ZGC m) (hf 4 _ rfl) hxl
 obtain ⟨v5, r5, b5⟩ := rf (Zc7 Tryz.underlying9) (hf 5 _ rfl) hxl
 obtain ⟨v6, r6, b6⟩ := rf (ZqE Tryz.underlying4) (hf 6 _ rfl) hxl
 obtain ⟨v7, r7, b7⟩ := rf (ZyG m) (hf 7 _ rfl) hxl
 obtain ⟨v8, r8, b8⟩ := rf (ZaN Tryz.underlying46 (by kernel_rfl : Tryz.prog.cellsOf 159 = 8) (by decide) (fun _ => rfl) (fun k hk => (Zo8 k))) (hf 8 _ rfl) hxl
 have q := ZdD (ZaH b0 (ZaH b1 (ZaH b2 (ZaH b3 (ZaH b4 (ZaH b5 (ZaH b6 (ZaH b7 (Zdy b8)))))))))
 exact ⟨.mk v0 v1 v2 v3 v4 v5 v6 v7 v8, ⟨by rw [hcl]; kernel_rfl, (r0.at.app (r1.at.app (r2.at.app (r3.at.app (r4.at.app (r5.at.app (r6.at.app (r7.at.app r8.at))))))))⟩, q⟩
theorem Zym (n : Nat) : RdN enc Tryz.prog W n 116 Zd0 := fun cs x hx => by
 obtain ⟨xs, m, rfl, rfl, hcl, hxl, hf⟩ := DataW.trod_struct Tryz.underlying116 hx
 obtain ⟨v0, r0, b0⟩ := rf (ZdE Tryz.underlying3) (hf 0 _ rfl) hxl
 obtain ⟨v1, r1, b1⟩ := rf (ZdE Tryz.underlying3) (hf 1 _ rfl) hxl
 have q := ZdD (ZaH b0 (Zdy b1))
 exact ⟨.mk v0 v1, ⟨by rw [hcl]; kernel_rfl, (r0.at.app r1.at)⟩, q⟩
theorem ZGk (n : Nat) : RdN enc Tryz.prog W n 48 ZaC := fun cs x hx => by
 obtain ⟨xs, m, rfl, rfl, hcl, hxl, hf⟩ := DataW.trod_struct Tryz.underlying48 hx
 obtain ⟨v0, r0, b0⟩ := rf (Zc7 Tryz.underlying9) (hf 0 _ rfl) hxl
 obtain ⟨v1, r1, b1⟩ := rf (ZaN Tryz.underlying44 (by kernel_rfl : Tryz.prog.cellsOf 84 = 16) (by decide) (fun _ => rfl) (fun k hk => (ZLr k))) (hf 1 _ rfl) hxl
 obtain ⟨v2, r2, b2⟩ := rf (ZaN Tryz.underlying45 (by kernel_rfl : Tryz.prog.cellsOf 116 = 2) (by decide) (fun _ => rfl) (fun k hk => (Zym k))) (hf 2 _ rfl) hxl
 obtain ⟨v3, r3, b3⟩ := rf (ZaN Tryz.underlying36 (by kernel_rfl : Tryz.prog.cellsOf 9 = 1) (by decide) (fun _ => rfl) (fun k hk => (Zc7 Tryz.underlying9))) (hf 3 _ rfl) hxl
 obtain ⟨v4, r4, b4⟩ := rf (ZaN Tryz.underlying46 (by kernel_rfl : Tryz.prog.cellsOf 159 = 8) (by decide) (fun _ => rfl) (fun k hk => (Zo8 k))) (hf 4 _ rfl) hxl
 have q := ZdD (ZaH b0 (ZaH b1 (ZaH b2 (ZaH b3 (Zdy b4)))))
 exact ⟨.mk v0 v1 v2 v3 v4, ⟨by rw [hcl]; kernel_rfl, (r0.at.app (r1.at.app (r2.at.app (r3.at.app r4.at))))⟩, q⟩
theorem ZHQ (n : Nat) : RdN enc Tryz.prog W n 123 Ze1 := fun cs x hx => by
 obtain ⟨xs, m, rfl, rfl, hcl, hxl, hf⟩ := DataW.trod_struct Tryz.underlying123 hx
 obtain ⟨v0, r0, b0⟩ := rf (Zc7 Tryz.underlying9) (hf 0 _ rfl) hxl
 obtain ⟨v1, r1, b1⟩ := rf (ZdE Tryz.underlying3) (hf 1 _ rfl) hxl
 obtain ⟨v2, r2, b2⟩ := rf (ZaN Tryz.underlying46 (by kernel_rfl : Tryz.prog.cellsOf 159 = 8) (by decide) (fun _ => rfl) (fun k hk => (Zo8 k))) (hf 2 _ rfl) hxl
 have q := ZdD (ZaH b0 (ZaH b1 (Zdy b2)))
 exact ⟨.mk v0 v1 v2, ⟨by rw [hcl]; kernel_rfl, (r0.at.app (r1.at.app r2.at))⟩, q⟩
theorem ZJK (n : Nat) : RdN enc Tryz.prog W n 55 Zan := fun cs x hx => by
 obtain ⟨xs, m, rfl, rfl, hcl, hxl, hf⟩ := DataW.trod_struct Tryz.underlying55 hx
 obtain ⟨v0, r0, b0⟩ := rf (Zc7 Tryz.underlying9) (hf 0 _ rfl) hxl
 obtain ⟨v1, r1, b1⟩ := rf (ZqE Tryz.underlying4) (hf 1 _ rfl) hxl
 obtain ⟨v2, r2, b2⟩ := rf (ZaN Tryz.underlying53 (by kernel_rfl : Tryz.prog.cellsOf 123 = 3) (by decide) (fun _ => rfl) (fun k hk => (ZHQ k))) (hf 2 _ rfl) hxl
 obtain ⟨v3, r3, b3⟩ := rf (ZaN Tryz.underlying45 (by kernel_rfl : Tryz.prog.cellsOf 116 = 2) (by decide) (fun _ => rfl) (fun k hk => (Zym k))) (hf 3 _ rfl) hxl
 obtain ⟨v4, r4, b4⟩ := rf (ZaN Tryz.underlying46 (by kernel_rfl : Tryz.prog.cellsOf 159 = 8) (by decide) (fun _ => rfl) (fun k hk => (Zo8 k))) (hf 4 _ rfl) hxl
 have q := ZdD (ZaH b0 (ZaH b1 (ZaH b2 (ZaH b3 (Zdy b4)))))
 exact ⟨.mk v0 v1 v2 v3 v4, ⟨by rw [hcl]; kernel_rfl, (r0.at.app (r1.at.app (r2.at.app (r3.at.app r4.at))))⟩, q⟩
theorem ZGU (n : Nat) : RdN enc Tryz.prog W n 130 Zdv := fun cs x hx => by
 obtain ⟨xs, m, rfl, rfl, hcl, hxl, hf⟩ := DataW.trod_struct Tryz.underlying130 hx
 obtain ⟨v0, r0, b0⟩ := rf (Zc7 Tryz.underlying9) (hf 0 _ rfl) hxl
 obtain ⟨v1, r1, b1⟩ := rf (Zc7 Tryz.underlying9) (hf 1 _ rfl) hxl
 obtain ⟨v2, r2, b2⟩ := rf (Zc7 Tryz.underlying9) (hf 2 _ rfl) hxl
 obtain ⟨v3, r3, b3⟩ := rf (ZdE Tryz.underlying3) (hf 3 _ rfl) hxl
 obtain ⟨v4, r4, b4⟩ := rf (ZaN Tryz.underlying46 (by kernel_rfl : Tryz.prog.cellsOf 159 = 8) (by decide) (fun _ => rfl) (fun k hk => (Zo8 k))) (hf 4 _ rfl) hxl
 have q := ZdD (ZaH b0 (ZaH b1 (ZaH b2 (ZaH b3 (Zdy b4)))))
 exact ⟨.mk v0 v1 v2 v3 v4, ⟨by rw [hcl]; kernel_rfl, (r0.at.app (r1.at.app (r2.at.app (r3.at.app r4.at))))⟩, q⟩
theorem ZHg (n : Nat) : RdN enc Tryz.prog W n 62 ZaG := fun cs x hx => by
 obtain ⟨xs, m, rfl, rfl, hcl, hxl, hf⟩ := DataW.trod_struct Tryz.underlying62 hx
 obtain ⟨v0, r0, b0⟩ := rf (Zc7 Tryz.underlying9) (hf 0 _ rfl) hxl
 obtain ⟨v1, r1, b1⟩ := rf (ZaN Tryz.underlying60 (by kernel_rfl : Tryz.prog.cellsOf 130 = 5) (by decide) (fun _ => rfl) (fun k hk => (ZGU k))) (hf 1 _ rfl) hxl
 obtain ⟨v2, r2, b2⟩ := rf (ZaN Tryz.underlying46 (by kernel_rfl : Tryz.prog.cellsOf 159 = 8) (by decide) (fun _ => rfl) (fun k hk => (Zo8 k))) (hf 2 _ rfl) hxl
 have q := ZdD (ZaH b0 (ZaH b1 (Zdy b2)))
 exact ⟨.mk v0 v1 v2, ⟨by rw [hcl]; kernel_rfl, (r0.at.app (r1.at.app r2.at))⟩, q⟩
theorem ZIv (n : Nat) : RdN enc Tryz.prog W n 86 Zat := fun cs x hx => by
 obtain ⟨xs, m, rfl, rfl, hcl, hxl, hf⟩ := DataW.trod_struct Tryz.underlying86 hx
 obtain ⟨v0, r0, b0⟩ := rf (Zc7 Tryz.underlying9) (hf 0 _ rfl) hxl
 obtain ⟨v1, r1, b1⟩ := rf (Zc7 Tryz.underlying9) (hf 1 _ rfl) hxl
 obtain ⟨v2, r2, b2⟩ := rf (ZaN Tryz.underlying36 (by kernel_rfl : Tryz.prog.cellsOf 9 = 1) (by decide) (fun _ => rfl) (fun k hk => (Zc7 Tryz.underlying9))) (hf 2 _ rfl) hxl
 obtain ⟨v3, r3, b3⟩ := rf (ZaN Tryz.underlying22 (by kernel_rfl : Tryz.prog.cellsOf 48 = 5) (by decide) (fun _ => rfl) (fun k hk => (ZGk k))) (hf 3 _ rfl) hxl
 obtain ⟨v4, r4, b4⟩ := rf (ZaN Tryz.underlying23 (by kernel_rfl : Tryz.prog.cellsOf 55 = 5) (by decide) (fun _ => rfl) (fun k hk => (ZJK k))) (hf 4 _ rfl) hxl
 obtain ⟨v5, r5, b5⟩ := rf (ZaN Tryz.underlying24 (by kernel_rfl : Tryz.prog.cellsOf 62 = 3) (by decide) (fun _ => rfl) (fun k hk => (ZHg k))) (hf 5 _ rfl) hxl
 have q := ZdD (ZaH b0 (ZaH b1 (ZaH b2 (ZaH b3 (ZaH b4 (Zdy b5))))))
 exact ⟨.mk v0 v1 v2 v3 v4 v5, ⟨by rw [hcl]; kernel_rfl, (r0.at.app (r1.at.app (r2.at.app (r3.at.app (r4.at.app r5.at)))))⟩, q⟩
end
def Zb6 (r : List (ByteArray × Bool)) : List ByteArray := r.map (·.1)
theorem ZmT (x y : ByteArray) (v : Bool) : ∀ r : List (ByteArray × Bool), Zgp y (ZgC x v r) = if x = y then some v else Zgp y r
 | [] => by
  unfold ZgC Zgp
  by_cases h : x = y <;> simp [h, Zgp]
 | p :: r => by
  unfold ZgC
  by_cases h : p.1 = x
  ·rw [show decide (p.1 = x) = true from decide_eq_true h]
   show Zgp y ((x, v) :: r) = _
   unfold Zgp
   by_cases h2 : x = y
   ·simp [h2]
   ·simp [h2, show ¬ p.1 = y from fun h3 => h2 (h.symm.trans h3)]
  ·rw [show decide (p.1 = x) = false from decide_eq_false h]
   show Zgp y (p :: ZgC x v r) = _
   unfold Zgp
   rw [ZmT x y v r]
   by_cases h2 : p.1 = y
   ·simp [h2, show ¬ x = y from fun h3 => h (h2.trans h3.symm)]
   ·simp [h2]
theorem ZDS (x y : ByteArray) (r : List (ByteArray × Bool)) : lkM y (ZgC x true r) = (decide (x = y) || lkM y r) := by
 unfold lkM
 rw [ZmT]
 by_cases h : x = y <;> simp [h]
theorem Zm3 (x : ByteArray) (v : Bool) : ∀ r : List (ByteArray × Bool), (x ∈ Zb6 r ∧ Zb6 (ZgC x v r) = Zb6 r) ∨ (x ∉ Zb6 r ∧ Zb6 (ZgC x v r) = Zb6 r ++ [x])
 | [] => .inr ⟨by simp [Zb6], rfl⟩
 | p :: r => by
  have ih := Zm3 x v r
  unfold ZgC
  by_cases h : p.1 = x
  ·rw [show decide (p.1 = x) = true from decide_eq_true h]
   exact .inl ⟨by unfold Zb6; simp [h], by unfold Zb6; simp [h]⟩
  ·rw [show decide (p.1 = x) = false from decide_eq_false h]
   have h2 : ¬ x = p.1 := fun e => h e.symm
   show (x ∈ p.1 :: Zb6 r ∧ p.1 :: Zb6 (ZgC x v r) = p.1 :: Zb6 r) ∨ (x ∉ p.1 :: Zb6 r ∧ p.1 :: Zb6 (ZgC x v r) = p.1 :: Zb6 r ++ [x])
   rcases ih with ⟨h3, h4⟩ | ⟨h3, h4⟩
   ·exact .inl ⟨Yq _ h3, by rw [h4]⟩
   ·exact .inr ⟨fun hm => (Yx.1 hm).elim h2 h3, by rw [h4]; rfl⟩
theorem ZHW (x : ByteArray) (v : Bool) {r : List (ByteArray × Bool)} (h : (Zb6 r).Nodup) : (Zb6 (ZgC x v r)).Nodup := by
 rcases Zm3 x v r with ⟨_, e⟩ | ⟨hx, e⟩
 ·rw [e]; exact h
 ·rw [e, YaS]
  exact ⟨h, by simp, fun a ha b hb => by simp at hb; subst hb; exact fun e => hx (e ▸ ha)⟩
section
variable {α : Type} [DecidableEq α]
def ers (l : List α) (x : α) : List α := l.erase x
theorem ZyN (x : α) (l : List α) : ers (x :: l) x = l := by unfold ers; simp
theorem Zx2 {x y : α} (h : y ≠ x) (l : List α) : ers (y :: l) x = y :: ers l x := by unfold ers; rw [List.erase_cons_tail (by simpa using h)]
theorem ZGi {x : α} {l : List α} (h : l.Nodup) : (ers l x).Nodup := h.erase x
theorem ZD4 {x y : α} {l : List α} (h : l.Nodup) : y ∈ ers l x ↔ y ≠ x ∧ y ∈ l := h.mem_erase_iff
theorem Ztp (f : α → Nat) {x : α} : ∀ {l : List α}, x ∈ l → ((ers l x).map f).sum + f x = (l.map f).sum
 | y :: l, h => by
  by_cases e : y = x
  ·subst e; rw [ZyN]; simp; omega
  ·rw [Zx2 e]
   have := Ztp f (List.mem_of_ne_of_mem (fun h2 => e h2.symm) h)
   simp only [Yo, YY]
   omega
end
theorem Zht {x : ByteArray} : ∀ {r : List (ByteArray × Bool)}, x ∉ Zb6 r → Zgp x r = none
 | [], _ => rfl
 | p :: r, h => by
  unfold Zgp
  have h1 : ¬ p.1 = x := fun e => h (by unfold Zb6; simp [e])
  rw [show decide (p.1 = x) = false from decide_eq_false h1]
  exact Zht fun hm => h (by unfold Zb6 at hm ⊢; simp only [Yo, Yx]; exact .inr hm)
theorem ZH8 {x : ByteArray} {r : List (ByteArray × Bool)} (h : lkM x r = true) : x ∈ Zb6 r := by
 refine Yaf fun hx => ?_
 unfold lkM at h
 rw [Zht hx] at h
 cases h
theorem ZgA (x : ByteArray) : ∀ r : List (ByteArray × Bool), Zb6 (Zgs x r) = ers (Zb6 r) x
 | [] => rfl
 | p :: r => by
  have ih := ZgA x r
  unfold Zgs
  by_cases h : p.1 = x
  ·rw [show decide (p.1 = x) = true from decide_eq_true h]
   show Zb6 r = ers (p.1 :: Zb6 r) x
   rw [h, ZyN]
  ·rw [show decide (p.1 = x) = false from decide_eq_false h]
   show p.1 :: Zb6 (Zgs x r) = ers (p.1 :: Zb6 r) x
   rw [ih, Zx2 h]
theorem ZHp (x : ByteArray) {r : List (ByteArray × Bool)} (h : (Zb6 r).Nodup) : (Zb6 (Zgs x r)).Nodup := by
 rw [ZgA]; exact ZGi h
theorem Zhn {x y : ByteArray} (hn : x ≠ y) : ∀ r : List (ByteArray × Bool), Zgp y (Zgs x r) = Zgp y r
 | [] => rfl
 | p :: r => by
  unfold Zgs
  by_cases h : p.1 = x
  ·rw [show decide (p.1 = x) = true from decide_eq_true h]
   show Zgp y r = Zgp y (p :: r)
   conv => rhs; unfold Zgp
   simp [show ¬ p.1 = y from fun e => hn (h.symm.trans e)]
  ·rw [show decide (p.1 = x) = false from decide_eq_false h]
   show Zgp y (p :: Zgs x r) = Zgp y (p :: r)
   unfold Zgp
   rw [Zhn hn r]
theorem ZD2 {x y : ByteArray} {r : List (ByteArray × Bool)} (h : (Zb6 r).Nodup) : lkM y (Zgs x r) = (decide (x ≠ y) && lkM y r) := by
 by_cases e : x = y
 ·subst e
  have : x ∉ Zb6 (Zgs x r) := by rw [ZgA]; exact fun hm => ((ZD4 h).1 hm).1 rfl
  unfold lkM
  rw [Zht this]
  simp [Mv.z]
 ·unfold lkM
  rw [Zhn e]
  simp [e]
def Zyv (f : ByteArray → Nat) (r : List (ByteArray × Bool)) : Nat := ((Zb6 r).map f).sum
theorem Zwj (f : ByteArray → Nat) {x : ByteArray} {r : List (ByteArray × Bool)} (h : x ∈ Zb6 r) : Zyv f (Zgs x r) + f x = Zyv f r := by
 unfold Zyv
 rw [ZgA]
 exact Ztp f h
def nmS (s : Scm) : List ByteArray := s.messages.map (·.name) ++ s.enums.map (·.name) ++ s.services.map (·.name)
def uF (x : ByteArray) (m : Msg) (d : Fld) : List ByteArray := if (decide (m.name = x) && (decide (d.type.kind = (10 : Int)) || decide (d.type.kind = (9 : Int)))) = true then [d.type.name] else []
def uM (x : ByteArray) (m : Msg) : List ByteArray := m.fields.flatMap (uF x m)
def uE (x : ByteArray) (v : Svc) (d : Mth) : List ByteArray := if decide (v.name = x) = true then [d.inn, d.out] else []
def uV (x : ByteArray) (v : Svc) : List ByteArray := v.methods.flatMap (uE x v)
def ZdP (s : Scm) (x : ByteArray) : List ByteArray := s.messages.flatMap (uM x) ++ s.services.flatMap (uV x)
theorem ZM1 {x : ByteArray} {m : Msg} (h : m.name ≠ x) : uM x m = [] := by
 unfold uM
 rw [YbS]
 intro d _
 unfold uF
 simp [h]
theorem ZMH {x : ByteArray} {v : Svc} (h : v.name ≠ x) : uV x v = [] := by
 unfold uV
 rw [YbS]
 intro d _
 unfold uE
 simp [h]
theorem Zqz {α : Type} (g : α → List ByteArray) (c : Nat) (h : ∀ d, (g d).length ≤ c) : ∀ l : List α, (l.flatMap g).length ≤ c * l.length
 | [] => by simp
 | d :: l => by
  have := Zqz g c h l
  have := h d
  rw [YG, Yi, YU, Nat.mul_succ]
  omega
theorem ZKv (x : ByteArray) (m : Msg) : (uM x m).length ≤ if m.name = x then m.fields.length else 0 := by
 split
 ·have := Zqz (uF x m) 1 (fun d => by unfold uF; split <;> simp) m.fields
  unfold uM
  omega
 ·rename_i h
  rw [ZM1 h]
  simp
theorem ZLA (x : ByteArray) (v : Svc) : (uV x v).length ≤ if v.name = x then 2 * v.methods.length else 0 := by
 split
 ·exact Zqz (uE x v) 2 (fun d => by unfold uE; split <;> simp) v.methods
 ·rename_i h
  rw [ZMH h]
  simp
open Classical in
theorem Zzv {α : Type} (nm : α → ByteArray) (w : α → Nat) (g : ByteArray → α → List ByteArray) (h : ∀ x m, (g x m).length ≤ if nm m = x then w m else 0) (ms : List α) :
  ∀ ks : List ByteArray, ks.Nodup → (ks.map fun x => (ms.flatMap (g x)).length).sum ≤ (ms.map w).sum := by
 induction ms with
 | nil => intro ks hk; clear hk; exact Nat.le_of_eq (by induction ks with
  | nil => simp
  | cons k ks ih => simpa using ih)
 | cons m ms ih =>
  intro ks hk
  have h1 := ih ks hk
  have h2 : ∀ ks : List ByteArray, ks.Nodup → (ks.map fun x => ((m :: ms).flatMap (g x)).length).sum ≤ (ks.map fun x => (ms.flatMap (g x)).length).sum + (if nm m ∈ ks then w m else 0) := by
   intro ks
   induction ks with
   | nil => intro _; simp
   | cons k ks ih2 =>
    intro hk
    obtain ⟨n1, n2⟩ := Ya7.1 hk
    have := ih2 n2
    have h3 := h k m
    simp only [Yo, YY, YG, Yi] at this ⊢
    by_cases e : nm m = k
    ·rw [if_pos e] at h3
     subst e
     rw [if_neg n1] at this
     rw [if_pos (by simp)]
     omega
    ·rw [if_neg e] at h3
     by_cases e2 : nm m ∈ ks
     ·rw [if_pos e2] at this
      rw [if_pos (by simp [e2])]
      omega
     ·rw [if_neg e2] at this
      rw [if_neg (by simp [e, e2])]
      omega
  have h3 := h2 ks hk
  rw [Yo (f := w), YY]
  split at h3 <;> omega
def ZFQ (s : Scm) : Nat := (s.messages.map fun m => m.fields.length).sum + (s.services.map fun v => 2 * v.methods.length).sum
theorem Zn4 (s : Scm) {ks : List ByteArray} (h : ks.Nodup) : (ks.map fun x => (ZdP s x).length).sum ≤ ZFQ s := by
 have h1 := Zzv (fun m : Msg => m.name) (fun m => m.fields.length) uM ZKv s.messages ks h
 have h2 := Zzv (fun v : Svc => v.name) (fun v => 2 * v.methods.length) uV ZLA s.services ks h
 have h3 : ∀ ks : List ByteArray, (ks.map fun x => (ZdP s x).length).sum = (ks.map fun x => (s.messages.flatMap (uM x)).length).sum + (ks.map fun x => (s.services.flatMap (uV x)).length).sum := by
  intro ks
  induction ks with
  | nil => rfl
  | cons k ks ih =>
   simp only [Yo, YY, ih]
   unfold ZdP
   rw [Yi]
   omega
 rw [h3]
 unfold ZFQ
 omega
theorem Znd (s : Scm) (x : ByteArray) : (ZdP s x).length ≤ ZFQ s := by
 have := Zn4 s (ks := [x]) (by simp)
 simpa using this
inductive Cl (s : Scm) (ns : List ByteArray) : ByteArray → Prop
 | base {x : ByteArray} : x ∈ ns → Cl s ns x
 | step {x y : ByteArray} : Cl s ns x → y ∈ ZdP s x → y ∈ nmS s → Cl s ns y
theorem Cl.nm {s : Scm} {ns : List ByteArray} (h : ∀ x ∈ ns, x ∈ nmS s) {x : ByteArray} (hc : Cl s ns x) : x ∈ nmS s := by
 cases hc with
 | base hx => exact h _ hx
 | step _ _ hy => exact hy
def ZeN (s : Scm) (p : ByteArray → Bool) : Scm := ⟨s.messages.filter fun m => p m.name, s.enums.filter fun m => p m.name, s.services.filter fun m => p m.name⟩
theorem Zqa (s : Scm) {p q : ByteArray → Bool} (h : ∀ x ∈ nmS s, p x = q x) : ZeN s p = ZeN s q := by
 unfold ZeN
 congr 1 <;> refine List.filter_congr fun m hm => h _ ?_ <;> unfold nmS <;> simp only [YaB]
 ·exact .inl (.inl (YaD (f := fun m : Msg => m.name) hm))
 ·exact .inl (.inr (YaD (f := fun m : Enm => m.name) hm))
 ·exact .inr (YaD (f := fun m : Svc => m.name) hm)
theorem ZFv (s : Scm) (p : ByteArray → Bool) : nmS (ZeN s p) = (nmS s).filter p := by
 unfold nmS ZeN
 simp only [Yaw, List.filter_map]
 rfl
theorem Cl.sub {s : Scm} {ns : List ByteArray} {P : ByteArray → Prop} (h1 : ∀ x ∈ ns, P x) (h2 : ∀ x, P x → ∀ y ∈ ZdP s x, y ∈ nmS s → P y) {x : ByteArray} (h : Cl s ns x) : P x := by
 induction h with
 | base h => exact h1 _ h
 | step _ hy hm ih => exact h2 _ ih _ hy hm
theorem ZMs {α ρ : Type} {B : Int × Int × List α → Option (Lv (Int × Int × List α) (Int × List α) ρ)} (l : List α) (p : α → Bool)
  (h1 : ∀ (i j : Nat) (r : List α) x, i ≤ j → r.length = l.length → r[j]? = some x → l[j]? = some x → B ((i : Int), (j : Int), r) = some (.nx (if p x then ((i : Int), ((j + 1 : Nat) : Int), r) else (((i + 1 : Nat) : Int), ((j + 1 : Nat) : Int), r.set i x))))
  (h2 : ∀ (i : Nat) r, B ((i : Int), (l.length : Int), r) = some (.ex ((i : Int), r))) :
  ∀ (k N i j : Nat) (r : List α), j + k = l.length → k < N → i ≤ j → r.length = l.length → r.take i = (l.take j).filter (fun x => !p x) → i = ((l.take j).filter fun x => !p x).length → r.drop j = l.drop j →
  ∃ (i' : Nat) (r' : List α), Zaa B N ((i : Int), (j : Int), r) = some (.inl ((i' : Int), r')) ∧ r'.take i' = l.filter (fun x => !p x) ∧ i' = (l.filter fun x => !p x).length ∧ r'.length = l.length := by
 intro k
 induction k with
 | zero =>
  intro N i j r hj hN hij hr ht hi hd
  obtain ⟨N, rfl⟩ : ∃ m, N = m + 1 := ⟨N - 1, by omega⟩
  have : j = l.length := by omega
  subst this
  rw [Ya1] at ht hi
  exact ⟨i, r, by rw [Zaa, h2], ht, hi, hr⟩
 | succ k ih =>
  intro N i j r hj hN hij hr ht hi hd
  obtain ⟨N, rfl⟩ : ∃ m, N = m + 1 := ⟨N - 1, by omega⟩
  have hlt : j < l.length := by omega
  have hl : l[j]? = some l[j] := Yc hlt
  have hrj : r[j]? = some l[j] := by
   have := congrArg (fun z => z[0]?) hd
   simpa [YV, hlt] using this
  have e0 : l.take (j + 1) = l.take j ++ [l[j]] := YZ hlt
  rw [Zaa, h1 i j r l[j] hij hr hrj hl]
  cases hp : p l[j] with
  | true =>
   refine ih N i (j + 1) r (by omega) (by omega) (by omega) hr ?_ ?_ ?_
   ·rw [e0, Yaw, ht]; simp [hp]
   ·rw [e0, Yaw]; simpa [hp] using hi
   ·have := congrArg (List.drop 1) hd
    simpa [Ybc] using this
  | false =>
   have hir : i < r.length := by omega
   refine ih N (i + 1) (j + 1) (r.set i l[j]) (by omega) (by omega) (by omega) (by rw [YaC]; exact hr) ?_ ?_ ?_
   ·rw [e0, Yaw, ← ht, YZ (by rw [YaC]; exact hir), List.take_set_of_le (Nat.le_refl _), YbW]
    simp [hp]
   ·rw [e0, Yaw, Yi, ← hi]
    simp [hp]
   ·rw [List.drop_set_of_lt (by omega)]
    have := congrArg (List.drop 1) hd
    simpa [Ybc] using this
end Go.Proofs.YthagpbkmakocjaaGreat
