import Derived.Test.YthhipejbnbochaaCu11
import Derived.Test.YthhipejbnbochaaCu10
import Derived.Test.YthhipejbnbochaaRows
import Derived.WalkKit
import Derived.ProofKit
import Derived.OpenShut
import Derived.Carry
import Derived.Deep.DeepHandedRow
import Derived.Test.YthhipejbnbochaaCu12
import Derived.Test.YthhipejbnbochaaCu14
import Derived.Test.YthhipejbnbochaaCu15
import Derived.Test.YthhipejbnbochaaCu13
import Derived.Test.YthhipejbnbochaaCu20
import Derived.Test.YthhipejbnbochaaCu00
namespace Go.Proofs.Ythhipejbnbochaa
set_option linter.all false
open Go Go.Eng Go.ChangeShapes Go.WideShapes Go.ChangeAt Go.RowKit
theorem Zin {H : Type} (b : List UInt8) : Rows.uptoBulk (DataW.lit (H := H) (.string b)) = b.length + 1 := by simp only [Rows.uptoBulk]
theorem Zkg {H : Type} (a b : List (DataW H)) : Rows.uptoBulk (.slice a b) = Rows.uptoBulkAll a + Rows.uptoBulkAll b + 1 := by simp only [Rows.uptoBulk]
theorem ZnK {H : Type} (a : List (DataW H)) : Rows.uptoBulk (.agg a) = Rows.uptoBulkAll a + 1 := by simp only [Rows.uptoBulk]
def ZgV (W : World) (ds : List D) (cs : List Value) (o : Nat) : Prop := ∀ (i : Nat) (d : D), ds[i]? = some d → ∃ c, cs[o + i]? = some c ∧ RepD W (· < W.heap.size) d c
def Zia (W : World) (ds : List D) (cs : List Value) : Prop := ds.length = cs.length ∧ ZgV W ds cs 0
theorem ZgV.app {W : World} {ds es : List D} {cs : List Value} {o : Nat} (h : ZgV W ds cs o) (k : ZgV W es cs (o + ds.length)) : ZgV W (ds ++ es) cs o := fun i d hi => by
 rcases Ys i ds.length with hl | hl
 ·rw [Yi hl] at hi; exact h i d hi
 ·rw [Yn hl] at hi
  obtain ⟨c, h1, h2⟩ := k _ d hi
  grind
theorem ZgV.nil {W : World} {cs : List Value} {o : Nat} : ZgV W [] cs o := fun i d h => by simp at h
theorem Zia.at {W : World} {ds : List D} {cs : List Value} {o k : Nat} (h : Zia W ds ((cs.drop o).take k)) : ZgV W ds cs o := fun i d hi => by
 obtain ⟨c, h1, h2⟩ := h.2 i d hi
 grind
mutual
def bk : D → Nat
 | .int _ _ => 0
 | .bool _ => 0
 | .str s => s.size
 | .list es => Zr3 es
 | .map _ es => Zr3 es
def bkL : List D → Nat
 | [] => 0
 | d :: l => bk d + bkL l
def Zr3 : List (List D) → Nat
 | [] => 0
 | e :: l => bkL e + 1 + Zr3 l
end
theorem Zmh : ∀ a b : List D, bkL (a ++ b) = bkL a + bkL b
 | [], b => by rw [Yaq, bkL, Yy]
 | d :: a, b => by rw [YaQ, bkL, bkL, Zmh a b, Yx]
theorem Znm (d : D) : bkL [d] = bk d := by rw [bkL, bkL, Yag]
theorem Zpx {α : Type} {e : α → List D} : ∀ l : List α, l.length ≤ Zr3 (l.map e)
 | [] => Nat.zero_le _
 | x :: l => by have := Zpx (e := e) l; rw [YS, Zr3, Y7]; omega
section
variable {H : Type} (enc : TypeId × Value → H) (P : Program) (W : World)
def RdN {α : Type} (n : Nat) (t : TypeId) (e : α → List D) : Prop :=
 ∀ cs x, DataW.trod enc P W 0 (fun _ => true) true n t cs = some x → ∃ v : α, Zia W (e v) cs ∧ bkL (e v) + 1 ≤ Rows.uptoBulk x.1
end
section
variable {H : Type} {enc : TypeId × Value → H} {P : Program} {W : World} {n : Nat} {t : TypeId}
theorem Zf0 (d : DataW H) : 1 ≤ Rows.uptoBulk d := by cases d <;> (try (rename_i l; cases l)) <;> simp [Rows.uptoBulk]
theorem ZcN {d : D} {c : Value} (h : RepD W (· < W.heap.size) d c) : Zia W [d] [c] := ⟨rfl, fun i d' hi => by
 cases i with
 | zero => cases hi; exact ⟨c, rfl, h⟩
 | succ i => simp at hi⟩
theorem Zb1 {k : IntKind} (ht : P.underlying t = some (.int k)) : RdN enc P W n t (fun v : Int => [.int k v]) := fun cs x hx => by
 obtain ⟨m, rfl, rfl, _⟩ := DataW.trod_int ht hx
 exact ⟨m, ZcN (.int _ _), Zf0 _⟩
theorem ZmK (ht : P.underlying t = some .bool) : RdN enc P W n t (fun v : Bool => [.bool v]) := fun cs x hx => by
 obtain ⟨m, rfl, rfl⟩ := DataW.trod_bool ht hx
 exact ⟨m, ZcN (.bool _), Zf0 _⟩
theorem Zb8 (ht : P.underlying t = some .string) : RdN enc P W n t (fun v : ByteArray => [.str v]) := fun cs x hx => by
 obtain ⟨m, rfl, rfl, _⟩ := DataW.trod_string ht hx
 refine ⟨m, ZcN (.str _), ?_⟩
 rw [Zin, Znm]
 exact Ye _
theorem ZpL {α : Type} {e : α → List D} : ∀ (l : List α) (xs : List (DataW H × List MemPlace)), l.length = xs.length → (∀ (i : Nat) (v : α), l[i]? = some v → ∃ y : DataW H × List MemPlace, xs[i]? = some y ∧ bkL (e v) + 1 ≤ Rows.uptoBulk y.1) → Zr3 (l.map e) ≤ Rows.uptoBulkAll (xs.map (·.1))
 | [], _, _, _ => Nat.zero_le _
 | x :: l, [], h, _ => by cases h
 | x :: l, y :: xs, h, k => by
  have := ZpL l xs (YaW h) (fun i v hi => k (i + 1) v hi)
  obtain ⟨y', h1, h2⟩ := k 0 x rfl
  cases h1
  rw [YS, YS, Zr3]
  simp only [Rows.uptoBulkAll]
  omega
theorem ZkV {α : Type} {Q : Nat → α → Prop} : ∀ (len : Nat), (∀ i, i < len → ∃ v, Q i v) → ∃ l : List α, l.length = len ∧ ∀ i v, l[i]? = some v → Q i v
 | 0, _ => ⟨[], rfl, fun i v h => by simp at h⟩
 | len + 1, h => by
  obtain ⟨l, h1, h2⟩ := ZkV len (fun i hi => h i (by omega))
  obtain ⟨v, hv⟩ := h len (by omega)
  refine ⟨l ++ [v], by simp [h1], fun i w hi => ?_⟩
  grind
theorem ZaH {α : Type} {e : TypeId} {enc' : α → List D} {sz : Nat} (ht : P.underlying t = some (.slice e)) (hsz : P.cellsOf e = sz) (hs0 : sz ≠ 0) (hl : ∀ x, (enc' x).length = sz) (h : ∀ m, m < n → RdN enc P W m e enc') :
  RdN enc P W n t (fun l : List α => [.list (l.map enc')]) := fun cs x hx => by
 rcases DataW.trod_slice ht hx with ⟨rfl, rfl⟩ | ⟨a, len, cap, elems, rest, m, rfl, rfl, rfl, hb, hlc, hcm, hel, hi, _, _⟩
 ·exact ⟨[], ZcN .nil, Zf0 _⟩
 ·have each : ∀ i, i < len → ∃ v : α, ∃ y cs', elems[i]? = some y ∧ W.cells? 0 (a.add (i * sz)) sz = some cs' ∧ Zia W (enc' v) cs' ∧ bkL (enc' v) + 1 ≤ Rows.uptoBulk y.1 := fun i hlt => by
   have h1 := hi i hlt
   rw [Yc (by omega), hsz] at h1
   obtain ⟨cs', h2, h3⟩ := Ybq.1 h1
   obtain ⟨v, h4, h5⟩ := h m (by omega) cs' _ h3
   exact ⟨v, _, cs', Yc (by omega), h2, h4, h5⟩
  obtain ⟨l, hll, hlq⟩ := ZkV len each
  have cell : ∀ (i j : Nat) (e' : List D) (x : D), (l.map enc')[i]? = some e' → e'[j]? = some x → ∃ c, W.cell? (a.add (i * sz + j)) = some c ∧ RepD W (· < W.heap.size) x c := fun i j e' x hi' hj => by
   rw [Yu] at hi'
   cases hv : l[i]? with
   | none => rw [hv] at hi'; cases hi'
   | some v =>
    rw [hv] at hi'
    cases hi'
    obtain ⟨y, cs', g1, g2, g3, g4⟩ := hlq i v hv
    obtain ⟨c, g5, g6⟩ := g3.2 j x hj
    rw [Yy] at g5
    obtain ⟨_, g7, g8⟩ := World.cells?_some g2
    have hjl : j < sz := by
     rw [← hl v]
     rcases Ys j (enc' v).length with h | h
     ·exact h
     ·rw [YB h] at hj; cases hj
    refine ⟨c, ?_, g6⟩
    rw [← Go.Eng.add_add, g8 j hjl, g5]
  refine ⟨l, ZcN ?_, ?_⟩
  ·have hlen : (l.map enc').length = len := by simp [hll]
   have := RepD.list (w := W) (S := (· < W.heap.size)) (l.map enc') a sz cap (fun i j => (W.cell? (a.add (i * sz + j))).getD undef) (fun hne => by
     have h0 : 0 < len := by
      rcases Ya8 len with h | h
      ·exact absurd (YD (hlen.trans h)) hne
      ·exact h
     obtain ⟨v, y, cs', _, g2, _⟩ := each 0 h0
     have := World.cells?_block g2 (by omega)
     rw [Yah] at this
     rw [← Go.Eng.block_add a 0]; exact this)
    (by rw [hlen]; exact hlc) (fun e' he => by obtain ⟨y, _, rfl⟩ := Yq.1 he; exact hl y)
    (fun i j e' x hi' hj => by obtain ⟨c, g1, _⟩ := cell i j e' x hi' hj; rw [g1]; rfl)
    (fun i j e' x hi' hj => by obtain ⟨c, g1, g2⟩ := cell i j e' x hi' hj; rw [g1]; exact g2)
   rw [hlen] at this
   exact this
  ·rw [Zkg, Znm, bk]
   have := ZpL (e := enc') l elems (by omega) (fun i v hv => by
    obtain ⟨y, cs', g1, g2, g3, g4⟩ := hlq i v hv
    exact ⟨y, g1, g4⟩)
   omega
def FB (xs : List (DataW H × List MemPlace)) (i : Nat) : Nat := Rows.uptoBulkAll ((xs.drop i).map (·.1))
theorem Zas {xs : List (DataW H × List MemPlace)} {i : Nat} {a b : List D} (h : bkL a + 1 + FB xs (i + 1) ≤ FB xs i) (k : bkL b ≤ FB xs (i + 1)) : bkL (a ++ b) ≤ FB xs i := by
 rw [Zmh]; omega
theorem Zcb {xs : List (DataW H × List MemPlace)} {i : Nat} {a : List D} (h : bkL a + 1 + FB xs (i + 1) ≤ FB xs i) : bkL a ≤ FB xs i := by omega
theorem Zb0 {xs : List (DataW H × List MemPlace)} {a : List D} (h : bkL a ≤ FB xs 0) : bkL a + 1 ≤ Rows.uptoBulk (.agg (xs.map (·.1))) := by
 rw [ZnK]; exact Nat.succ_le_succ h
theorem ZnV {α : Type} {e : α → List D} {m i : Nat} {t' : TypeId} {piece : List Value} {xs : List (DataW H × List MemPlace)} (h : RdN enc P W m t' e) (hf : DataW.trod enc P W 0 (fun _ => true) true m t' piece = xs[i]?) (hi : i < xs.length) :
  ∃ v, Zia W (e v) piece ∧ bkL (e v) + 1 + FB xs (i + 1) ≤ FB xs i := by
 rw [Yc hi] at hf
 obtain ⟨v, h1, h2⟩ := h _ _ hf
 refine ⟨v, h1, ?_⟩
 unfold FB
 rw [YV hi, YS]
 simp only [Rows.uptoBulkAll]
 omega
theorem rf {α : Type} {e : α → List D} {m i k : Nat} {t' : TypeId} {piece : List Value} {xs : List (DataW H × List MemPlace)} (h : RdN enc P W m t' e) (hf : DataW.trod enc P W 0 (fun _ => true) true m t' piece = xs[i]?) (hx : xs.length = k) (hi : Nat.blt i k = true := by kernel_rfl) :
  ∃ v, Zia W (e v) piece ∧ bkL (e v) + 1 + FB xs (i + 1) ≤ FB xs i := ZnV h hf (by rw [hx]; exact Yf hi)
theorem Zk5 {α : Type} {e e' : α → List D} (he : ∀ x, e x = e' x) (h : RdN enc P W n t e') : RdN enc P W n t e := fun cs x hx => by
 obtain ⟨v, h1, h2⟩ := h cs x hx
 grind
theorem ZsV {α : Type} {e : α → List D} {fs : Array Field} {r : Reach} {base : Nat} {v : Value} {d : DataW H} {p : List MemPlace} (rd : ∀ n, RdN enc P W n t e) (ht : P.underlying t = some (.struct fs)) (hv : Value.okWide P W r base t v)
  (h : DataW.Trod enc P W 0 (fun _ => true) true t v d p) : ∃ x : α, (∀ m l, RepA W (· < W.heap.size) (fun _ => ⟨0, false, 0, 0, []⟩) m l (.agg ((e x).map .d)) v) ∧ bkL (e x) + 1 ≤ Rows.uptoBulk d := by
 obtain ⟨cs, rfl, _⟩ := okWide_struct ht hv
 obtain ⟨n, hn⟩ := h
 obtain ⟨x, h1, h2⟩ := rd n _ _ hn
 have hl : (e x).length = cs.size := by rw [h1.1]; simp [Value.cells]
 have key : ∀ (i : Nat) (c : Value) , cs[i]? = some c → ∃ d, (e x)[i]? = some d ∧ RepD W (· < W.heap.size) d c := fun i c hc => by
  have hlt : i < (e x).length := by
   grind
  obtain ⟨c', h3, h4⟩ := h1.2 i _ (Yc hlt)
  have : c' = c := by
   rw [Yy] at h3
   have : cs.toList[i]? = some c' := h3
   grind
  grind
 refine ⟨x, fun m l => .agg _ _ (by rw [Yp, hl]) (fun i c hc => ?_) (fun i y c hy hc => ?_), h2⟩
 ·obtain ⟨d, _, h3⟩ := key i c hc; exact h3.one
 ·obtain ⟨d, h3, h4⟩ := key i c hc
  rw [Yu, h3] at hy
  cases hy
  exact .d _ _ h4
theorem Zm6 {r : Reach} {base : Nat} {v : Value} {d : DataW H} {p : List MemPlace} (ht : P.underlying t = some .string) (hv : Value.okWide P W r base t v) (h : DataW.Trod enc P W 0 (fun _ => true) true t v d p) :
  ∃ x : ByteArray, (∀ S Hp m l, RepA W S Hp m l (.d (.str x)) v) ∧ x.size + 1 ≤ Rows.uptoBulk d := by
 obtain ⟨x, rfl⟩ := okWide_string ht hv
 obtain ⟨n, hn⟩ := h
 obtain ⟨s, h1, h2, _⟩ := DataW.trod_string ht hn
 have h1 : x = s := by simpa [Value.cells] using h1
 subst h1
 have h2 : d = .lit (.string x.data.toList) := congrArg Prod.fst h2
 subst h2
 refine ⟨x, fun _ _ _ _ => .d _ _ (.str _), ?_⟩
 rw [Zin]
 exact Ye _
def Hp0 : Hp := fun _ => ⟨0, false, 0, 0, []⟩
theorem ok0 (m : Mu) : Ok 0 Hp0 m (· < W.heap.size) W := ⟨fun _ h => h, fun _ _ h => (by cases h), fun _ _ h => (by cases h), fun _ _ _ _ h => (by cases h), fun _ _ h => (by cases h), ⟨fun _ _ h => (by cases h), fun _ _ h => (by cases h), fun _ _ _ _ h => (by cases h)⟩⟩
def ZxS (w : World) (S : Nat → Prop) (Hp : Hp) (m : Mu) (l : Nat) : List AV → List Value → Prop
 | [], [] => True
 | x :: xs, v :: vs => RepA w S Hp m l x v ∧ ZxS w S Hp m l xs vs
 | _, _ => False
theorem ZsU {w : World} {S : Nat → Prop} {Hp : Hp} {m : Mu} {l : Nat} {xs : List AV} {vs : List Value} (h : ZxS w S Hp m l xs vs) : Zdh w S Hp m l xs vs.toArray := by
 suffices hh : xs.length = vs.length ∧ ∀ (i : Nat) (x : AV) (v : Value), xs[i]? = some x → vs[i]? = some v → RepA w S Hp m l x v by
  exact ⟨by simpa using hh.1, fun i x v hx hv => hh.2 i x v hx (by simpa using hv)⟩
 induction xs generalizing vs with
 | nil => cases vs with
  | nil => exact ⟨rfl, fun i x v h => by simp at h⟩
  | cons _ _ => exact h.elim
 | cons x xs ih => cases vs with
  | nil => exact h.elim
  | cons v vs =>
   obtain ⟨h1, h2⟩ := ih h.2
   refine ⟨by simp [h1], fun i y u hy hu => ?_⟩
   cases i with
   | zero => simp at hy hu; subst hy; subst hu; exact h.1
   | succ i => exact h2 i y u (by simpa using hy) (by simpa using hu)
theorem ZkW {f : Func} {s : ChangeSpec} {W' : World} {args : Array Value} {ds gs : List (DataW H)} {before : List MemPlace} {u : TypeId} (hW : DataW.Whole enc P f.params.toList s.vars false W args.toList ds gs before) (hvars : s.vars = [])
  (hlaid : laidOutB P = true) (hrd : ∀ t ∈ f.params.toList, P.readableRec t = true ∧ t < P.types.size) (hres : f.resultTypes.toList = [u]) (hu : P.underlying u = some .bool)
  (hfn : s.fn H (ds ++ gs) = { results := [.lit (.bool true)], args := ds }) (hb : Below W.heap.size W W') : s.post enc P f false true false false W args (.bool true) W' := by
 obtain ⟨p, q, hA, hV, rfl, hfz, hnd⟩ := id hW
 rw [hvars] at hV
 obtain ⟨rfl, rfl⟩ := trodVars_none hV
 refine ⟨ds, [], p ++ [], [], p, [], hW, ?_, ?_, ?_, ?_, fun h => by cases h⟩
 ·rw [hfn, hres]
  have : (Value.bool true).resultList f.resultTypes.size = [.bool true] := by
   have : f.resultTypes.size = 1 := by rw [← Y3, hres]; rfl
   rw [this]; rfl
  rw [this]
  exact trodAll_cons_mk (shut_bool hu _) trodAll_mk0
 ·rw [hfn]
  have key : ∀ (ts : List TypeId) (vs : List Value) (es : List (DataW H)) (ps : List MemPlace), (∀ t ∈ ts, P.readableRec t = true ∧ t < P.types.size) → DataW.TrodAll enc P W 0 (fun _ => true) true ts vs es ps →
    DataW.TrodAll enc P W' 0 (fun b => decide (b < W.heap.size)) true ts vs es ps := by
   intro ts
   induction ts with
   | nil => intro vs es ps _ h; obtain ⟨rfl, rfl, rfl⟩ := trodAll_nil h; exact trodAll_mk0
   | cons t ts ih =>
    intro vs es ps hr h
    have hlt := DataW.TrodAll.lt h
    obtain ⟨v, vs1, d, ds1, a, b, rfl, rfl, rfl, h1, h2⟩ := trodAll_cons h
    exact trodAll_cons_mk (Below.trod hlaid (hr t (by simp)).1 (hr t (by simp)).2 h1 hb (fun x hx => hlt x (Y4 _ hx))) (ih _ _ _ (fun t ht => hr t (by simp [ht])) h2)
  exact key _ _ _ _ hrd hA
 ·rw [hvars, hfn]; exact rfl
 ·refine ⟨hb.os, hb.output, fun i hi => ?_⟩
  rw [hb.block i hi]
  cases W.heap[i]? with
  | none => rfl
  | some o => cases o <;> simp
end
end Go.Proofs.Ythhipejbnbochaa
namespace Go.Proofs.Ythhipejbnbochaa
set_option linter.all false
open Go Go.Eng
section
variable {H : Type} {enc : TypeId × Value → H} {W : World}
set_option maxRecDepth 100000
theorem ZvV (n : Nat) : RdN enc Try.prog W n 159 ZnB := fun cs x hx => by
 obtain ⟨xs, m, rfl, rfl, hcl, hxl, hf⟩ := DataW.trod_struct Try.underlying159 hx
 obtain ⟨v0, r0, b0⟩ := rf (Zb1 Try.underlying3) (hf 0 _ rfl) hxl
 obtain ⟨v1, r1, b1⟩ := rf (Zb1 Try.underlying3) (hf 1 _ rfl) hxl
 obtain ⟨v2, r2, b2⟩ := rf (Zb1 Try.underlying49) (hf 2 _ rfl) hxl
 obtain ⟨v3, r3, b3⟩ := rf (Zb8 Try.underlying9) (hf 3 _ rfl) hxl
 have q := Zb0 (Zas b0 (Zas b1 (Zas b2 (Zcb b3))))
 exact ⟨.mk v0 v1 v2 v3, ⟨by rw [hcl]; kernel_rfl, (r0.at.app (r1.at.app (r2.at.app r3.at)))⟩, q⟩
theorem Zoa (n : Nat) (h : ∀ k, k < n → RdN enc Try.prog W k 55 ZsF) : RdN enc Try.prog W n 155 ePr := fun cs x hx => by
 obtain ⟨xs, m, rfl, rfl, hcl, hxl, hf⟩ := DataW.trod_struct Try.underlying155 hx
 obtain ⟨v0, r0, b0⟩ := rf (h m (by omega)) (hf 0 _ rfl) hxl
 obtain ⟨v1, r1, b1⟩ := rf (h m (by omega)) (hf 1 _ rfl) hxl
 have q := Zb0 (Zas b0 (Zcb b1))
 exact ⟨.mk v0 v1, ⟨by rw [hcl]; kernel_rfl, (r0.at.app r1.at)⟩, q⟩
theorem Zk7 (n : Nat) (h : ∀ k, k < n → RdN enc Try.prog W k 55 ZsF) : RdN enc Try.prog W n 157 Zxv := fun cs x hx => by
 obtain ⟨xs, m, rfl, rfl, hcl, hxl, hf⟩ := DataW.trod_struct Try.underlying157 hx
 obtain ⟨v0, r0, b0⟩ := rf (Zb1 Try.underlying3) (hf 0 _ rfl) hxl
 obtain ⟨v1, r1, b1⟩ := rf (h m (by omega)) (hf 1 _ rfl) hxl
 have q := Zb0 (Zas b0 (Zcb b1))
 exact ⟨.mk v0 v1, ⟨by rw [hcl]; kernel_rfl, (r0.at.app r1.at)⟩, q⟩
theorem ZpG (n : Nat) : RdN enc Try.prog W n 55 ZsF := by
 induction n using Nat.strongRecOn with
 | ind n ih =>
 intro cs x hx
 obtain ⟨xs, m, rfl, rfl, hcl, hxl, hf⟩ := DataW.trod_struct Try.underlying55 hx
 obtain ⟨v0, r0, b0⟩ := rf (Zb1 Try.underlying3) (hf 0 _ rfl) hxl
 obtain ⟨v1, r1, b1⟩ := rf (Zb1 Try.underlying49) (hf 1 _ rfl) hxl
 obtain ⟨v2, r2, b2⟩ := rf (Zb8 Try.underlying9) (hf 2 _ rfl) hxl
 obtain ⟨v3, r3, b3⟩ := rf (ZaH Try.underlying50 (by kernel_rfl : Try.prog.cellsOf 55 = 7) (by decide) (fun x => by rw [ZfZ]; rfl) (fun k hk => (Zk5 ZfZ (ih k (by omega))))) (hf 3 _ rfl) hxl
 obtain ⟨v4, r4, b4⟩ := rf (ZaH Try.underlying51 (by kernel_rfl : Try.prog.cellsOf 155 = 14) (by decide) (fun x => by rw [Zp0]; rfl) (fun k hk => (Zk5 Zp0 (Zoa k (fun j hj => ih j (by omega)))))) (hf 4 _ rfl) hxl
 obtain ⟨v5, r5, b5⟩ := rf (ZaH Try.underlying52 (by kernel_rfl : Try.prog.cellsOf 157 = 8) (by decide) (fun x => by rw [ZmA]; rfl) (fun k hk => (Zk5 ZmA (Zk7 k (fun j hj => ih j (by omega)))))) (hf 5 _ rfl) hxl
 obtain ⟨v6, r6, b6⟩ := rf (ZaH Try.underlying53 (by kernel_rfl : Try.prog.cellsOf 159 = 4) (by decide) (fun _ => rfl) (fun k hk => (ZvV k))) (hf 6 _ rfl) hxl
 have q := Zb0 (Zas b0 (Zas b1 (Zas b2 (Zas b3 (Zas b4 (Zas b5 (Zcb b6)))))))
 exact ⟨.mk v0 v1 v2 v3 v4 v5 v6, ⟨by rw [hcl]; kernel_rfl, (r0.at.app (r1.at.app (r2.at.app (r3.at.app (r4.at.app (r5.at.app r6.at))))))⟩, q⟩
theorem ZvX (n : Nat) : RdN enc Try.prog W n 48 ZyK := fun cs x hx => by
 obtain ⟨xs, m, rfl, rfl, hcl, hxl, hf⟩ := DataW.trod_struct Try.underlying48 hx
 obtain ⟨v0, r0, b0⟩ := rf (Zb1 Try.underlying3) (hf 0 _ rfl) hxl
 obtain ⟨v1, r1, b1⟩ := rf (Zb8 Try.underlying9) (hf 1 _ rfl) hxl
 have q := Zb0 (Zas b0 (Zcb b1))
 exact ⟨.mk v0 v1, ⟨by rw [hcl]; kernel_rfl, (r0.at.app r1.at)⟩, q⟩
theorem ZjP (n : Nat) : RdN enc Try.prog W n 153 eNt := fun cs x hx => by
 obtain ⟨xs, m, rfl, rfl, hcl, hxl, hf⟩ := DataW.trod_struct Try.underlying153 hx
 obtain ⟨v0, r0, b0⟩ := rf (Zb8 Try.underlying9) (hf 0 _ rfl) hxl
 obtain ⟨v1, r1, b1⟩ := rf (ZpG m) (hf 1 _ rfl) hxl
 have q := Zb0 (Zas b0 (Zcb b1))
 exact ⟨.mk v0 v1, ⟨by rw [hcl]; kernel_rfl, (r0.at.app r1.at)⟩, q⟩
theorem Zv7 (n : Nat) : RdN enc Try.prog W n 57 ZdD := fun cs x hx => by
 obtain ⟨xs, m, rfl, rfl, hcl, hxl, hf⟩ := DataW.trod_struct Try.underlying57 hx
 obtain ⟨v0, r0, b0⟩ := rf (Zb1 Try.underlying3) (hf 0 _ rfl) hxl
 obtain ⟨v1, r1, b1⟩ := rf (Zb8 Try.underlying9) (hf 1 _ rfl) hxl
 obtain ⟨v2, r2, b2⟩ := rf (Zb1 Try.underlying3) (hf 2 _ rfl) hxl
 obtain ⟨v3, r3, b3⟩ := rf (Zb1 Try.underlying3) (hf 3 _ rfl) hxl
 obtain ⟨v4, r4, b4⟩ := rf (ZvX m) (hf 4 _ rfl) hxl
 obtain ⟨v5, r5, b5⟩ := rf (Zb8 Try.underlying9) (hf 5 _ rfl) hxl
 obtain ⟨v6, r6, b6⟩ := rf (ZmK Try.underlying4) (hf 6 _ rfl) hxl
 obtain ⟨v7, r7, b7⟩ := rf (ZpG m) (hf 7 _ rfl) hxl
 obtain ⟨v8, r8, b8⟩ := rf (ZaH Try.underlying40 (by kernel_rfl : Try.prog.cellsOf 153 = 8) (by decide) (fun _ => rfl) (fun k hk => (ZjP k))) (hf 8 _ rfl) hxl
 have q := Zb0 (Zas b0 (Zas b1 (Zas b2 (Zas b3 (Zas b4 (Zas b5 (Zas b6 (Zas b7 (Zcb b8)))))))))
 exact ⟨.mk v0 v1 v2 v3 v4 v5 v6 v7 v8, ⟨by rw [hcl]; kernel_rfl, (r0.at.app (r1.at.app (r2.at.app (r3.at.app (r4.at.app (r5.at.app (r6.at.app (r7.at.app r8.at))))))))⟩, q⟩
theorem ZpA (n : Nat) : RdN enc Try.prog W n 151 ZjJ := fun cs x hx => by
 obtain ⟨xs, m, rfl, rfl, hcl, hxl, hf⟩ := DataW.trod_struct Try.underlying151 hx
 obtain ⟨v0, r0, b0⟩ := rf (Zb1 Try.underlying3) (hf 0 _ rfl) hxl
 obtain ⟨v1, r1, b1⟩ := rf (Zb1 Try.underlying3) (hf 1 _ rfl) hxl
 have q := Zb0 (Zas b0 (Zcb b1))
 exact ⟨.mk v0 v1, ⟨by rw [hcl]; kernel_rfl, (r0.at.app r1.at)⟩, q⟩
theorem Zue (n : Nat) : RdN enc Try.prog W n 42 Zbs := fun cs x hx => by
 obtain ⟨xs, m, rfl, rfl, hcl, hxl, hf⟩ := DataW.trod_struct Try.underlying42 hx
 obtain ⟨v0, r0, b0⟩ := rf (Zb8 Try.underlying9) (hf 0 _ rfl) hxl
 obtain ⟨v1, r1, b1⟩ := rf (ZaH Try.underlying38 (by kernel_rfl : Try.prog.cellsOf 57 = 16) (by decide) (fun _ => rfl) (fun k hk => (Zv7 k))) (hf 1 _ rfl) hxl
 obtain ⟨v2, r2, b2⟩ := rf (ZaH Try.underlying39 (by kernel_rfl : Try.prog.cellsOf 151 = 2) (by decide) (fun _ => rfl) (fun k hk => (ZpA k))) (hf 2 _ rfl) hxl
 obtain ⟨v3, r3, b3⟩ := rf (ZaH Try.underlying31 (by kernel_rfl : Try.prog.cellsOf 9 = 1) (by decide) (fun _ => rfl) (fun k hk => (Zb8 Try.underlying9))) (hf 3 _ rfl) hxl
 obtain ⟨v4, r4, b4⟩ := rf (ZaH Try.underlying40 (by kernel_rfl : Try.prog.cellsOf 153 = 8) (by decide) (fun _ => rfl) (fun k hk => (ZjP k))) (hf 4 _ rfl) hxl
 have q := Zb0 (Zas b0 (Zas b1 (Zas b2 (Zas b3 (Zcb b4)))))
 exact ⟨.mk v0 v1 v2 v3 v4, ⟨by rw [hcl]; kernel_rfl, (r0.at.app (r1.at.app (r2.at.app (r3.at.app r4.at))))⟩, q⟩
theorem Ztl (n : Nat) : RdN enc Try.prog W n 161 ZxF := fun cs x hx => by
 obtain ⟨xs, m, rfl, rfl, hcl, hxl, hf⟩ := DataW.trod_struct Try.underlying161 hx
 obtain ⟨v0, r0, b0⟩ := rf (Zb8 Try.underlying9) (hf 0 _ rfl) hxl
 obtain ⟨v1, r1, b1⟩ := rf (Zb1 Try.underlying3) (hf 1 _ rfl) hxl
 obtain ⟨v2, r2, b2⟩ := rf (ZaH Try.underlying40 (by kernel_rfl : Try.prog.cellsOf 153 = 8) (by decide) (fun _ => rfl) (fun k hk => (ZjP k))) (hf 2 _ rfl) hxl
 have q := Zb0 (Zas b0 (Zas b1 (Zcb b2)))
 exact ⟨.mk v0 v1 v2, ⟨by rw [hcl]; kernel_rfl, (r0.at.app (r1.at.app r2.at))⟩, q⟩
theorem Zt8 (n : Nat) : RdN enc Try.prog W n 89 ZbX := fun cs x hx => by
 obtain ⟨xs, m, rfl, rfl, hcl, hxl, hf⟩ := DataW.trod_struct Try.underlying89 hx
 obtain ⟨v0, r0, b0⟩ := rf (Zb8 Try.underlying9) (hf 0 _ rfl) hxl
 obtain ⟨v1, r1, b1⟩ := rf (ZmK Try.underlying4) (hf 1 _ rfl) hxl
 obtain ⟨v2, r2, b2⟩ := rf (ZaH Try.underlying87 (by kernel_rfl : Try.prog.cellsOf 161 = 3) (by decide) (fun _ => rfl) (fun k hk => (Ztl k))) (hf 2 _ rfl) hxl
 obtain ⟨v3, r3, b3⟩ := rf (ZaH Try.underlying39 (by kernel_rfl : Try.prog.cellsOf 151 = 2) (by decide) (fun _ => rfl) (fun k hk => (ZpA k))) (hf 3 _ rfl) hxl
 obtain ⟨v4, r4, b4⟩ := rf (ZaH Try.underlying40 (by kernel_rfl : Try.prog.cellsOf 153 = 8) (by decide) (fun _ => rfl) (fun k hk => (ZjP k))) (hf 4 _ rfl) hxl
 have q := Zb0 (Zas b0 (Zas b1 (Zas b2 (Zas b3 (Zcb b4)))))
 exact ⟨.mk v0 v1 v2 v3 v4, ⟨by rw [hcl]; kernel_rfl, (r0.at.app (r1.at.app (r2.at.app (r3.at.app r4.at))))⟩, q⟩
theorem ZvR (n : Nat) : RdN enc Try.prog W n 164 ZxM := fun cs x hx => by
 obtain ⟨xs, m, rfl, rfl, hcl, hxl, hf⟩ := DataW.trod_struct Try.underlying164 hx
 obtain ⟨v0, r0, b0⟩ := rf (Zb8 Try.underlying9) (hf 0 _ rfl) hxl
 obtain ⟨v1, r1, b1⟩ := rf (Zb8 Try.underlying9) (hf 1 _ rfl) hxl
 obtain ⟨v2, r2, b2⟩ := rf (Zb8 Try.underlying9) (hf 2 _ rfl) hxl
 obtain ⟨v3, r3, b3⟩ := rf (Zb1 Try.underlying3) (hf 3 _ rfl) hxl
 obtain ⟨v4, r4, b4⟩ := rf (ZaH Try.underlying40 (by kernel_rfl : Try.prog.cellsOf 153 = 8) (by decide) (fun _ => rfl) (fun k hk => (ZjP k))) (hf 4 _ rfl) hxl
 have q := Zb0 (Zas b0 (Zas b1 (Zas b2 (Zas b3 (Zcb b4)))))
 exact ⟨.mk v0 v1 v2 v3 v4, ⟨by rw [hcl]; kernel_rfl, (r0.at.app (r1.at.app (r2.at.app (r3.at.app r4.at))))⟩, q⟩
theorem Ztz (n : Nat) : RdN enc Try.prog W n 149 Zcl := fun cs x hx => by
 obtain ⟨xs, m, rfl, rfl, hcl, hxl, hf⟩ := DataW.trod_struct Try.underlying149 hx
 obtain ⟨v0, r0, b0⟩ := rf (Zb8 Try.underlying9) (hf 0 _ rfl) hxl
 obtain ⟨v1, r1, b1⟩ := rf (ZaH Try.underlying147 (by kernel_rfl : Try.prog.cellsOf 164 = 5) (by decide) (fun _ => rfl) (fun k hk => (ZvR k))) (hf 1 _ rfl) hxl
 obtain ⟨v2, r2, b2⟩ := rf (ZaH Try.underlying40 (by kernel_rfl : Try.prog.cellsOf 153 = 8) (by decide) (fun _ => rfl) (fun k hk => (ZjP k))) (hf 2 _ rfl) hxl
 have q := Zb0 (Zas b0 (Zas b1 (Zcb b2)))
 exact ⟨.mk v0 v1 v2, ⟨by rw [hcl]; kernel_rfl, (r0.at.app (r1.at.app r2.at))⟩, q⟩
theorem ZuK (n : Nat) : RdN enc Try.prog W n 26 Zc5 := fun cs x hx => by
 obtain ⟨xs, m, rfl, rfl, hcl, hxl, hf⟩ := DataW.trod_struct Try.underlying26 hx
 obtain ⟨v0, r0, b0⟩ := rf (ZaH Try.underlying22 (by kernel_rfl : Try.prog.cellsOf 42 = 5) (by decide) (fun _ => rfl) (fun k hk => (Zue k))) (hf 0 _ rfl) hxl
 obtain ⟨v1, r1, b1⟩ := rf (ZaH Try.underlying23 (by kernel_rfl : Try.prog.cellsOf 89 = 5) (by decide) (fun _ => rfl) (fun k hk => (Zt8 k))) (hf 1 _ rfl) hxl
 obtain ⟨v2, r2, b2⟩ := rf (ZaH Try.underlying24 (by kernel_rfl : Try.prog.cellsOf 149 = 3) (by decide) (fun _ => rfl) (fun k hk => (Ztz k))) (hf 2 _ rfl) hxl
 have q := Zb0 (Zas b0 (Zas b1 (Zcb b2)))
 exact ⟨.mk v0 v1 v2, ⟨by rw [hcl]; kernel_rfl, (r0.at.app (r1.at.app r2.at))⟩, q⟩
end
end Go.Proofs.Ythhipejbnbochaa
namespace Go.Eng
set_option linter.all false
open Go Go.RowKit
section
variable {σ ξ ρ α β γ : Type}
def Zjo (g : β → α → β ⊕ ρ) : β → List α → β ⊕ ρ
 | b, [] => .inl b
 | b, x :: l => match g b x with
  | .inl b' => Zjo g b' l
  | .inr r => .inr r
theorem ZeC {B : σ → Option (Lv σ ξ ρ)} {N : Nat} (l : List α) (mk : Nat → β → σ) (I : Nat → β → Prop) (g : β → α → β ⊕ ρ) (e : β → ξ)
  (hs : ∀ i b x, l[i]? = some x → I i b → B (mk i b) = some (Sum.elim (fun b' => Lv.nx (mk (i + 1) b')) Lv.rt (g b x)) ∧ ∀ b', g b x = .inl b' → I (i + 1) b')
  (he : ∀ b, I l.length b → B (mk l.length b) = some (.ex (e b))) (b0 : β) (h0 : I 0 b0) (hN : l.length < N) : ZaG B N (mk 0 b0) = some (Sum.map e id (Zjo g b0 l)) := by
 suffices H : ∀ k i b N, i + k = l.length → I i b → k < N → ZaG B N (mk i b) = some (Sum.map e id (Zjo g b (l.drop i))) by
  have := H l.length 0 b0 N (by omega) h0 hN
  simpa using this
 intro k
 induction k with
 | zero =>
  intro i b N hi hI hN
  obtain ⟨N, rfl⟩ : ∃ m, N = m + 1 := ⟨N - 1, by omega⟩
  have : i = l.length := by omega
  subst this
  rw [ZaG, he b hI, Ybp]
  rfl
 | succ k ih =>
  intro i b N hi hI hN
  obtain ⟨N, rfl⟩ : ∃ m, N = m + 1 := ⟨N - 1, by omega⟩
  have hlt : i < l.length := by omega
  obtain ⟨h1, h2⟩ := hs i b l[i] (Yc hlt) hI
  rw [ZaG, h1, YV hlt, Zjo]
  cases hg : g b l[i] with
  | inl b' => exact ih (i + 1) b' N (by omega) (h2 b' hg) (by omega)
  | inr r => rfl
theorem Zen {B : Nat → Option (Lv Nat ξ ρ)} {N : Nat} (l : List α) (p : α → Bool) (f : Nat → ρ) (e : ξ)
  (hs : ∀ i x, l[i]? = some x → B i = some (if p x = true then .rt (f i) else .nx (i + 1))) (he : B l.length = some (.ex e)) (hN : l.length < N) :
  ZaG B N 0 = some (match l.findIdx? p with | some i => .inr (f i) | none => .inl e) := by
 suffices H : ∀ k i N, i + k = l.length → k < N → ZaG B N i = some (match (l.drop i).findIdx? p with | some j => .inr (f (i + j)) | none => .inl e) by
  have := H l.length 0 N (by omega) hN
  simpa using this
 intro k
 induction k with
 | zero =>
  intro i N hi hN
  obtain ⟨N, rfl⟩ : ∃ m, N = m + 1 := ⟨N - 1, by omega⟩
  have : i = l.length := by omega
  subst this
  rw [ZaG, he, Ybp]
  rfl
 | succ k ih =>
  intro i N hi hN
  obtain ⟨N, rfl⟩ : ∃ m, N = m + 1 := ⟨N - 1, by omega⟩
  have hlt : i < l.length := by omega
  rw [ZaG, hs i l[i] (Yc hlt), YV hlt, Yba]
  cases hp : p l[i] with
  | true => simp
  | false =>
   simp only [Yaj, if_false]
   rw [ih (i + 1) N (by omega) (by omega)]
   cases (List.drop (i + 1) l).findIdx? p with
   | none => rfl
   | some j => simp [Yx, Ybl 1 j]
theorem ZdA {g : β → α → β ⊕ ρ} (h : β → α → β) (hg : ∀ b x, g b x = .inl (h b x)) : ∀ (l : List α) (b : β), Zjo g b l = .inl (l.foldl h b)
 | [], b => rfl
 | x :: l, b => by rw [Zjo, hg]; exact ZdA h hg l _
def Zfj (R : List α → α → Option ρ) : List α → List α → Option ρ
 | _, [] => none
 | p, x :: l => match R p x with
  | some r => some r
  | none => Zfj R (p ++ [x]) l
theorem ZoO {B : σ → Option (Lv σ ξ ρ)} {N : Nat} (l : List α) (S : List α → β) (R : List α → α → Option ρ) (mk : Nat → β → σ) (e : β → ξ)
  (hs : ∀ i x, l[i]? = some x → B (mk i (S (l.take i))) = some (match R (l.take i) x with | some r => .rt r | none => .nx (mk (i + 1) (S (l.take i ++ [x])))))
  (he : B (mk l.length (S l)) = some (.ex (e (S l)))) (hN : l.length < N) : ZaG B N (mk 0 (S [])) = some ((Zfj R [] l).elim (.inl (e (S l))) .inr) := by
 suffices H : ∀ k i N, i + k = l.length → k < N → ZaG B N (mk i (S (l.take i))) = some ((Zfj R (l.take i) (l.drop i)).elim (.inl (e (S l))) .inr) by
  have := H l.length 0 N (by omega) hN
  grind
 intro k
 induction k with
 | zero =>
  intro i N hi hN
  obtain ⟨N, rfl⟩ : ∃ m, N = m + 1 := ⟨N - 1, by omega⟩
  have : i = l.length := by omega
  subst this
  rw [ZaG, List.take_length, he, Ybp]
  rfl
 | succ k ih =>
  intro i N hi hN
  obtain ⟨N, rfl⟩ : ∃ m, N = m + 1 := ⟨N - 1, by omega⟩
  have hlt : i < l.length := by omega
  rw [ZaG, hs i l[i] (Yc hlt), YV hlt, Zfj]
  cases R (l.take i) l[i] with
  | some r => rfl
  | none =>
   have := ih (i + 1) N (by omega) (by omega)
   rw [YG hlt] at this
   exact this
theorem Zet {R : List α → α → Option ρ} (h : ∀ p x, R p x = none) : ∀ (l p : List α), Zfj R p l = none
 | [], p => rfl
 | x :: l, p => by rw [Zfj, h]; exact Zet h l _
theorem ZgQ {B : σ → Option (Lv σ ξ ρ)} {N : Nat} (l : List α) (S : List α → β) (mk : Nat → β → σ) (e : β → ξ)
  (hs : ∀ i x, l[i]? = some x → B (mk i (S (l.take i))) = some (.nx (mk (i + 1) (S (l.take i ++ [x])))))
  (he : B (mk l.length (S l)) = some (.ex (e (S l)))) (hN : l.length < N) : ZaG B N (mk 0 (S [])) = some (.inl (e (S l))) := by
 rw [ZoO l S (fun _ _ => none) mk e hs he hN, Zet fun _ _ => rfl]
 rfl
theorem ZbP {B : σ → Option (Lv σ ξ ρ)} (I : Nat → σ → Prop) (Q : ξ ⊕ ρ → Prop)
  (h : ∀ k v, I k v → ∃ o, B v = some o ∧ match o with | .nx v' => ∃ k', k' < k ∧ I k' v' | .ex b => Q (.inl b) | .rt y => Q (.inr y)) :
  ∀ N k v, k < N → I k v → ∃ o, ZaG B N v = some o ∧ Q o
 | 0, k, v, hk, _ => absurd hk (Yar _)
 | N + 1, k, v, hk, hI => by
  obtain ⟨o, h1, h2⟩ := h k v hI
  rw [ZaG, h1]
  cases o with
  | nx v' => obtain ⟨k', h3, h4⟩ := h2; exact ZbP I Q h N k' v' (by omega) h4
  | ex b => exact ⟨_, rfl, h2⟩
  | rt y => exact ⟨_, rfl, h2⟩
theorem Zfb {l : List α} {i : Nat} {x : α} (h : l[i]? = some x) : (i : Int) < (l.length : Int) := by
 grind
theorem Zbl {n : Nat} (h : n < 4611686018427387904) : n < big := h
end
end Go.Eng
namespace Go.Eng
set_option linter.all false
open Go
section
variable {σ ξ ρ β γ : Type}
def Zfa (M : Option (List β)) (Q : β → Prop) : Prop := ∃ ys, M = some ys ∧ ys ≠ [] ∧ ∀ y ∈ ys, Q y
theorem Zfa.imp {M : Option (List β)} {Q R : β → Prop} (h : Zfa M Q) (k : ∀ y, Q y → R y) : Zfa M R := by
 obtain ⟨ys, a, b, c⟩ := h
 exact ⟨ys, a, b, fun y hy => k y (c y hy)⟩
theorem ZaT {y : β} {Q : β → Prop} (h : Q y) : Zfa (some [y]) Q := ⟨[y], rfl, by simp, fun z hz => by rw [YO.1 hz]; exact h⟩
theorem ZeN {Q : β → Prop} : ∀ {l : List (Option (List β))}, l ≠ [] → (∀ x ∈ l, Zfa x Q) → Zfa (Ze2 l) Q
 | [], h, _ => absurd rfl h
 | x :: r, _, h => by
  obtain ⟨ys, rfl, b, c⟩ := h _ (Yv ..)
  by_cases hr : r = []
  ·subst hr
   exact ⟨ys ++ [], rfl, by simpa using b, fun y hy => c y (by simpa using hy)⟩
  ·obtain ⟨zs, a', b', c'⟩ := ZeN hr fun x hx => h x (Yt _ hx)
   refine ⟨ys ++ zs, by rw [Ze2, a'], by simp [b], fun y hy => ?_⟩
   rcases Y5.1 hy with hy | hy
   ·exact c y hy
   ·exact c' y hy
theorem Zck {M : Option (List γ)} {k : γ → Option (List β)} {Q : γ → Prop} {R : β → Prop} (h : Zfa M Q) (hk : ∀ z, Q z → Zfa (k z) R) : Zfa (ZdZ M k) R := by
 obtain ⟨ys, rfl, b, c⟩ := h
 show Zfa (Ze2 (ys.map k)) R
 refine ZeN (by simpa using b) fun x hx => ?_
 obtain ⟨y, hy, rfl⟩ := Yq.1 hx
 exact hk y (c y hy)
theorem ZsC {os : Nat} {V : Type} [Mv V] {xs : List (ByteArray × V)} {k0 : PT os (List β)} {k1 : ByteArray × V → List (ByteArray × V) → PT os (List β)} {Q : β → Prop}
  (h0 : xs = [] → Zfa k0.m Q) (h1 : ∀ i x, xs[i]? = some x → Zfa (k1 x (xs.eraseIdx i)).m Q) : Zfa (nxN xs k0 k1).m Q := by
 cases xs with
 | nil => exact h0 rfl
 | cons a r =>
  show Zfa (Ze2 _) Q
  refine ZeN (by simp) fun x hx => ?_
  obtain ⟨i, hi, rfl⟩ := Yq.1 hx
  have hi := Y9.1 hi
  have e : (a :: r)[i]? = some ((a :: r)[i]) := Yc hi
  have e2 : (a :: r).getD i (⟨#[]⟩, Mv.z) = (a :: r)[i] := by rw [YQ, e]; rfl
  rw [e2]
  exact h1 i _ e
theorem ZcS {B : σ → Option (List (Lv σ ξ ρ))} (I : Nat → σ → Prop) (Q : ξ ⊕ ρ → Prop)
  (h : ∀ k v, I k v → Zfa (B v) fun o => match o with | .nx v' => ∃ k', k' < k ∧ I k' v' | .ex b => Q (.inl b) | .rt y => Q (.inr y)) :
  ∀ N k v, k < N → I k v → Zfa (Zdn B N v) Q
 | 0, k, v, hk, _ => absurd hk (Yar _)
 | N + 1, k, v, hk, hI => by
  rw [Zdn]
  refine Zck (h k v hI) fun o ho => ?_
  cases o with
  | nx v' => obtain ⟨k', h3, h4⟩ := ho; exact ZcS I Q h N k' v' (by omega) h4
  | ex b => exact ZaT ho
  | rt y => exact ZaT ho
end
section
variable {V : Type}
def Zbx (r : List (ByteArray × V)) : List ByteArray := r.map (·.1)
theorem ZbM (x y : ByteArray) (v : V) : ∀ r : List (ByteArray × V), Zbu y (Zb2 x v r) = if x = y then some v else Zbu y r
 | [] => by
  unfold Zb2 Zbu
  by_cases h : x = y <;> simp [h, Zbu]
 | p :: r => by
  unfold Zb2
  by_cases h : p.1 = x
  ·rw [show decide (p.1 = x) = true from decide_eq_true h]
   show Zbu y ((x, v) :: r) = _
   unfold Zbu
   by_cases h2 : x = y
   ·simp [h2]
   ·simp [h2, show ¬ p.1 = y from fun h3 => h2 (h.symm.trans h3)]
  ·rw [show decide (p.1 = x) = false from decide_eq_false h]
   show Zbu y (p :: Zb2 x v r) = _
   unfold Zbu
   rw [ZbM x y v r]
   by_cases h2 : p.1 = y
   ·simp [h2, show ¬ x = y from fun h3 => h (h2.trans h3.symm)]
   ·simp [h2]
theorem Zgb (x : ByteArray) (v : V) : ∀ r : List (ByteArray × V), (x ∈ Zbx r ∧ Zbx (Zb2 x v r) = Zbx r) ∨ (x ∉ Zbx r ∧ Zbx (Zb2 x v r) = Zbx r ++ [x])
 | [] => .inr ⟨by simp [Zbx], rfl⟩
 | p :: r => by
  have ih := Zgb x v r
  unfold Zb2
  by_cases h : p.1 = x
  ·rw [show decide (p.1 = x) = true from decide_eq_true h]
   exact .inl ⟨by unfold Zbx; simp [h], by unfold Zbx; simp [h]⟩
  ·rw [show decide (p.1 = x) = false from decide_eq_false h]
   have h2 : ¬ x = p.1 := fun e => h e.symm
   show (x ∈ p.1 :: Zbx r ∧ p.1 :: Zbx (Zb2 x v r) = p.1 :: Zbx r) ∨ (x ∉ p.1 :: Zbx r ∧ p.1 :: Zbx (Zb2 x v r) = p.1 :: Zbx r ++ [x])
   rcases ih with ⟨h3, h4⟩ | ⟨h3, h4⟩
   ·exact .inl ⟨Yt _ h3, by rw [h4]⟩
   ·exact .inr ⟨fun hm => (Yr.1 hm).elim h2 h3, by rw [h4]; rfl⟩
theorem Zmv (x : ByteArray) (v : V) {r : List (ByteArray × V)} (h : (Zbx r).Nodup) : (Zbx (Zb2 x v r)).Nodup := by
 rcases Zgb x v r with ⟨_, e⟩ | ⟨hx, e⟩
 ·rw [e]; exact h
 ·rw [e, Ybf]
  exact ⟨h, by simp, fun a ha b hb => by simp at hb; subst hb; exact fun e => hx (e ▸ ha)⟩
theorem ZcA (x : ByteArray) : ∀ r : List (ByteArray × V), x ∈ Zbx r ↔ (Zbu x r).isSome = true
 | [] => by simp [Zbx, Zbu]
 | p :: r => by
  have ih := ZcA x r
  unfold Zbu
  by_cases h : p.1 = x
  ·simp [Zbx, h]
  ·have h2 : ¬ x = p.1 := fun e => h e.symm
   simp only [h, decide_false, Zbx, YS, Yr, h2, false_or]
   exact ih
theorem Zqs (x : ByteArray) (v : V) (r : List (ByteArray × V)) : (Zb2 x v r).length ≤ r.length + 1 := by
 have e : ∀ r : List (ByteArray × V), r.length = (Zbx r).length := fun r => (Yp _).symm
 rw [e, e r]
 rcases Zgb x v r with ⟨_, e⟩ | ⟨_, e⟩ <;> rw [e] <;> simp
theorem Zl4 {x : ByteArray} {v : V} : ∀ {r : List (ByteArray × V)}, (Zbx r).Nodup → (x, v) ∈ r → Zbu x r = some v
 | p :: r, hn, h => by
  simp only [Zbx, YS, Ybt] at hn
  unfold Zbu
  rcases Yr.1 h with rfl | h
  ·simp
  ·have : ¬ p.1 = x := fun e => hn.1 (e ▸ Yq.2 ⟨_, h, rfl⟩)
   simp only [this, decide_false]
   exact Zl4 hn.2 h
end
def Zr1 (s : Scm) (n : ByteArray) : Option Msg := s.messages.find? fun m => decide (m.name = n)
def isM (s : Scm) (n : ByteArray) : Bool := (Zr1 s n).isSome
def isE (s : Scm) (n : ByteArray) : Bool := s.enums.any fun e => decide (e.name = n)
def Zbm (s : Scm) (n : ByteArray) : List Fld := ((Zr1 s n).map Msg.fields).getD []
def toF (s : Scm) (f : Fld) : Bool := isM s f.type.name && decide (f.type.kind = 10)
def ldF (s : Scm) (f : Fld) : Bool := toF s f || (decide (f.type.kind = 9) && isE s f.type.name)
def ZbO (s : Scm) (n : ByteArray) : List ByteArray := ((Zbm s n).filter (toF s)).map fun f => f.type.name
def Ztg (s : Scm) (n : ByteArray) : List ByteArray := ((Zbm s n).filter (ldF s)).map fun f => f.type.name
structure Fw (s : Scm) : Prop where
 m : s.messages.length ≤ 8
 e : s.enums.length ≤ 8
 f : ∀ m ∈ s.messages, m.fields.length ≤ 10
theorem Fw.fl {s : Scm} (h : Fw s) (n : ByteArray) : (Zbm s n).length ≤ 10 := by
 unfold Zbm
 cases hm : Zr1 s n with
 | none => simp
 | some m => exact h.f m (List.mem_of_find?_eq_some hm)
theorem Fw.nl {s : Scm} (h : Fw s) (n : ByteArray) : (ZbO s n).length ≤ 10 := by
 unfold ZbO
 rw [Yp]
 exact Yac (List.length_filter_le _ _) (h.fl n)
theorem ZfR {s : Scm} {n x : ByteArray} (h : x ∈ ZbO s n) : isM s x = true := by
 unfold ZbO at h
 obtain ⟨f, hf, rfl⟩ := Yq.1 h
 have := (YJ.1 hf).2
 unfold toF at this
 exact (Yaf.1 this).1
def nmM (s : Scm) : List ByteArray := s.messages.map Msg.name
theorem Zdi {s : Scm} {n : ByteArray} : isM s n = true ↔ n ∈ nmM s := by
 unfold isM Zr1 nmM
 rw [List.find?_isSome]
 simp [Yq]
theorem Zq0 {s : Scm} {n : ByteArray} : isE s n = true ↔ n ∈ s.enums.map Enm.name := by
 unfold isE
 simp [YM, Yq]
structure WOk (s : Scm) (w : Web) : Prop where
 m : ∀ n, Zbu n w.messages = Zr1 s n
 e : ∀ n, lkM n w.enums = isE s n
 nd : (Zbx w.messages).Nodup
 l : w.messages.length ≤ s.messages.length
theorem WOk.im {s : Scm} {w : Web} (h : WOk s w) (n : ByteArray) : inM n w.messages = isM s n := by unfold inM isM; rw [h.m]
theorem WOk.fl {s : Scm} {w : Web} (h : WOk s w) (n : ByteArray) : (lkM n w.messages).fields = Zbm s n := by
 unfold lkM Zbm
 rw [h.m]
 cases Zr1 s n <;> rfl
theorem WOk.key {s : Scm} {w : Web} (h : WOk s w) (n : ByteArray) : n ∈ Zbx w.messages ↔ isM s n = true := by rw [ZcA, h.m]; rfl
end Go.Eng
namespace Go.Proofs.Ythhipejbnbochaa
set_option linter.all false
open Go Go.Eng
def wvM (l : List Msg) : List (ByteArray × Msg) := l.foldl (fun r m => if inM m.name r = true then r else Zb2 m.name m r) []
def wvE (l : List Enm) : List (ByteArray × Bool) := l.foldl (fun r e => Zb2 e.name true r) []
theorem Zii (l : List Msg) (m : Msg) : wvM (l ++ [m]) = if inM m.name (wvM l) = true then wvM l else Zb2 m.name m (wvM l) := by unfold wvM; rw [YaM]; rfl
theorem ZiM (l : List Enm) (e : Enm) : wvE (l ++ [e]) = Zb2 e.name true (wvE l) := by unfold wvE; rw [YaM]; rfl
theorem ZkX {α : Type} {P : List α → Prop} (h0 : P []) (h1 : ∀ l x, P l → P (l ++ [x])) (l : List α) : P l := by
 have : ∀ l : List α, P l.reverse := fun l => by
  induction l with
  | nil => exact h0
  | cons x l ih => rw [List.reverse_cons]; exact h1 _ _ ih
 simpa using this l.reverse
theorem ZtN (l : List Msg) : (∀ n, Zbu n (wvM l) = l.find? fun m => decide (m.name = n)) ∧ (Zbx (wvM l)).Nodup ∧ (wvM l).length ≤ l.length := by
 refine ZkX (P := fun l => (∀ n, Zbu n (wvM l) = l.find? fun m => decide (m.name = n)) ∧ (Zbx (wvM l)).Nodup ∧ (wvM l).length ≤ l.length) ⟨fun n => rfl, by simp [wvM, Zbx], Ye _⟩ (fun l m ⟨a, b, c⟩ => ?_) l
 rw [Zii]
 split
 ·rename_i h
  refine ⟨fun n => ?_, b, by simp; omega⟩
  rw [a, List.find?_append]
  cases hf : l.find? fun m => decide (m.name = n) with
  | some x => rfl
  | none =>
   have : ¬ m.name = n := fun e => by
    subst e
    unfold inM at h
    rw [a, hf] at h
    cases h
   simp [this]
 ·rename_i h
  refine ⟨fun n => ?_, Zmv _ _ b, Yac (Zqs ..) (by simp; omega)⟩
  rw [ZbM, List.find?_append, a]
  by_cases e : m.name = n
  ·subst e
   have : l.find? (fun x => decide (x.name = m.name)) = none := by
    unfold inM at h
    rw [a] at h
    simpa using h
   simp [this]
  ·simp only [e, if_false]
   cases l.find? fun m => decide (m.name = n) <;> simp [e]
theorem Zu4 (l : List Enm) (n : ByteArray) : lkM n (wvE l) = l.any fun e => decide (e.name = n) := by
 refine ZkX (P := fun l => lkM n (wvE l) = l.any fun e => decide (e.name = n)) rfl (fun l e ih => ?_) l
 rw [ZiM, List.any_append, ← ih]
 unfold lkM
 rw [ZbM]
 by_cases h : e.name = n <;> simp [h]
def Zxc (s : Scm) : Web := ⟨wvM s.messages, wvE s.enums⟩
theorem ZqR (s : Scm) : WOk s (Zxc s) := by
 obtain ⟨a, b, c⟩ := ZtN s.messages
 exact ⟨a, Zu4 s.enums, b, c⟩
theorem m32 {s : Scm} (h : Fw s) : Zcw s = some (Zxc s) := by
 have hm := h.m
 have he := h.e
 have q1 : ZaG (Zjy s) big (0, []) = some (.inl (wvM s.messages)) := by
  have := ZgQ (B := Zjy s) (N := big) s.messages wvM (fun i b => (i, b)) id (hN := Zbl (by omega)) (he := by simp [Zjy, ZoC, br, ix, vw, vs, ln, lxe, wa, mlk, mpu]) (hs := fun i x hx => by
   have g1 := Zfb hx
   have g0 := (Yg.1 hx).1
   have g2 : i + 1 < 9223372036854775808 := by omega
   dsimp only [Zjy, ZoC, br, ix, vw, vs, ln, lxe, wa, mlk, mpu]
   simp only [g1, g2, hx, decide_true, if_true, Option.bind_some, Zii]
   cases inM x.name (wvM (s.messages.take i)) <;> simp)
  exact this
 have q2 : ZaG (Zki s (wvM s.messages)) big (0, []) = some (.inl (wvE s.enums)) := by
  have := ZgQ (B := Zki s (wvM s.messages)) (N := big) s.enums wvE (fun i b => (i, b)) id (hN := Zbl (by omega)) (he := by simp [Zki, ZnF, br, ix, vw, vs, ln, lxe, wa, mpu]) (hs := fun i x hx => by
   have g1 := Zfb hx
   have g0 := (Yg.1 hx).1
   have g2 : i + 1 < 9223372036854775808 := by omega
   dsimp only [Zki, ZnF, br, ix, vw, vs, ln, lxe, wa, mpu]
   simp only [g1, g2, hx, decide_true, if_true, Option.bind_some, ZiM])
  exact this
 dsimp only [Zcw, Zrv, Zqq, Zsv, Zq9, vz, vw, lr, lc, eqL]
 rw [q1]
 simp only [Option.bind_some, Ya0, q2]
 rfl
section
variable {s : Scm} {w : Web} (hw : WOk s w) (h : Fw s)
include hw
theorem m62 (f : Fld) : Zcg w f = some (toF s f) := by
 dsimp only [Zcg, Zsm, vw, lr, mlk]
 rw [hw.im]
 rfl
include h
end
theorem ZeF {l r : List ByteArray} (h : l.Nodup) (hs : ∀ x ∈ l, x ∈ r) : l.length ≤ r.length := List.Nodup.length_le_of_subset h hs
theorem Zfs {α : Type} : ∀ {l : List α} {i : Nat} {x : α}, l[i]? = some x → (x :: l.eraseIdx i).Perm l
 | a :: l, 0, x, h => by simp at h; subst h; exact .refl _
 | a :: l, i + 1, x, h => by
  simp at h
  exact (List.Perm.swap ..).trans ((Zfs h).cons a)
inductive Rch (s : Scm) (a : ByteArray) : ByteArray → Prop
 | one {b : ByteArray} : b ∈ ZbO s a → Rch s a b
 | tl {b c : ByteArray} : Rch s a b → c ∈ ZbO s b → Rch s a c
theorem Rch.isM {s : Scm} {a b : ByteArray} (h : Rch s a b) : isM s b = true := by
 cases h with
 | one h => exact ZfR h
 | tl _ h => exact ZfR h
theorem Rch.trans {s : Scm} {a b c : ByteArray} (h : Rch s a b) (k : Rch s b c) : Rch s a c := by
 induction k with
 | one k => exact .tl h k
 | tl _ k ih => exact .tl ih k
theorem Rch.hd {s : Scm} {a b c : ByteArray} (h : b ∈ ZbO s a) (k : Rch s b c) : Rch s a c := (Rch.one h).trans k
structure ROk (s : Scm) (n : ByteArray) (r : List (ByteArray × Bool)) : Prop where
 i : ∀ x, lkM x r = true ↔ Rch s n x
 k : ∀ x, x ∈ Zbx r ↔ lkM x r = true
 nd : (Zbx r).Nodup
 l : r.length ≤ 8
structure RInv (s : Scm) (n : ByteArray) (todo : List ByteArray) (r : List (ByteArray × Bool)) : Prop where
 t : ∀ x ∈ todo, Rch s n x
 o : ∀ x, lkM x r = true → Rch s n x
 c0 : ∀ x ∈ ZbO s n, x ∈ todo ∨ lkM x r = true
 c : ∀ y, lkM y r = true → ∀ x ∈ ZbO s y, x ∈ todo ∨ lkM x r = true
 k : ∀ x, x ∈ Zbx r ↔ lkM x r = true
 nd : (Zbx r).Nodup
theorem ZfE {α : Type} (p : α → Bool) : ∀ l : List α, l.find? p = (l.findIdx? p).bind fun i => l[i]?
 | [] => rfl
 | x :: l => by
  rw [List.find?_cons, Yba]
  cases h : p x with
  | true => simp
  | false =>
   rw [ZfE p l]
   cases List.findIdx? p l <;> simp
theorem ZfC {α : Type} {p : α → Bool} : ∀ {l : List α}, (l.findIdx? p).isSome = l.any p
 | [] => rfl
 | x :: l => by
  rw [Yba, List.any_cons, ← ZfC (l := l)]
  cases p x <;> simp
def ixM (s : Scm) (n : ByteArray) : Option Nat := s.messages.findIdx? fun m => decide (m.name = n)
def ixE (s : Scm) (n : ByteArray) : Option Nat := s.enums.findIdx? fun m => decide (m.name = n)
def zM : Msg := ⟨⟨#[]⟩, [], [], [], []⟩
def zE : Enm := ⟨⟨#[]⟩, false, [], [], []⟩
def Zh8 (s : Scm) (n : ByteArray) : Msg × Int := (ixM s n).elim (zM, -1) fun i => (s.messages.getD i zM, (i : Int))
def Zte (s : Scm) (n : ByteArray) : Enm × Int := (ixE s n).elim (zE, -1) fun i => (s.enums.getD i zE, (i : Int))
theorem Zm3 (s : Scm) (n : ByteArray) : Zr1 s n = (ixM s n).bind fun i => s.messages[i]? := ZfE _ _
theorem Zpr {s : Scm} {n : ByteArray} {i : Nat} (h : ixM s n = some i) : i < s.messages.length := by
 unfold ixM at h
 rw [YaO] at h
 exact h.1
theorem ZnG (s : Scm) (n : ByteArray) : (ixM s n).isSome = isM s n := by
 unfold isM
 rw [Zm3]
 cases h : ixM s n with
 | none => rfl
 | some i => simp [Yc (Zpr h)]
theorem ZlD (s : Scm) (n : ByteArray) : (Zh8 s n).1.fields = Zbm s n := by
 unfold Zh8 Zbm
 rw [Zm3]
 cases h : ixM s n with
 | none => rfl
 | some i => simp [Yc (Zpr h), YQ]
theorem ZvK (s : Scm) (n : ByteArray) : decide (0 ≤ (Zh8 s n).2) = isM s n := by
 rw [← ZnG]
 unfold Zh8
 cases ixM s n with
 | none => rfl
 | some i => simp
theorem Zmo (s : Scm) (n : ByteArray) : decide ((Zh8 s n).2 < 0) = !isM s n := by
 rw [← ZvK]
 by_cases h : (Zh8 s n).2 < 0
 ·rw [decide_eq_true h, decide_eq_false (by omega)]; rfl
 ·rw [decide_eq_false h, decide_eq_true (by omega)]; rfl
theorem Zvo (s : Scm) (n : ByteArray) : decide (0 ≤ (Zte s n).2) = isE s n := by
 have e : (ixE s n).isSome = isE s n := ZfC
 rw [← e]
 unfold Zte
 cases ixE s n with
 | none => rfl
 | some i => simp
theorem Zvg (s : Scm) (n : ByteArray) : decide ((Zte s n).2 < 0) = !isE s n := by
 rw [← Zvo]
 by_cases h : (Zte s n).2 < 0
 ·rw [decide_eq_true h, decide_eq_false (by omega)]; rfl
 ·rw [decide_eq_false h, decide_eq_true (by omega)]; rfl
theorem m18 {s : Scm} (h : Fw s) (n : ByteArray) : ZaQ s n = some (Zh8 s n) := by
 have hm := h.m
 have q1 := Zen (B := Zll s n) (N := big) s.messages (fun m => decide (m.name = n)) (fun i => (s.messages.getD i zM, (i : Int))) () (fun i x hx => by
  have g1 := Zfb hx
  have g0 := (Yg.1 hx).1
  have g2 : i + 1 < 9223372036854775808 := by omega
  dsimp only [Zll, ZoB, br, ix, vz, vw, vs, lrt, ln, lxe, wa, eqL]
  simp only [g1, g2, hx, decide_true, if_true, Option.bind_some, YQ, Y6]
  cases decide (x.name = n) <;> simp) (by simp [Zll, ZoB, br, ix, vz, vw, vs, lrt, ln, lxe, wa, eqL]) (Zbl (by omega))
 dsimp only [ZaQ, Zst, ZrO, Zrt, vw, lr, lc]
 rw [q1]
 unfold Zh8 ixM
 cases s.messages.findIdx? fun m => decide (m.name = n) <;> rfl
theorem m46 {s : Scm} (h : Fw s) (n : ByteArray) : Za6 s n = some (Zte s n) := by
 have hm := h.e
 have q1 := Zen (B := Zlo s n) (N := big) s.enums (fun m => decide (m.name = n)) (fun i => (s.enums.getD i zE, (i : Int))) () (fun i x hx => by
  have g1 := Zfb hx
  have g0 := (Yg.1 hx).1
  have g2 : i + 1 < 9223372036854775808 := by omega
  dsimp only [Zlo, ZoY, br, ix, vz, vw, vs, lrt, ln, lxe, wa, eqL]
  simp only [g1, g2, hx, decide_true, if_true, Option.bind_some, YQ, Y6]
  cases decide (x.name = n) <;> simp) (by simp [Zlo, ZoY, br, ix, vz, vw, vs, lrt, ln, lxe, wa, eqL]) (Zbl (by omega))
 dsimp only [Za6, ZrJ, ZrV, ZrX, vw, lr, lc]
 rw [q1]
 unfold Zte ixE
 cases s.enums.findIdx? fun m => decide (m.name = n) <;> rfl
def Zkt (l : List ByteArray) (x : ByteArray) : Bool := l.any fun y => decide (y = x)
theorem ZbB {l : List ByteArray} {x : ByteArray} : Zkt l x = true ↔ x ∈ l := by
 unfold Zkt
 simp [YM]
theorem m27 {l : List ByteArray} (h : l.length < 4611686018427387904) (x : ByteArray) : Zbc l x = some (Zkt l x) := by
 have q1 := Zen (B := ZkG l x) (N := big) l (fun y => decide (y = x)) (fun i => true) () (fun i y hy => by
  have g1 := Zfb hy
  have g0 := (Yg.1 hy).1
  have g2 : i + 1 < 9223372036854775808 := by omega
  dsimp only [ZkG, ZoE, br, ix, vz, vs, lrt, ln, lxe, wa, eqL]
  simp only [g1, g2, hy, decide_true, if_true, Option.bind_some]
  cases decide (y = x) <;> simp) (by simp [ZkG, ZoE, br, ix, vz, vs, lrt, ln, lxe, wa, eqL]) (Zbl h)
 dsimp only [Zbc, Zro, ZrL, Zsp, lr, lc]
 rw [q1]
 unfold Zkt
 rw [← ZfC]
 cases l.findIdx? fun y => decide (y = x) <;> rfl
def ZbE (l : List ByteArray) (x : ByteArray) : List ByteArray := if Zkt l x = true then l else (l.takeWhile (fun y => sLt y x) ++ [x]) ++ l.drop (l.takeWhile fun y => sLt y x).length
theorem Zh3 {α : Type} (p : α → Bool) (l : List α) : l.drop (l.takeWhile p).length = l.dropWhile p := by
 conv => lhs; arg 2; rw [← Yak (p := p) (l := l)]
 rw [List.drop_left]
theorem ZgG (l : List ByteArray) (x : ByteArray) : (ZbE l x).length ≤ l.length + 1 := by
 unfold ZbE
 split
 ·omega
 ·rw [Zh3, Ym, Ym]
  have := congrArg List.length (Yak (p := fun y => sLt y x) (l := l))
  rw [Ym] at this
  simp
  omega
theorem Znj (l : List ByteArray) (x y : ByteArray) : y ∈ ZbE l x ↔ y = x ∨ y ∈ l := by
 unfold ZbE
 split
 ·rename_i h
  exact ⟨.inr, fun h2 => h2.elim (fun e => e ▸ ZbB.1 h) id⟩
 ·rw [Zh3]
  have h2 : y ∈ l ↔ y ∈ l.takeWhile (fun y => sLt y x) ∨ y ∈ l.dropWhile (fun y => sLt y x) := by
   conv => lhs; rw [← Yak (p := fun y => sLt y x) (l := l)]
   exact Y5
  rw [Y5, Y5, YO, h2]
  constructor
  ·rintro ((h | h) | h)
   ·exact .inr (.inl h)
   ·exact .inl h
   ·exact .inr (.inr h)
  ·rintro (h | h | h)
   ·exact .inl (.inr h)
   ·exact .inl (.inl h)
   ·exact .inr h
theorem Zpw {p : ByteArray → Bool} {x : ByteArray} : ∀ {l : List ByteArray}, x ∈ l.takeWhile p → p x = true
 | [], h => by cases h
 | y :: l, h => by
  rw [Ya2] at h
  split at h
  ·rename_i hy
   rcases Yr.1 h with rfl | h
   ·exact hy
   ·exact Zpw h
  ·cases h
theorem Znp {l : List ByteArray} (h : Asc l) (x : ByteArray) : Asc (ZbE l x) := by
 unfold ZbE
 split
 ·exact h
 ·rename_i hx
  have hs : x ∉ l := fun q => hx (ZbB.2 q)
  rw [Zh3, YR]
  have e := Yak (p := fun y => sLt y x) (l := l)
  have h' := h
  rw [← e] at h'
  obtain ⟨h1, h2, h3⟩ := List.pairwise_append.1 h'
  have t2 : ∀ y ∈ l.dropWhile (fun y => sLt y x), sLt x y = true := fun y hy => by
   cases hd : l.dropWhile (fun y => sLt y x) with
   | nil => rw [hd] at hy; cases hy
   | cons b r =>
    have hb : sLt b x = false := by
     have := List.head?_dropWhile_not (fun y => sLt y x) l
     rw [hd] at this
     simpa using this
    have hbl : b ∈ l := by
     rw [← e, hd]
     exact Yaz _ (Yv ..)
    have hsb : sLt x b = true := Zq3 hb fun e => hs (e ▸ hbl)
    rw [hd] at hy h2
    rcases Yr.1 hy with rfl | hy
    ·exact hsb
    ·exact ZpQ hsb (List.rel_of_pairwise_cons h2 hy)
  refine List.pairwise_append.2 ⟨h1, Yax.2 ⟨t2, h2⟩, fun a ha b hb => ?_⟩
  rcases Yr.1 hb with rfl | hb
  ·exact Zpw (p := fun y => sLt y b) ha
  ·exact h3 a ha b hb
theorem ZhN {α : Type} {p : α → Bool} : ∀ {l : List α} {i : Nat}, (∀ y ∈ l.take i, p y = true) → (∀ y, l[i]? = some y → p y = false) → l.takeWhile p = l.take i
 | [], i, _, _ => by simp
 | x :: l, 0, _, h => by rw [Ya2, h x rfl]; rfl
 | x :: l, i + 1, h1, h2 => by
  rw [Ya2, h1 x (by simp), List.take_succ_cons]
  simp only [if_true]
  rw [ZhN (i := i) (fun y hy => h1 y (by simp [hy])) (fun y hy => h2 y (by simpa using hy))]
theorem m53 {l : List ByteArray} (h : l.length ≤ 1000000) (x : ByteArray) : Za9 l x = some (ZbE l x) := by
 have q1 := ZbP (B := Zjs l x) (I := fun k v => k + v.2 = l.length ∧ v.1 = l.take v.2 ∧ ∀ y ∈ v.1, sLt y x = true) (Q := fun o => o = .inl (l.takeWhile fun y => sLt y x)) (fun k v hI => by
  obtain ⟨r, i⟩ := v
  obtain ⟨h1, h2, h3⟩ := hI
  simp only at h1 h2 h3
  subst h2
  have hl : (l.take i).length = i := by rw [YY]; omega
  cases hk : l[i]? with
  | none =>
   have hge := Y2.1 hk
   refine ⟨.ex (l.take i), by dsimp only [Zjs, ZkI, br, ix, ixg, vz, vw, vs, ln, lxe, ap, wa, fl, eqL]; simp [show ¬ (i : Int) < (l.length : Int) by omega], ?_⟩
   rw [ZhN h3 (fun y hy => by rw [hk] at hy; cases hy)]
  | some y =>
   have g1 := Zfb hk
   obtain ⟨g0, rfl⟩ := Yg.1 hk
   have g2 : i + 1 < 9223372036854775808 := by omega
   have e : l.getD i (Rw.z) = l[i] := by rw [YQ, hk]; rfl
   cases hy : sLt l[i] x with
   | false =>
    refine ⟨.ex (l.take i), by dsimp only [Zjs, ZkI, br, ix, ixg, vz, vw, vs, ln, lxe, ap, wa, fl, eqL]; simp [g1, g0, e, hy], ?_⟩
    rw [ZhN h3 (fun z hz => by rw [hk] at hz; cases hz; exact hy)]
   | true =>
    refine ⟨.nx (l.take i ++ [l[i]], i + 1), by dsimp only [Zjs, ZkI, br, ix, ixg, vz, vw, vs, ln, lxe, ap, wa, fl, eqL]; simp [g1, g0, g2, e, hy, hk, hl]; omega, k - 1, by omega, by simp only; omega, ?_, fun z hz => ?_⟩
    ·simp only
     rw [YG g0]
    ·rcases Y5.1 hz with q | q
     ·exact h3 z q
     ·rw [YO.1 q]; exact hy) big l.length ([], 0) (Zbl (by omega)) ⟨rfl, by simp, fun y hy => by cases hy⟩
 obtain ⟨o, e, rfl⟩ := q1
 have hlt : (l.takeWhile fun y => sLt y x).length ≤ l.length := (List.takeWhile_sublist _).length_le
 dsimp only [Za9, ZsN, ZsL, ZrD, ZsA, ZrK, br, vz, vw, lr, lc, ap, aq, cl, sL, fl, fr, eqN, Bd.c, Bd.vl]
 simp only [m27 (l := l) (by omega), Option.bind_some, e, Ya0]
 unfold ZbE
 cases Zkt l x with
 | true => rfl
 | false =>
  simp [hlt]
  exact ⟨by omega, by omega, Yaa (by rw [Yad]; exact Ye _)⟩
theorem ZfV (l a : List ByteArray) : (l.foldl ZbE a).length ≤ a.length + l.length := by
 induction l generalizing a with
 | nil => exact Ye _
 | cons x l ih => rw [Yal]; have := ih (ZbE a x); have := ZgG a x; simp; omega
theorem Ziq (l a : List ByteArray) (y : ByteArray) : y ∈ l.foldl ZbE a ↔ y ∈ l ∨ y ∈ a := by
 induction l generalizing a with
 | nil => simp
 | cons x l ih => rw [Yal, ih, Znj, Yr, or_assoc, or_left_comm]
theorem Zig {l a : List ByteArray} (h : Asc a) : Asc (l.foldl ZbE a) := by
 induction l generalizing a with
 | nil => exact h
 | cons x l ih => rw [Yal]; exact ih (Znp h x)
theorem Zje (l : List ByteArray) : l.foldl ZbE [] = Zhr l := (Zr7 (Zig .nil) fun x => by rw [Ziq]; simp).symm
theorem Zo3 (l : List ByteArray) : (Zhr l).length ≤ l.length := by rw [← Zje]; have := ZfV l []; simpa using this
theorem Zes {α ρ : Type} {B : List ByteArray × Nat → Option (Lv (List ByteArray × Nat) (List ByteArray) ρ)} (l : List α) (c : α → Option ByteArray) (a : List ByteArray) (ha : a.length + l.length ≤ 1000000)
  (hs : ∀ (i : Nat) b x, l[i]? = some x → b.length ≤ 1000000 → i + 1 < 9223372036854775808 → (i : Int) < (l.length : Int) → B (b, i) = some (.nx ((c x).elim b (ZbE b), i + 1))) (he : ∀ b, B (b, l.length) = some (.ex b)) : ZaG B big (a, 0) = some (.inl ((l.filterMap c).foldl ZbE a)) := by
 have := ZeC (B := B) (N := big) l (fun i b => (b, i)) (fun i b => b.length ≤ a.length + i) (fun b x => (.inl ((c x).elim b (ZbE b)) : List ByteArray ⊕ ρ)) id (fun i b x hx hI => by
  have hlt := (Yg.1 hx).1
  refine ⟨hs i b x hx (by omega) (by omega) (Zfb hx), fun b' e => ?_⟩
  cases e
  cases c x with
  | none => simp; omega
  | some y => have := ZgG b y; simp; omega) (fun b _ => he b) a (by omega) (Zbl (by omega))
 rw [this, ZdA (fun b x => (c x).elim b (ZbE b)) (fun _ _ => rfl)]
 congr 2
 clear this hs he ha
 show _ = _
 induction l generalizing a with
 | nil => rfl
 | cons x l ih =>
  rw [Yal, ih, List.filterMap_cons]
  cases c x <;> rfl
section
variable {s : Scm} (h : Fw s)
include h
theorem m19 (f : Fld) : ZaZ s f = some (if ldF s f = true then (f.type.name, true) else (⟨#[]⟩, false)) := by
 have e1 := Zmo s f.type.name
 have e2 := Zvg s f.type.name
 have hne : ¬ (10 : Int) = 9 := by decide
 unfold ldF toF
 dsimp only [ZaZ, ZrN, br, vw, lr, cl]
 simp only [m18 h, m46 h, Option.bind_some, e1, e2]
 by_cases h1 : f.type.kind = 10
 ·simp only [h1, hne, decide_true, decide_false, if_true, if_false, Bool.and_true, Bool.false_and, Ybb]
  cases isM s f.type.name <;> simp
 ·by_cases h2 : f.type.kind = 9
  ·simp only [h1, h2, decide_true, decide_false, if_true, if_false, Ybx, YbD, YaP]
   cases isE s f.type.name <;> simp
  ·simp [h1, h2]
omit h in
theorem Zpd {α β : Type} (p : α → Bool) (g : α → β) (l : List α) : l.filterMap (fun x => if p x = true then some (g x) else none) = (l.filter p).map g := by
 induction l with
 | nil => rfl
 | cons x l ih =>
  rw [List.filterMap_cons, List.filter_cons, ih]
  cases p x <;> rfl
theorem Ztk (f : Fld) : (ldF s f && decide (f.type.kind = 10)) = toF s f := by
 unfold ldF toF
 by_cases h1 : f.type.kind = 10
 ·simp [h1]
 ·simp [h1]
theorem m61 (n : ByteArray) : Za7 s n = some (Zhr (ZbO s n)) := by
 have hl := h.fl n
 have e := ZlD s n
 have q1 := Zes (B := ZlG s (Zh8 s n)) (Zbm s n) (fun f => if toF s f = true then some f.type.name else none) [] (by simp; omega) (fun i b x hx hb g2 g1 => by
  have g0 := (Yg.1 hx).1
  have e3 : (Zbm s n).getD i Rw.z = x := by rw [YQ, hx]; rfl
  have e4 := Ztk h x
  dsimp only [ZlG, ZnQ, br, ix, ixg, vz, vw, vs, v2, ln, lxe, cl, wa, eqL]
  simp only [e, g1, g2, hx, m19 h, decide_true, if_true, Option.bind_some, Int.toNat_natCast, e3]
  rw [← e4]
  cases hq : ldF s x with
  | true =>
   by_cases h2 : x.type.kind = 10
   ·simp [m53 hb, h2, g0]
   ·simp [h2, g0]
  | false => simp) (fun b => by dsimp only [ZlG, ZnQ, br, ix, ixg, vz, vw, vs, v2, ln, lxe, cl, wa, eqL]; simp [e])
 rw [Zpd] at q1
 dsimp only [Za7, ZrI, Zqr, Zsd, Zru, vz, vw, lr, lc, cl, fz]
 simp only [m18 h, Option.bind_some, q1, Ya0]
 rw [Zje]
 rfl
omit h in
theorem ZhL (g : ByteArray → List ByteArray) : ∀ (v a : List ByteArray), (Asc a → Asc (v.foldl (fun a y => (g y).foldl ZbE a) a)) ∧ ∀ x, x ∈ v.foldl (fun a y => (g y).foldl ZbE a) a ↔ x ∈ a ∨ ∃ y ∈ v, x ∈ g y
 | [], a => ⟨id, fun x => by simp⟩
 | y :: v, a => by
  obtain ⟨p, q⟩ := ZhL g v ((g y).foldl ZbE a)
  refine ⟨fun ha => p (Zig ha), fun x => ?_⟩
  rw [Yal, q, Ziq]
  simp only [Yr, exists_eq_or_imp, or_assoc, or_left_comm]
end
structure AOk (s : Scm) (ns : List ByteArray) (l : List ByteArray) : Prop where
 a : Asc l
 m : ∀ x, x ∈ l ↔ (x ∈ ns ∧ isM s x = true) ∨ ∃ y ∈ ns, isM s y = true ∧ Rch s y x
theorem AOk.len {s : Scm} (h : Fw s) {ns l : List ByteArray} (k : AOk s ns l) : l.length ≤ 8 := by
 have := ZeF (Zef k.a) (r := nmM s) fun x hx => Zdi.1 (by
  rcases (k.m x).1 hx with ⟨_, q⟩ | ⟨y, _, _, q⟩
  ·exact q
  ·exact q.isM)
 have h2 := h.m
 unfold nmM at this
 rw [Yp] at this
 omega
section
variable {s : Scm} (h : Fw s)
include h
structure ClOk (s : Scm) (ns : List ByteArray) (l : List ByteArray) : Prop where
 a : Asc l
 m : ∀ x, x ∈ l ↔ (x ∈ ns ∧ (isM s x = true ∨ isE s x = true)) ∨ ∃ n ∈ ns, isM s n = true ∧ (x ∈ Ztg s n ∨ ∃ y, Rch s n y ∧ x ∈ Ztg s y)
end
end Go.Proofs.Ythhipejbnbochaa
