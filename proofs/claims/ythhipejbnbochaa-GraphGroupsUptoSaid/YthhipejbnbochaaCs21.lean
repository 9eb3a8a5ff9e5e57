import Derived.Test.YthhipejbnbochaaCs11
import Derived.Test.YthhipejbnbochaaCs10
import Derived.Test.YthhipejbnbochaaRows
import Derived.WalkKit
import Derived.ProofKit
import Derived.OpenShut
import Derived.Carry
import Derived.Deep.DeepHandedRow
import Derived.Test.YthhipejbnbochaaCs12
import Derived.Test.YthhipejbnbochaaCs14
import Derived.Test.YthhipejbnbochaaCs15
import Derived.Test.YthhipejbnbochaaCs13
import Derived.Test.YthhipejbnbochaaCs20
import Derived.Test.YthhipejbnbochaaCs00
namespace Go.Proofs.Ythhipejbnbochaa
set_option linter.all false
open Go Go.Eng Go.ChangeShapes Go.WideShapes Go.ChangeAt Go.RowKit
theorem ZpW {H : Type} (b : List UInt8) : Rows.uptoBulk (DataW.lit (H := H) (.string b)) = b.length + 1 := by simp only [Rows.uptoBulk]
theorem ZkB {H : Type} (a b : List (DataW H)) : Rows.uptoBulk (.slice a b) = Rows.uptoBulkAll a + Rows.uptoBulkAll b + 1 := by simp only [Rows.uptoBulk]
theorem ZpF {H : Type} (a : List (DataW H)) : Rows.uptoBulk (.agg a) = Rows.uptoBulkAll a + 1 := by simp only [Rows.uptoBulk]
def Zhp (W : World) (ds : List D) (cs : List Value) (o : Nat) : Prop := ∀ (i : Nat) (d : D), ds[i]? = some d → ∃ c, cs[o + i]? = some c ∧ RepD W (· < W.heap.size) d c
def Zia (W : World) (ds : List D) (cs : List Value) : Prop := ds.length = cs.length ∧ Zhp W ds cs 0
theorem Zhp.app {W : World} {ds es : List D} {cs : List Value} {o : Nat} (h : Zhp W ds cs o) (k : Zhp W es cs (o + ds.length)) : Zhp W (ds ++ es) cs o := fun i d hi => by
 rcases Yt i ds.length with hl | hl
 ·rw [Yi hl] at hi; exact h i d hi
 ·rw [Yp hl] at hi
  obtain ⟨c, h1, h2⟩ := k _ d hi
  grind
theorem Zhp.nil {W : World} {cs : List Value} {o : Nat} : Zhp W [] cs o := fun i d h => by simp at h
theorem Zia.at {W : World} {ds : List D} {cs : List Value} {o k : Nat} (h : Zia W ds ((cs.drop o).take k)) : Zhp W ds cs o := fun i d hi => by
 obtain ⟨c, h1, h2⟩ := h.2 i d hi
 grind
mutual
def bk : D → Nat
 | .int _ _ => 0
 | .bool _ => 0
 | .str s => s.size
 | .list es => Zt5 es
 | .map _ es => Zt5 es
def bkL : List D → Nat
 | [] => 0
 | d :: l => bk d + bkL l
def Zt5 : List (List D) → Nat
 | [] => 0
 | e :: l => bkL e + 1 + Zt5 l
end
theorem Zl2 : ∀ a b : List D, bkL (a ++ b) = bkL a + bkL b
 | [], b => by rw [Yak, bkL, Yy]
 | d :: a, b => by rw [YaY, bkL, bkL, Zl2 a b, Yv]
theorem ZmG (d : D) : bkL [d] = bk d := by rw [bkL, bkL, Yad]
theorem ZqS {α : Type} {e : α → List D} : ∀ l : List α, l.length ≤ Zt5 (l.map e)
 | [] => Yax _
 | x :: l => by have := ZqS (e := e) l; rw [YT, Zt5, Y5]; omega
section
variable {H : Type} (enc : TypeId × Value → H) (P : Program) (W : World)
def RdN {α : Type} (n : Nat) (t : TypeId) (e : α → List D) : Prop :=
 ∀ cs x, DataW.trod enc P W 0 (fun _ => true) true n t cs = some x → ∃ v : α, Zia W (e v) cs ∧ bkL (e v) + 1 ≤ Rows.uptoBulk x.1
end
section
variable {H : Type} {enc : TypeId × Value → H} {P : Program} {W : World} {n : Nat} {t : TypeId}
theorem Zgc (d : DataW H) : 1 ≤ Rows.uptoBulk d := by cases d <;> (try (rename_i l; cases l)) <;> simp [Rows.uptoBulk]
theorem ZcX {d : D} {c : Value} (h : RepD W (· < W.heap.size) d c) : Zia W [d] [c] := ⟨rfl, fun i d' hi => by
 cases i with
 | zero => cases hi; exact ⟨c, rfl, h⟩
 | succ i => simp at hi⟩
theorem Zb6 {k : IntKind} (ht : P.underlying t = some (.int k)) : RdN enc P W n t (fun v : Int => [.int k v]) := fun cs x hx => by
 obtain ⟨m, rfl, rfl, _⟩ := DataW.trod_int ht hx
 exact ⟨m, ZcX (.int _ _), Zgc _⟩
theorem ZlZ (ht : P.underlying t = some .bool) : RdN enc P W n t (fun v : Bool => [.bool v]) := fun cs x hx => by
 obtain ⟨m, rfl, rfl⟩ := DataW.trod_bool ht hx
 exact ⟨m, ZcX (.bool _), Zgc _⟩
theorem Zb7 (ht : P.underlying t = some .string) : RdN enc P W n t (fun v : ByteArray => [.str v]) := fun cs x hx => by
 obtain ⟨m, rfl, rfl, _⟩ := DataW.trod_string ht hx
 refine ⟨m, ZcX (.str _), ?_⟩
 rw [ZpW, ZmG]
 exact Yg _
theorem Zqt {α : Type} {e : α → List D} : ∀ (l : List α) (xs : List (DataW H × List MemPlace)), l.length = xs.length → (∀ (i : Nat) (v : α), l[i]? = some v → ∃ y : DataW H × List MemPlace, xs[i]? = some y ∧ bkL (e v) + 1 ≤ Rows.uptoBulk y.1) → Zt5 (l.map e) ≤ Rows.uptoBulkAll (xs.map (·.1))
 | [], _, _, _ => Yax _
 | x :: l, [], h, _ => by cases h
 | x :: l, y :: xs, h, k => by
  have := Zqt l xs (Ya6 h) (fun i v hi => k (i + 1) v hi)
  obtain ⟨y', h1, h2⟩ := k 0 x rfl
  cases h1
  rw [YT, YT, Zt5]
  simp only [Rows.uptoBulkAll]
  omega
theorem Zla {α : Type} {Q : Nat → α → Prop} : ∀ (len : Nat), (∀ i, i < len → ∃ v, Q i v) → ∃ l : List α, l.length = len ∧ ∀ i v, l[i]? = some v → Q i v
 | 0, _ => ⟨[], rfl, fun i v h => by simp at h⟩
 | len + 1, h => by
  obtain ⟨l, h1, h2⟩ := Zla len (fun i hi => h i (by omega))
  obtain ⟨v, hv⟩ := h len (by omega)
  refine ⟨l ++ [v], by simp [h1], fun i w hi => ?_⟩
  grind
theorem ZaK {α : Type} {e : TypeId} {enc' : α → List D} {sz : Nat} (ht : P.underlying t = some (.slice e)) (hsz : P.cellsOf e = sz) (hs0 : sz ≠ 0) (hl : ∀ x, (enc' x).length = sz) (h : ∀ m, m < n → RdN enc P W m e enc') :
  RdN enc P W n t (fun l : List α => [.list (l.map enc')]) := fun cs x hx => by
 rcases DataW.trod_slice ht hx with ⟨rfl, rfl⟩ | ⟨a, len, cap, elems, rest, m, rfl, rfl, rfl, hb, hlc, hcm, hel, hi, _, _⟩
 ·exact ⟨[], ZcX .nil, Zgc _⟩
 ·have each : ∀ i, i < len → ∃ v : α, ∃ y cs', elems[i]? = some y ∧ W.cells? 0 (a.add (i * sz)) sz = some cs' ∧ Zia W (enc' v) cs' ∧ bkL (enc' v) + 1 ≤ Rows.uptoBulk y.1 := fun i hlt => by
   have h1 := hi i hlt
   rw [Yd (by omega), hsz] at h1
   obtain ⟨cs', h2, h3⟩ := Ybx.1 h1
   obtain ⟨v, h4, h5⟩ := h m (by omega) cs' _ h3
   exact ⟨v, _, cs', Yd (by omega), h2, h4, h5⟩
  obtain ⟨l, hll, hlq⟩ := Zla len each
  have cell : ∀ (i j : Nat) (e' : List D) (x : D), (l.map enc')[i]? = some e' → e'[j]? = some x → ∃ c, W.cell? (a.add (i * sz + j)) = some c ∧ RepD W (· < W.heap.size) x c := fun i j e' x hi' hj => by
   rw [Ys] at hi'
   cases hv : l[i]? with
   | none => rw [hv] at hi'; cases hi'
   | some v =>
    rw [hv] at hi'
    cases hi'
    obtain ⟨y, cs', g1, g2, g3, g4⟩ := hlq i v hv
    obtain ⟨c, g5, g6⟩ := g3.2 j x hj
    rw [Yy] at g5
    obtain ⟨_, g7, g8⟩ := World.cells?_some g2
    have hjl : j < sz := by
     rw [← hl v]
     rcases Yt j (enc' v).length with h | h
     ·exact h
     ·rw [YC h] at hj; cases hj
    refine ⟨c, ?_, g6⟩
    rw [← Go.Eng.add_add, g8 j hjl, g5]
  refine ⟨l, ZcX ?_, ?_⟩
  ·have hlen : (l.map enc').length = len := by simp [hll]
   have := RepD.list (w := W) (S := (· < W.heap.size)) (l.map enc') a sz cap (fun i j => (W.cell? (a.add (i * sz + j))).getD undef) (fun hne => by
     have h0 : 0 < len := by
      rcases Ybj len with h | h
      ·exact absurd (YF (hlen.trans h)) hne
      ·exact h
     obtain ⟨v, y, cs', _, g2, _⟩ := each 0 h0
     have := World.cells?_block g2 (by omega)
     rw [Yae] at this
     rw [← Go.Eng.block_add a 0]; exact this)
    (by rw [hlen]; exact hlc) (fun e' he => by obtain ⟨y, _, rfl⟩ := Yr.1 he; exact hl y)
    (fun i j e' x hi' hj => by obtain ⟨c, g1, _⟩ := cell i j e' x hi' hj; rw [g1]; rfl)
    (fun i j e' x hi' hj => by obtain ⟨c, g1, g2⟩ := cell i j e' x hi' hj; rw [g1]; exact g2)
   rw [hlen] at this
   exact this
  ·rw [ZkB, ZmG, bk]
   have := Zqt (e := enc') l elems (by omega) (fun i v hv => by
    obtain ⟨y, cs', g1, g2, g3, g4⟩ := hlq i v hv
    exact ⟨y, g1, g4⟩)
   omega
def FB (xs : List (DataW H × List MemPlace)) (i : Nat) : Nat := Rows.uptoBulkAll ((xs.drop i).map (·.1))
theorem Zaz {xs : List (DataW H × List MemPlace)} {i : Nat} {a b : List D} (h : bkL a + 1 + FB xs (i + 1) ≤ FB xs i) (k : bkL b ≤ FB xs (i + 1)) : bkL (a ++ b) ≤ FB xs i := by
 rw [Zl2]; omega
theorem Zca {xs : List (DataW H × List MemPlace)} {i : Nat} {a : List D} (h : bkL a + 1 + FB xs (i + 1) ≤ FB xs i) : bkL a ≤ FB xs i := by omega
theorem Zcf {xs : List (DataW H × List MemPlace)} {a : List D} (h : bkL a ≤ FB xs 0) : bkL a + 1 ≤ Rows.uptoBulk (.agg (xs.map (·.1))) := by
 rw [ZpF]; exact Nat.succ_le_succ h
theorem Zo3 {α : Type} {e : α → List D} {m i : Nat} {t' : TypeId} {piece : List Value} {xs : List (DataW H × List MemPlace)} (h : RdN enc P W m t' e) (hf : DataW.trod enc P W 0 (fun _ => true) true m t' piece = xs[i]?) (hi : i < xs.length) :
  ∃ v, Zia W (e v) piece ∧ bkL (e v) + 1 + FB xs (i + 1) ≤ FB xs i := by
 rw [Yd hi] at hf
 obtain ⟨v, h1, h2⟩ := h _ _ hf
 refine ⟨v, h1, ?_⟩
 unfold FB
 rw [Y6 hi, YT]
 simp only [Rows.uptoBulkAll]
 omega
theorem rf {α : Type} {e : α → List D} {m i k : Nat} {t' : TypeId} {piece : List Value} {xs : List (DataW H × List MemPlace)} (h : RdN enc P W m t' e) (hf : DataW.trod enc P W 0 (fun _ => true) true m t' piece = xs[i]?) (hx : xs.length = k) (hi : Nat.blt i k = true := by kernel_rfl) :
  ∃ v, Zia W (e v) piece ∧ bkL (e v) + 1 + FB xs (i + 1) ≤ FB xs i := Zo3 h hf (by rw [hx]; exact Yf hi)
theorem Zlo {α : Type} {e e' : α → List D} (he : ∀ x, e x = e' x) (h : RdN enc P W n t e') : RdN enc P W n t e := fun cs x hx => by
 obtain ⟨v, h1, h2⟩ := h cs x hx
 grind
theorem Zs1 {α : Type} {e : α → List D} {fs : Array Field} {r : Reach} {base : Nat} {v : Value} {d : DataW H} {p : List MemPlace} (rd : ∀ n, RdN enc P W n t e) (ht : P.underlying t = some (.struct fs)) (hv : Value.okWide P W r base t v)
  (h : DataW.Trod enc P W 0 (fun _ => true) true t v d p) : ∃ x : α, (∀ m l, RepA W (· < W.heap.size) (fun _ => ⟨0, false, 0, 0, []⟩) m l (.agg ((e x).map .d)) v) ∧ bkL (e x) + 1 ≤ Rows.uptoBulk d := by
 obtain ⟨cs, rfl, _⟩ := okWide_struct ht hv
 obtain ⟨n, hn⟩ := h
 obtain ⟨x, h1, h2⟩ := rd n _ _ hn
 have hl : (e x).length = cs.size := by rw [h1.1]; simp [Value.cells]
 have key : ∀ (i : Nat) (c : Value) , cs[i]? = some c → ∃ d, (e x)[i]? = some d ∧ RepD W (· < W.heap.size) d c := fun i c hc => by
  have hlt : i < (e x).length := by
   grind
  obtain ⟨c', h3, h4⟩ := h1.2 i _ (Yd hlt)
  have : c' = c := by
   rw [Yy] at h3
   have : cs.toList[i]? = some c' := h3
   grind
  grind
 refine ⟨x, fun m l => .agg _ _ (by rw [Yn, hl]) (fun i c hc => ?_) (fun i y c hy hc => ?_), h2⟩
 ·obtain ⟨d, _, h3⟩ := key i c hc; exact h3.one
 ·obtain ⟨d, h3, h4⟩ := key i c hc
  rw [Ys, h3] at hy
  cases hy
  exact .d _ _ h4
def Hp0 : Hp := fun _ => ⟨0, false, 0, 0, []⟩
theorem ok0 (m : Mu) : Ok 0 Hp0 m (· < W.heap.size) W := ⟨fun _ h => h, fun _ _ h => (by cases h), fun _ _ h => (by cases h), fun _ _ _ _ h => (by cases h), fun _ _ h => (by cases h), ⟨fun _ _ h => (by cases h), fun _ _ h => (by cases h), fun _ _ _ _ h => (by cases h)⟩⟩
def Zy2 (w : World) (S : Nat → Prop) (Hp : Hp) (m : Mu) (l : Nat) : List AV → List Value → Prop
 | [], [] => True
 | x :: xs, v :: vs => RepA w S Hp m l x v ∧ Zy2 w S Hp m l xs vs
 | _, _ => False
theorem Ztj {w : World} {S : Nat → Prop} {Hp : Hp} {m : Mu} {l : Nat} {xs : List AV} {vs : List Value} (h : Zy2 w S Hp m l xs vs) : Zdt w S Hp m l xs vs.toArray := by
 suffices hh : xs.length = vs.length ∧ ∀ (i : Nat) (x : AV) (v : Value), xs[i]? = some x → vs[i]? = some v → RepA w S Hp m l x v by
  exact ⟨by simpa using hh.1, fun i x v hx hv => hh.2 i x v hx (by simpa using hv)⟩
 induction xs generalizing vs with
 | nil => cases vs with
  | nil => exact ⟨rfl, fun i x v h => by simp at h⟩
  | cons _ _ => exact h.elim
 | cons x xs ih => cases vs with
  | nil => exact h.elim
  | cons v vs =>
   obtain ⟨h1, h2⟩ := ih h.2
   refine ⟨by simp [h1], fun i y u hy hu => ?_⟩
   cases i with
   | zero => simp at hy hu; subst hy; subst hu; exact h.1
   | succ i => exact h2 i y u (by simpa using hy) (by simpa using hu)
theorem ZmJ {f : Func} {s : ChangeSpec} {W' : World} {args : Array Value} {ds gs : List (DataW H)} {before : List MemPlace} {u : TypeId} (hW : DataW.Whole enc P f.params.toList s.vars false W args.toList ds gs before) (hvars : s.vars = [])
  (hlaid : laidOutB P = true) (hrd : ∀ t ∈ f.params.toList, P.readableRec t = true ∧ t < P.types.size) (hres : f.resultTypes.toList = [u]) (hu : P.underlying u = some .bool)
  (hfn : s.fn H (ds ++ gs) = { results := [.lit (.bool true)], args := ds }) (hb : Below W.heap.size W W') : s.post enc P f false true false false W args (.bool true) W' := by
 obtain ⟨p, q, hA, hV, rfl, hfz, hnd⟩ := id hW
 rw [hvars] at hV
 obtain ⟨rfl, rfl⟩ := trodVars_none hV
 refine ⟨ds, [], p ++ [], [], p, [], hW, ?_, ?_, ?_, ?_, fun h => by cases h⟩
 ·rw [hfn, hres]
  have : (Value.bool true).resultList f.resultTypes.size = [.bool true] := by
   have : f.resultTypes.size = 1 := by rw [← Y3, hres]; rfl
   rw [this]; rfl
  rw [this]
  exact trodAll_cons_mk (shut_bool hu _) trodAll_mk0
 ·rw [hfn]
  have key : ∀ (ts : List TypeId) (vs : List Value) (es : List (DataW H)) (ps : List MemPlace), (∀ t ∈ ts, P.readableRec t = true ∧ t < P.types.size) → DataW.TrodAll enc P W 0 (fun _ => true) true ts vs es ps →
    DataW.TrodAll enc P W' 0 (fun b => decide (b < W.heap.size)) true ts vs es ps := by
   intro ts
   induction ts with
   | nil => intro vs es ps _ h; obtain ⟨rfl, rfl, rfl⟩ := trodAll_nil h; exact trodAll_mk0
   | cons t ts ih =>
    intro vs es ps hr h
    have hlt := DataW.TrodAll.lt h
    obtain ⟨v, vs1, d, ds1, a, b, rfl, rfl, rfl, h1, h2⟩ := trodAll_cons h
    exact trodAll_cons_mk (Below.trod hlaid (hr t (by simp)).1 (hr t (by simp)).2 h1 hb (fun x hx => hlt x (YN _ hx))) (ih _ _ _ (fun t ht => hr t (by simp [ht])) h2)
  exact key _ _ _ _ hrd hA
 ·rw [hvars, hfn]; exact rfl
 ·refine ⟨hb.os, hb.output, fun i hi => ?_⟩
  rw [hb.block i hi]
  cases W.heap[i]? with
  | none => rfl
  | some o => cases o <;> simp
end
end Go.Proofs.Ythhipejbnbochaa
namespace Go.Proofs.Ythhipejbnbochaa
set_option linter.all false
open Go Go.Eng
section
variable {H : Type} {enc : TypeId × Value → H} {W : World}
set_option maxRecDepth 100000
theorem Zww (n : Nat) : RdN enc Try.prog W n 159 Zpp := fun cs x hx => by
 obtain ⟨xs, m, rfl, rfl, hcl, hxl, hf⟩ := DataW.trod_struct Try.underlying159 hx
 obtain ⟨v0, r0, b0⟩ := rf (Zb6 Try.underlying3) (hf 0 _ rfl) hxl
 obtain ⟨v1, r1, b1⟩ := rf (Zb6 Try.underlying3) (hf 1 _ rfl) hxl
 obtain ⟨v2, r2, b2⟩ := rf (Zb6 Try.underlying49) (hf 2 _ rfl) hxl
 obtain ⟨v3, r3, b3⟩ := rf (Zb7 Try.underlying9) (hf 3 _ rfl) hxl
 have q := Zcf (Zaz b0 (Zaz b1 (Zaz b2 (Zca b3))))
 exact ⟨.mk v0 v1 v2 v3, ⟨by rw [hcl]; kernel_rfl, (r0.at.app (r1.at.app (r2.at.app r3.at)))⟩, q⟩
theorem Zp2 (n : Nat) (h : ∀ k, k < n → RdN enc Try.prog W k 55 ZtW) : RdN enc Try.prog W n 155 ePr := fun cs x hx => by
 obtain ⟨xs, m, rfl, rfl, hcl, hxl, hf⟩ := DataW.trod_struct Try.underlying155 hx
 obtain ⟨v0, r0, b0⟩ := rf (h m (by omega)) (hf 0 _ rfl) hxl
 obtain ⟨v1, r1, b1⟩ := rf (h m (by omega)) (hf 1 _ rfl) hxl
 have q := Zcf (Zaz b0 (Zca b1))
 exact ⟨.mk v0 v1, ⟨by rw [hcl]; kernel_rfl, (r0.at.app r1.at)⟩, q⟩
theorem Znd (n : Nat) (h : ∀ k, k < n → RdN enc Try.prog W k 55 ZtW) : RdN enc Try.prog W n 157 Zyi := fun cs x hx => by
 obtain ⟨xs, m, rfl, rfl, hcl, hxl, hf⟩ := DataW.trod_struct Try.underlying157 hx
 obtain ⟨v0, r0, b0⟩ := rf (Zb6 Try.underlying3) (hf 0 _ rfl) hxl
 obtain ⟨v1, r1, b1⟩ := rf (h m (by omega)) (hf 1 _ rfl) hxl
 have q := Zcf (Zaz b0 (Zca b1))
 exact ⟨.mk v0 v1, ⟨by rw [hcl]; kernel_rfl, (r0.at.app r1.at)⟩, q⟩
theorem ZqC (n : Nat) : RdN enc Try.prog W n 55 ZtW := by
 induction n using Nat.strongRecOn with
 | ind n ih =>
 intro cs x hx
 obtain ⟨xs, m, rfl, rfl, hcl, hxl, hf⟩ := DataW.trod_struct Try.underlying55 hx
 obtain ⟨v0, r0, b0⟩ := rf (Zb6 Try.underlying3) (hf 0 _ rfl) hxl
 obtain ⟨v1, r1, b1⟩ := rf (Zb6 Try.underlying49) (hf 1 _ rfl) hxl
 obtain ⟨v2, r2, b2⟩ := rf (Zb7 Try.underlying9) (hf 2 _ rfl) hxl
 obtain ⟨v3, r3, b3⟩ := rf (ZaK Try.underlying50 (by kernel_rfl : Try.prog.cellsOf 55 = 7) (by decide) (fun x => by rw [Zgy]; rfl) (fun k hk => (Zlo Zgy (ih k (by omega))))) (hf 3 _ rfl) hxl
 obtain ⟨v4, r4, b4⟩ := rf (ZaK Try.underlying51 (by kernel_rfl : Try.prog.cellsOf 155 = 14) (by decide) (fun x => by rw [Zq0]; rfl) (fun k hk => (Zlo Zq0 (Zp2 k (fun j hj => ih j (by omega)))))) (hf 4 _ rfl) hxl
 obtain ⟨v5, r5, b5⟩ := rf (ZaK Try.underlying52 (by kernel_rfl : Try.prog.cellsOf 157 = 8) (by decide) (fun x => by rw [ZnB]; rfl) (fun k hk => (Zlo ZnB (Znd k (fun j hj => ih j (by omega)))))) (hf 5 _ rfl) hxl
 obtain ⟨v6, r6, b6⟩ := rf (ZaK Try.underlying53 (by kernel_rfl : Try.prog.cellsOf 159 = 4) (by decide) (fun _ => rfl) (fun k hk => (Zww k))) (hf 6 _ rfl) hxl
 have q := Zcf (Zaz b0 (Zaz b1 (Zaz b2 (Zaz b3 (Zaz b4 (Zaz b5 (Zca b6)))))))
 exact ⟨.mk v0 v1 v2 v3 v4 v5 v6, ⟨by rw [hcl]; kernel_rfl, (r0.at.app (r1.at.app (r2.at.app (r3.at.app (r4.at.app (r5.at.app r6.at))))))⟩, q⟩
theorem Zwt (n : Nat) : RdN enc Try.prog W n 48 ZzT := fun cs x hx => by
 obtain ⟨xs, m, rfl, rfl, hcl, hxl, hf⟩ := DataW.trod_struct Try.underlying48 hx
 obtain ⟨v0, r0, b0⟩ := rf (Zb6 Try.underlying3) (hf 0 _ rfl) hxl
 obtain ⟨v1, r1, b1⟩ := rf (Zb7 Try.underlying9) (hf 1 _ rfl) hxl
 have q := Zcf (Zaz b0 (Zca b1))
 exact ⟨.mk v0 v1, ⟨by rw [hcl]; kernel_rfl, (r0.at.app r1.at)⟩, q⟩
theorem Zks (n : Nat) : RdN enc Try.prog W n 153 eNt := fun cs x hx => by
 obtain ⟨xs, m, rfl, rfl, hcl, hxl, hf⟩ := DataW.trod_struct Try.underlying153 hx
 obtain ⟨v0, r0, b0⟩ := rf (Zb7 Try.underlying9) (hf 0 _ rfl) hxl
 obtain ⟨v1, r1, b1⟩ := rf (ZqC m) (hf 1 _ rfl) hxl
 have q := Zcf (Zaz b0 (Zca b1))
 exact ⟨.mk v0 v1, ⟨by rw [hcl]; kernel_rfl, (r0.at.app r1.at)⟩, q⟩
theorem ZuG (n : Nat) : RdN enc Try.prog W n 57 Zfl := fun cs x hx => by
 obtain ⟨xs, m, rfl, rfl, hcl, hxl, hf⟩ := DataW.trod_struct Try.underlying57 hx
 obtain ⟨v0, r0, b0⟩ := rf (Zb6 Try.underlying3) (hf 0 _ rfl) hxl
 obtain ⟨v1, r1, b1⟩ := rf (Zb7 Try.underlying9) (hf 1 _ rfl) hxl
 obtain ⟨v2, r2, b2⟩ := rf (Zb6 Try.underlying3) (hf 2 _ rfl) hxl
 obtain ⟨v3, r3, b3⟩ := rf (Zb6 Try.underlying3) (hf 3 _ rfl) hxl
 obtain ⟨v4, r4, b4⟩ := rf (Zwt m) (hf 4 _ rfl) hxl
 obtain ⟨v5, r5, b5⟩ := rf (Zb7 Try.underlying9) (hf 5 _ rfl) hxl
 obtain ⟨v6, r6, b6⟩ := rf (ZlZ Try.underlying4) (hf 6 _ rfl) hxl
 obtain ⟨v7, r7, b7⟩ := rf (ZqC m) (hf 7 _ rfl) hxl
 obtain ⟨v8, r8, b8⟩ := rf (ZaK Try.underlying40 (by kernel_rfl : Try.prog.cellsOf 153 = 8) (by decide) (fun _ => rfl) (fun k hk => (Zks k))) (hf 8 _ rfl) hxl
 have q := Zcf (Zaz b0 (Zaz b1 (Zaz b2 (Zaz b3 (Zaz b4 (Zaz b5 (Zaz b6 (Zaz b7 (Zca b8)))))))))
 exact ⟨.mk v0 v1 v2 v3 v4 v5 v6 v7 v8, ⟨by rw [hcl]; kernel_rfl, (r0.at.app (r1.at.app (r2.at.app (r3.at.app (r4.at.app (r5.at.app (r6.at.app (r7.at.app r8.at))))))))⟩, q⟩
theorem Zqi (n : Nat) : RdN enc Try.prog W n 151 Zs0 := fun cs x hx => by
 obtain ⟨xs, m, rfl, rfl, hcl, hxl, hf⟩ := DataW.trod_struct Try.underlying151 hx
 obtain ⟨v0, r0, b0⟩ := rf (Zb6 Try.underlying3) (hf 0 _ rfl) hxl
 obtain ⟨v1, r1, b1⟩ := rf (Zb6 Try.underlying3) (hf 1 _ rfl) hxl
 have q := Zcf (Zaz b0 (Zca b1))
 exact ⟨.mk v0 v1, ⟨by rw [hcl]; kernel_rfl, (r0.at.app r1.at)⟩, q⟩
theorem Zw6 (n : Nat) : RdN enc Try.prog W n 42 Zbx := fun cs x hx => by
 obtain ⟨xs, m, rfl, rfl, hcl, hxl, hf⟩ := DataW.trod_struct Try.underlying42 hx
 obtain ⟨v0, r0, b0⟩ := rf (Zb7 Try.underlying9) (hf 0 _ rfl) hxl
 obtain ⟨v1, r1, b1⟩ := rf (ZaK Try.underlying38 (by kernel_rfl : Try.prog.cellsOf 57 = 16) (by decide) (fun _ => rfl) (fun k hk => (ZuG k))) (hf 1 _ rfl) hxl
 obtain ⟨v2, r2, b2⟩ := rf (ZaK Try.underlying39 (by kernel_rfl : Try.prog.cellsOf 151 = 2) (by decide) (fun _ => rfl) (fun k hk => (Zqi k))) (hf 2 _ rfl) hxl
 obtain ⟨v3, r3, b3⟩ := rf (ZaK Try.underlying31 (by kernel_rfl : Try.prog.cellsOf 9 = 1) (by decide) (fun _ => rfl) (fun k hk => (Zb7 Try.underlying9))) (hf 3 _ rfl) hxl
 obtain ⟨v4, r4, b4⟩ := rf (ZaK Try.underlying40 (by kernel_rfl : Try.prog.cellsOf 153 = 8) (by decide) (fun _ => rfl) (fun k hk => (Zks k))) (hf 4 _ rfl) hxl
 have q := Zcf (Zaz b0 (Zaz b1 (Zaz b2 (Zaz b3 (Zca b4)))))
 exact ⟨.mk v0 v1 v2 v3 v4, ⟨by rw [hcl]; kernel_rfl, (r0.at.app (r1.at.app (r2.at.app (r3.at.app r4.at))))⟩, q⟩
theorem ZwM (n : Nat) : RdN enc Try.prog W n 161 Zy5 := fun cs x hx => by
 obtain ⟨xs, m, rfl, rfl, hcl, hxl, hf⟩ := DataW.trod_struct Try.underlying161 hx
 obtain ⟨v0, r0, b0⟩ := rf (Zb7 Try.underlying9) (hf 0 _ rfl) hxl
 obtain ⟨v1, r1, b1⟩ := rf (Zb6 Try.underlying3) (hf 1 _ rfl) hxl
 obtain ⟨v2, r2, b2⟩ := rf (ZaK Try.underlying40 (by kernel_rfl : Try.prog.cellsOf 153 = 8) (by decide) (fun _ => rfl) (fun k hk => (Zks k))) (hf 2 _ rfl) hxl
 have q := Zcf (Zaz b0 (Zaz b1 (Zca b2)))
 exact ⟨.mk v0 v1 v2, ⟨by rw [hcl]; kernel_rfl, (r0.at.app (r1.at.app r2.at))⟩, q⟩
theorem ZwO (n : Nat) : RdN enc Try.prog W n 89 ZbT := fun cs x hx => by
 obtain ⟨xs, m, rfl, rfl, hcl, hxl, hf⟩ := DataW.trod_struct Try.underlying89 hx
 obtain ⟨v0, r0, b0⟩ := rf (Zb7 Try.underlying9) (hf 0 _ rfl) hxl
 obtain ⟨v1, r1, b1⟩ := rf (ZlZ Try.underlying4) (hf 1 _ rfl) hxl
 obtain ⟨v2, r2, b2⟩ := rf (ZaK Try.underlying87 (by kernel_rfl : Try.prog.cellsOf 161 = 3) (by decide) (fun _ => rfl) (fun k hk => (ZwM k))) (hf 2 _ rfl) hxl
 obtain ⟨v3, r3, b3⟩ := rf (ZaK Try.underlying39 (by kernel_rfl : Try.prog.cellsOf 151 = 2) (by decide) (fun _ => rfl) (fun k hk => (Zqi k))) (hf 3 _ rfl) hxl
 obtain ⟨v4, r4, b4⟩ := rf (ZaK Try.underlying40 (by kernel_rfl : Try.prog.cellsOf 153 = 8) (by decide) (fun _ => rfl) (fun k hk => (Zks k))) (hf 4 _ rfl) hxl
 have q := Zcf (Zaz b0 (Zaz b1 (Zaz b2 (Zaz b3 (Zca b4)))))
 exact ⟨.mk v0 v1 v2 v3 v4, ⟨by rw [hcl]; kernel_rfl, (r0.at.app (r1.at.app (r2.at.app (r3.at.app r4.at))))⟩, q⟩
theorem Zvd (n : Nat) : RdN enc Try.prog W n 164 Zzq := fun cs x hx => by
 obtain ⟨xs, m, rfl, rfl, hcl, hxl, hf⟩ := DataW.trod_struct Try.underlying164 hx
 obtain ⟨v0, r0, b0⟩ := rf (Zb7 Try.underlying9) (hf 0 _ rfl) hxl
 obtain ⟨v1, r1, b1⟩ := rf (Zb7 Try.underlying9) (hf 1 _ rfl) hxl
 obtain ⟨v2, r2, b2⟩ := rf (Zb7 Try.underlying9) (hf 2 _ rfl) hxl
 obtain ⟨v3, r3, b3⟩ := rf (Zb6 Try.underlying3) (hf 3 _ rfl) hxl
 obtain ⟨v4, r4, b4⟩ := rf (ZaK Try.underlying40 (by kernel_rfl : Try.prog.cellsOf 153 = 8) (by decide) (fun _ => rfl) (fun k hk => (Zks k))) (hf 4 _ rfl) hxl
 have q := Zcf (Zaz b0 (Zaz b1 (Zaz b2 (Zaz b3 (Zca b4)))))
 exact ⟨.mk v0 v1 v2 v3 v4, ⟨by rw [hcl]; kernel_rfl, (r0.at.app (r1.at.app (r2.at.app (r3.at.app r4.at))))⟩, q⟩
theorem ZuH (n : Nat) : RdN enc Try.prog W n 149 Zcn := fun cs x hx => by
 obtain ⟨xs, m, rfl, rfl, hcl, hxl, hf⟩ := DataW.trod_struct Try.underlying149 hx
 obtain ⟨v0, r0, b0⟩ := rf (Zb7 Try.underlying9) (hf 0 _ rfl) hxl
 obtain ⟨v1, r1, b1⟩ := rf (ZaK Try.underlying147 (by kernel_rfl : Try.prog.cellsOf 164 = 5) (by decide) (fun _ => rfl) (fun k hk => (Zvd k))) (hf 1 _ rfl) hxl
 obtain ⟨v2, r2, b2⟩ := rf (ZaK Try.underlying40 (by kernel_rfl : Try.prog.cellsOf 153 = 8) (by decide) (fun _ => rfl) (fun k hk => (Zks k))) (hf 2 _ rfl) hxl
 have q := Zcf (Zaz b0 (Zaz b1 (Zca b2)))
 exact ⟨.mk v0 v1 v2, ⟨by rw [hcl]; kernel_rfl, (r0.at.app (r1.at.app r2.at))⟩, q⟩
theorem ZwH (n : Nat) : RdN enc Try.prog W n 26 ZcE := fun cs x hx => by
 obtain ⟨xs, m, rfl, rfl, hcl, hxl, hf⟩ := DataW.trod_struct Try.underlying26 hx
 obtain ⟨v0, r0, b0⟩ := rf (ZaK Try.underlying22 (by kernel_rfl : Try.prog.cellsOf 42 = 5) (by decide) (fun _ => rfl) (fun k hk => (Zw6 k))) (hf 0 _ rfl) hxl
 obtain ⟨v1, r1, b1⟩ := rf (ZaK Try.underlying23 (by kernel_rfl : Try.prog.cellsOf 89 = 5) (by decide) (fun _ => rfl) (fun k hk => (ZwO k))) (hf 1 _ rfl) hxl
 obtain ⟨v2, r2, b2⟩ := rf (ZaK Try.underlying24 (by kernel_rfl : Try.prog.cellsOf 149 = 3) (by decide) (fun _ => rfl) (fun k hk => (ZuH k))) (hf 2 _ rfl) hxl
 have q := Zcf (Zaz b0 (Zaz b1 (Zca b2)))
 exact ⟨.mk v0 v1 v2, ⟨by rw [hcl]; kernel_rfl, (r0.at.app (r1.at.app r2.at))⟩, q⟩
end
end Go.Proofs.Ythhipejbnbochaa
namespace Go.Eng
set_option linter.all false
open Go Go.RowKit
section
variable {σ ξ ρ α β γ : Type}
def ZkR (g : β → α → β ⊕ ρ) : β → List α → β ⊕ ρ
 | b, [] => .inl b
 | b, x :: l => match g b x with
  | .inl b' => ZkR g b' l
  | .inr r => .inr r
theorem ZgY {B : σ → Option (Lv σ ξ ρ)} {N : Nat} (l : List α) (mk : Nat → β → σ) (I : Nat → β → Prop) (g : β → α → β ⊕ ρ) (e : β → ξ)
  (hs : ∀ i b x, l[i]? = some x → I i b → B (mk i b) = some (Sum.elim (fun b' => Lv.nx (mk (i + 1) b')) Lv.rt (g b x)) ∧ ∀ b', g b x = .inl b' → I (i + 1) b')
  (he : ∀ b, I l.length b → B (mk l.length b) = some (.ex (e b))) (b0 : β) (h0 : I 0 b0) (hN : l.length < N) : ZaA B N (mk 0 b0) = some (Sum.map e id (ZkR g b0 l)) := by
 suffices H : ∀ k i b N, i + k = l.length → I i b → k < N → ZaA B N (mk i b) = some (Sum.map e id (ZkR g b (l.drop i))) by
  have := H l.length 0 b0 N (by omega) h0 hN
  simpa using this
 intro k
 induction k with
 | zero =>
  intro i b N hi hI hN
  obtain ⟨N, rfl⟩ : ∃ m, N = m + 1 := ⟨N - 1, by omega⟩
  have : i = l.length := by omega
  subst this
  rw [ZaA, he b hI, Ybw]
  rfl
 | succ k ih =>
  intro i b N hi hI hN
  obtain ⟨N, rfl⟩ : ∃ m, N = m + 1 := ⟨N - 1, by omega⟩
  have hlt : i < l.length := by omega
  obtain ⟨h1, h2⟩ := hs i b l[i] (Yd hlt) hI
  rw [ZaA, h1, Y6 hlt, ZkR]
  cases hg : g b l[i] with
  | inl b' => exact ih (i + 1) b' N (by omega) (h2 b' hg) (by omega)
  | inr r => rfl
theorem ZbW {B : Nat → Option (Lv Nat ξ ρ)} {N : Nat} (l : List α) (p : α → Bool) (f : Nat → ρ) (e : ξ)
  (hs : ∀ i x, l[i]? = some x → B i = some (if p x = true then .rt (f i) else .nx (i + 1))) (he : B l.length = some (.ex e)) (hN : l.length < N) :
  ZaA B N 0 = some (match l.findIdx? p with | some i => .inr (f i) | none => .inl e) := by
 suffices H : ∀ k i N, i + k = l.length → k < N → ZaA B N i = some (match (l.drop i).findIdx? p with | some j => .inr (f (i + j)) | none => .inl e) by
  have := H l.length 0 N (by omega) hN
  simpa using this
 intro k
 induction k with
 | zero =>
  intro i N hi hN
  obtain ⟨N, rfl⟩ : ∃ m, N = m + 1 := ⟨N - 1, by omega⟩
  have : i = l.length := by omega
  subst this
  rw [ZaA, he, Ybw]
  rfl
 | succ k ih =>
  intro i N hi hN
  obtain ⟨N, rfl⟩ : ∃ m, N = m + 1 := ⟨N - 1, by omega⟩
  have hlt : i < l.length := by omega
  rw [ZaA, hs i l[i] (Yd hlt), Y6 hlt, Ybl]
  cases hp : p l[i] with
  | true => simp
  | false =>
   simp only [Ybg, if_false]
   rw [ih (i + 1) N (by omega) (by omega)]
   cases (List.drop (i + 1) l).findIdx? p with
   | none => rfl
   | some j => simp [Yv, Ybt 1 j]
theorem Zfd {g : β → α → β ⊕ ρ} (h : β → α → β) (hg : ∀ b x, g b x = .inl (h b x)) : ∀ (l : List α) (b : β), ZkR g b l = .inl (l.foldl h b)
 | [], b => rfl
 | x :: l, b => by rw [ZkR, hg]; exact Zfd h hg l _
def ZfU (R : List α → α → Option ρ) : List α → List α → Option ρ
 | _, [] => none
 | p, x :: l => match R p x with
  | some r => some r
  | none => ZfU R (p ++ [x]) l
theorem ZpV {B : σ → Option (Lv σ ξ ρ)} {N : Nat} (l : List α) (S : List α → β) (R : List α → α → Option ρ) (mk : Nat → β → σ) (e : β → ξ)
  (hs : ∀ i x, l[i]? = some x → B (mk i (S (l.take i))) = some (match R (l.take i) x with | some r => .rt r | none => .nx (mk (i + 1) (S (l.take i ++ [x])))))
  (he : B (mk l.length (S l)) = some (.ex (e (S l)))) (hN : l.length < N) : ZaA B N (mk 0 (S [])) = some ((ZfU R [] l).elim (.inl (e (S l))) .inr) := by
 suffices H : ∀ k i N, i + k = l.length → k < N → ZaA B N (mk i (S (l.take i))) = some ((ZfU R (l.take i) (l.drop i)).elim (.inl (e (S l))) .inr) by
  have := H l.length 0 N (by omega) hN
  grind
 intro k
 induction k with
 | zero =>
  intro i N hi hN
  obtain ⟨N, rfl⟩ : ∃ m, N = m + 1 := ⟨N - 1, by omega⟩
  have : i = l.length := by omega
  subst this
  rw [ZaA, Ya0, he, Ybw]
  rfl
 | succ k ih =>
  intro i N hi hN
  obtain ⟨N, rfl⟩ : ∃ m, N = m + 1 := ⟨N - 1, by omega⟩
  have hlt : i < l.length := by omega
  rw [ZaA, hs i l[i] (Yd hlt), Y6 hlt, ZfU]
  cases R (l.take i) l[i] with
  | some r => rfl
  | none =>
   have := ih (i + 1) N (by omega) (by omega)
   rw [Yag hlt] at this
   exact this
theorem ZeM {R : List α → α → Option ρ} (h : ∀ p x, R p x = none) : ∀ (l p : List α), ZfU R p l = none
 | [], p => rfl
 | x :: l, p => by rw [ZfU, h]; exact ZeM h l _
theorem ZeO {B : σ → Option (Lv σ ξ ρ)} {N : Nat} (l : List α) (S : List α → β) (mk : Nat → β → σ) (e : β → ξ)
  (hs : ∀ i x, l[i]? = some x → B (mk i (S (l.take i))) = some (.nx (mk (i + 1) (S (l.take i ++ [x])))))
  (he : B (mk l.length (S l)) = some (.ex (e (S l)))) (hN : l.length < N) : ZaA B N (mk 0 (S [])) = some (.inl (e (S l))) := by
 rw [ZpV l S (fun _ _ => none) mk e hs he hN, ZeM fun _ _ => rfl]
 rfl
theorem Zbs {B : σ → Option (Lv σ ξ ρ)} (I : Nat → σ → Prop) (Q : ξ ⊕ ρ → Prop)
  (h : ∀ k v, I k v → ∃ o, B v = some o ∧ match o with | .nx v' => ∃ k', k' < k ∧ I k' v' | .ex b => Q (.inl b) | .rt y => Q (.inr y)) :
  ∀ N k v, k < N → I k v → ∃ o, ZaA B N v = some o ∧ Q o
 | 0, k, v, hk, _ => absurd hk (Yas _)
 | N + 1, k, v, hk, hI => by
  obtain ⟨o, h1, h2⟩ := h k v hI
  rw [ZaA, h1]
  cases o with
  | nx v' => obtain ⟨k', h3, h4⟩ := h2; exact Zbs I Q h N k' v' (by omega) h4
  | ex b => exact ⟨_, rfl, h2⟩
  | rt y => exact ⟨_, rfl, h2⟩
theorem ZcU {l : List α} {i : Nat} {x : α} (h : l[i]? = some x) : (i : Int) < (l.length : Int) := by
 grind
theorem Zbg {n : Nat} (h : n < 4611686018427387904) : n < big := h
end
end Go.Eng
namespace Go.Eng
set_option linter.all false
open Go
section
variable {σ ξ ρ β γ : Type}
def ZgS (M : Option (List β)) (Q : β → Prop) : Prop := ∃ ys, M = some ys ∧ ys ≠ [] ∧ ∀ y ∈ ys, Q y
theorem ZgS.imp {M : Option (List β)} {Q R : β → Prop} (h : ZgS M Q) (k : ∀ y, Q y → R y) : ZgS M R := by
 obtain ⟨ys, a, b, c⟩ := h
 exact ⟨ys, a, b, fun y hy => k y (c y hy)⟩
theorem ZdL {y : β} {Q : β → Prop} (h : Q y) : ZgS (some [y]) Q := ⟨[y], rfl, by simp, fun z hz => by rw [YG.1 hz]; exact h⟩
theorem ZeS {Q : β → Prop} : ∀ {l : List (Option (List β))}, l ≠ [] → (∀ x ∈ l, ZgS x Q) → ZgS (Zfv l) Q
 | [], h, _ => absurd rfl h
 | x :: r, _, h => by
  obtain ⟨ys, rfl, b, c⟩ := h _ (Yu ..)
  by_cases hr : r = []
  ·subst hr
   exact ⟨ys ++ [], rfl, by simpa using b, fun y hy => c y (by simpa using hy)⟩
  ·obtain ⟨zs, a', b', c'⟩ := ZeS hr fun x hx => h x (List.mem_cons_of_mem _ hx)
   refine ⟨ys ++ zs, by rw [Zfv, a'], by simp [b], fun y hy => ?_⟩
   rcases YD.1 hy with hy | hy
   ·exact c y hy
   ·exact c' y hy
theorem ZhD {M : Option (List γ)} {k : γ → Option (List β)} {Q : γ → Prop} {R : β → Prop} (h : ZgS M Q) (hk : ∀ z, Q z → ZgS (k z) R) : ZgS (Zen M k) R := by
 obtain ⟨ys, rfl, b, c⟩ := h
 show ZgS (Zfv (ys.map k)) R
 refine ZeS (by simpa using b) fun x hx => ?_
 obtain ⟨y, hy, rfl⟩ := Yr.1 hx
 exact hk y (c y hy)
theorem Zr0 {os : Nat} {V : Type} [Mv V] {xs : List (ByteArray × V)} {k0 : PT os (List β)} {k1 : ByteArray × V → List (ByteArray × V) → PT os (List β)} {Q : β → Prop}
  (h0 : xs = [] → ZgS k0.m Q) (h1 : ∀ i x, xs[i]? = some x → ZgS (k1 x (xs.eraseIdx i)).m Q) : ZgS (nxN xs k0 k1).m Q := by
 cases xs with
 | nil => exact h0 rfl
 | cons a r =>
  show ZgS (Zfv _) Q
  refine ZeS (by simp) fun x hx => ?_
  obtain ⟨i, hi, rfl⟩ := Yr.1 hx
  have hi := Yaa.1 hi
  have e : (a :: r)[i]? = some ((a :: r)[i]) := Yd hi
  have e2 : (a :: r).getD i (⟨#[]⟩, Mv.z) = (a :: r)[i] := by rw [Yw, e]; rfl
  rw [e2]
  exact h1 i _ e
theorem Zhx {B : σ → Option (List (Lv σ ξ ρ))} (I : Nat → σ → Prop) (Q : ξ ⊕ ρ → Prop)
  (h : ∀ k v, I k v → ZgS (B v) fun o => match o with | .nx v' => ∃ k', k' < k ∧ I k' v' | .ex b => Q (.inl b) | .rt y => Q (.inr y)) :
  ∀ N k v, k < N → I k v → ZgS (Zd0 B N v) Q
 | 0, k, v, hk, _ => absurd hk (Yas _)
 | N + 1, k, v, hk, hI => by
  rw [Zd0]
  refine ZhD (h k v hI) fun o ho => ?_
  cases o with
  | nx v' => obtain ⟨k', h3, h4⟩ := ho; exact Zhx I Q h N k' v' (by omega) h4
  | ex b => exact ZdL ho
  | rt y => exact ZdL ho
theorem Zlq [DecidableEq β] {M : Option (List β)} {y : β} (h : ZgS M fun z => z = y) : Zut M = some y := by
 obtain ⟨ys, a, b, c⟩ := h
 exact ZtN a b c
end
section
variable {V : Type}
def ZbO (r : List (ByteArray × V)) : List ByteArray := r.map (·.1)
theorem ZcC (x y : ByteArray) (v : V) : ∀ r : List (ByteArray × V), Zb9 y (ZbR x v r) = if x = y then some v else Zb9 y r
 | [] => by
  unfold ZbR Zb9
  by_cases h : x = y <;> simp [h, Zb9]
 | p :: r => by
  unfold ZbR
  by_cases h : p.1 = x
  ·rw [show decide (p.1 = x) = true from decide_eq_true h]
   show Zb9 y ((x, v) :: r) = _
   unfold Zb9
   by_cases h2 : x = y
   ·simp [h2]
   ·simp [h2, show ¬ p.1 = y from fun h3 => h2 (h.symm.trans h3)]
  ·rw [show decide (p.1 = x) = false from decide_eq_false h]
   show Zb9 y (p :: ZbR x v r) = _
   unfold Zb9
   rw [ZcC x y v r]
   by_cases h2 : p.1 = y
   ·simp [h2, show ¬ x = y from fun h3 => h (h2.trans h3.symm)]
   ·simp [h2]
theorem Zgf (x : ByteArray) (v : V) : ∀ r : List (ByteArray × V), (x ∈ ZbO r ∧ ZbO (ZbR x v r) = ZbO r) ∨ (x ∉ ZbO r ∧ ZbO (ZbR x v r) = ZbO r ++ [x])
 | [] => .inr ⟨by simp [ZbO], rfl⟩
 | p :: r => by
  have ih := Zgf x v r
  unfold ZbR
  by_cases h : p.1 = x
  ·rw [show decide (p.1 = x) = true from decide_eq_true h]
   exact .inl ⟨by unfold ZbO; simp [h], by unfold ZbO; simp [h]⟩
  ·rw [show decide (p.1 = x) = false from decide_eq_false h]
   have h2 : ¬ x = p.1 := fun e => h e.symm
   show (x ∈ p.1 :: ZbO r ∧ p.1 :: ZbO (ZbR x v r) = p.1 :: ZbO r) ∨ (x ∉ p.1 :: ZbO r ∧ p.1 :: ZbO (ZbR x v r) = p.1 :: ZbO r ++ [x])
   rcases ih with ⟨h3, h4⟩ | ⟨h3, h4⟩
   ·exact .inl ⟨List.mem_cons_of_mem _ h3, by rw [h4]⟩
   ·exact .inr ⟨fun hm => (Yo.1 hm).elim h2 h3, by rw [h4]; rfl⟩
theorem ZnS (x : ByteArray) (v : V) {r : List (ByteArray × V)} (h : (ZbO r).Nodup) : (ZbO (ZbR x v r)).Nodup := by
 rcases Zgf x v r with ⟨_, e⟩ | ⟨hx, e⟩
 ·rw [e]; exact h
 ·rw [e, Ybp]
  exact ⟨h, by simp, fun a ha b hb => by simp at hb; subst hb; exact fun e => hx (e ▸ ha)⟩
theorem Zgz (x : ByteArray) : ∀ r : List (ByteArray × V), x ∈ ZbO r ↔ (Zb9 x r).isSome = true
 | [] => by simp [ZbO, Zb9]
 | p :: r => by
  have ih := Zgz x r
  unfold Zb9
  by_cases h : p.1 = x
  ·simp [ZbO, h]
  ·have h2 : ¬ x = p.1 := fun e => h e.symm
   simp only [h, decide_false, ZbO, YT, Yo, h2, false_or]
   exact ih
theorem Zud (x : ByteArray) (v : V) (r : List (ByteArray × V)) : (ZbR x v r).length ≤ r.length + 1 := by
 have e : ∀ r : List (ByteArray × V), r.length = (ZbO r).length := fun r => (Yn _).symm
 rw [e, e r]
 rcases Zgf x v r with ⟨_, e⟩ | ⟨_, e⟩ <;> rw [e] <;> simp
end
def Zso (s : Scm) (n : ByteArray) : Option Msg := s.messages.find? fun m => decide (m.name = n)
def isM (s : Scm) (n : ByteArray) : Bool := (Zso s n).isSome
def isE (s : Scm) (n : ByteArray) : Bool := s.enums.any fun e => decide (e.name = n)
def Zfm (s : Scm) (n : ByteArray) : List Fld := ((Zso s n).map Msg.fields).getD []
def toF (s : Scm) (f : Fld) : Bool := isM s f.type.name && decide (f.type.kind = 10)
def ldF (s : Scm) (f : Fld) : Bool := toF s f || (decide (f.type.kind = 9) && isE s f.type.name)
def ZaM (s : Scm) (n : ByteArray) : List ByteArray := ((Zfm s n).filter (toF s)).map fun f => f.type.name
def Zup (s : Scm) (n : ByteArray) : List ByteArray := ((Zfm s n).filter (ldF s)).map fun f => f.type.name
structure Fw (s : Scm) : Prop where
 m : s.messages.length ≤ 8
 e : s.enums.length ≤ 8
 f : ∀ m ∈ s.messages, m.fields.length ≤ 10
theorem Fw.fl {s : Scm} (h : Fw s) (n : ByteArray) : (Zfm s n).length ≤ 10 := by
 unfold Zfm
 cases hm : Zso s n with
 | none => simp
 | some m => exact h.f m (List.mem_of_find?_eq_some hm)
theorem Fw.nl {s : Scm} (h : Fw s) (n : ByteArray) : (ZaM s n).length ≤ 10 := by
 unfold ZaM
 rw [Yn]
 exact YR (Y8 _ _) (h.fl n)
theorem Zex {s : Scm} {n x : ByteArray} (h : x ∈ ZaM s n) : isM s x = true := by
 unfold ZaM at h
 obtain ⟨f, hf, rfl⟩ := Yr.1 h
 have := (YJ.1 hf).2
 unfold toF at this
 exact (YaK.1 this).1
def nmM (s : Scm) : List ByteArray := s.messages.map Msg.name
theorem ZbJ {s : Scm} {n : ByteArray} : isM s n = true ↔ n ∈ nmM s := by
 unfold isM Zso nmM
 rw [List.find?_isSome]
 simp [Yr]
theorem ZtM {s : Scm} {n : ByteArray} : isE s n = true ↔ n ∈ s.enums.map Enm.name := by
 unfold isE
 simp [YL, Yr]
structure WOk (s : Scm) (w : Web) : Prop where
 m : ∀ n, Zb9 n w.messages = Zso s n
 e : ∀ n, lkM n w.enums = isE s n
 nd : (ZbO w.messages).Nodup
 l : w.messages.length ≤ s.messages.length
theorem WOk.im {s : Scm} {w : Web} (h : WOk s w) (n : ByteArray) : inM n w.messages = isM s n := by unfold inM isM; rw [h.m]
theorem WOk.fl {s : Scm} {w : Web} (h : WOk s w) (n : ByteArray) : (lkM n w.messages).fields = Zfm s n := by
 unfold lkM Zfm
 rw [h.m]
 cases Zso s n <;> rfl
theorem WOk.key {s : Scm} {w : Web} (h : WOk s w) (n : ByteArray) : n ∈ ZbO w.messages ↔ isM s n = true := by rw [Zgz, h.m]; rfl
end Go.Eng
namespace Go.Proofs.Ythhipejbnbochaa
set_option linter.all false
open Go Go.Eng
def wvM (l : List Msg) : List (ByteArray × Msg) := l.foldl (fun r m => if inM m.name r = true then r else ZbR m.name m r) []
def wvE (l : List Enm) : List (ByteArray × Bool) := l.foldl (fun r e => ZbR e.name true r) []
theorem ZjN (l : List Msg) (m : Msg) : wvM (l ++ [m]) = if inM m.name (wvM l) = true then wvM l else ZbR m.name m (wvM l) := by unfold wvM; rw [List.foldl_append]; rfl
theorem Zjg (l : List Enm) (e : Enm) : wvE (l ++ [e]) = ZbR e.name true (wvE l) := by unfold wvE; rw [List.foldl_append]; rfl
theorem ZlC {α : Type} {P : List α → Prop} (h0 : P []) (h1 : ∀ l x, P l → P (l ++ [x])) (l : List α) : P l := by
 have : ∀ l : List α, P l.reverse := fun l => by
  induction l with
  | nil => exact h0
  | cons x l ih => rw [List.reverse_cons]; exact h1 _ _ ih
 simpa using this l.reverse
theorem Zwh (l : List Msg) : (∀ n, Zb9 n (wvM l) = l.find? fun m => decide (m.name = n)) ∧ (ZbO (wvM l)).Nodup ∧ (wvM l).length ≤ l.length := by
 refine ZlC (P := fun l => (∀ n, Zb9 n (wvM l) = l.find? fun m => decide (m.name = n)) ∧ (ZbO (wvM l)).Nodup ∧ (wvM l).length ≤ l.length) ⟨fun n => rfl, by simp [wvM, ZbO], Yg _⟩ (fun l m ⟨a, b, c⟩ => ?_) l
 rw [ZjN]
 split
 ·rename_i h
  refine ⟨fun n => ?_, b, by simp; omega⟩
  rw [a, List.find?_append]
  cases hf : l.find? fun m => decide (m.name = n) with
  | some x => rfl
  | none =>
   have : ¬ m.name = n := fun e => by
    subst e
    unfold inM at h
    rw [a, hf] at h
    cases h
   simp [this]
 ·rename_i h
  refine ⟨fun n => ?_, ZnS _ _ b, YR (Zud ..) (by simp; omega)⟩
  rw [ZcC, List.find?_append, a]
  by_cases e : m.name = n
  ·subst e
   have : l.find? (fun x => decide (x.name = m.name)) = none := by
    unfold inM at h
    rw [a] at h
    simpa using h
   simp [this]
  ·simp only [e, if_false]
   cases l.find? fun m => decide (m.name = n) <;> simp [e]
theorem Zw9 (l : List Enm) (n : ByteArray) : lkM n (wvE l) = l.any fun e => decide (e.name = n) := by
 refine ZlC (P := fun l => lkM n (wvE l) = l.any fun e => decide (e.name = n)) rfl (fun l e ih => ?_) l
 rw [Zjg, List.any_append, ← ih]
 unfold lkM
 rw [ZcC]
 by_cases h : e.name = n <;> simp [h]
def ZwP (s : Scm) : Web := ⟨wvM s.messages, wvE s.enums⟩
theorem Zd1 (s : Scm) : WOk s (ZwP s) := by
 obtain ⟨a, b, c⟩ := Zwh s.messages
 exact ⟨a, Zw9 s.enums, b, c⟩
theorem m32 {s : Scm} (h : Fw s) : ZcF s = some (ZwP s) := by
 have hm := h.m
 have he := h.e
 have q1 : ZaA (ZkG s) big (0, []) = some (.inl (wvM s.messages)) := by
  have := ZeO (B := ZkG s) (N := big) s.messages wvM (fun i b => (i, b)) id (hN := Zbg (by omega)) (he := by simp [ZkG, Zo5, br, ix, vw, vs, ln, lxe, wa, mlk, mpu]) (hs := fun i x hx => by
   have g1 := ZcU hx
   have g0 := (Yb.1 hx).1
   have g2 : i + 1 < 9223372036854775808 := by omega
   dsimp only [ZkG, Zo5, br, ix, vw, vs, ln, lxe, wa, mlk, mpu]
   simp only [g1, g2, hx, decide_true, if_true, Option.bind_some, ZjN]
   cases inM x.name (wvM (s.messages.take i)) <;> simp)
  exact this
 have q2 : ZaA (Zj3 s (wvM s.messages)) big (0, []) = some (.inl (wvE s.enums)) := by
  have := ZeO (B := Zj3 s (wvM s.messages)) (N := big) s.enums wvE (fun i b => (i, b)) id (hN := Zbg (by omega)) (he := by simp [Zj3, ZpX, br, ix, vw, vs, ln, lxe, wa, mpu]) (hs := fun i x hx => by
   have g1 := ZcU hx
   have g0 := (Yb.1 hx).1
   have g2 : i + 1 < 9223372036854775808 := by omega
   dsimp only [Zj3, ZpX, br, ix, vw, vs, ln, lxe, wa, mpu]
   simp only [g1, g2, hx, decide_true, if_true, Option.bind_some, Zjg])
  exact this
 dsimp only [ZcF, ZsY, ZrP, Zua, Zre, vz, vw, lr, lc, eqL]
 rw [q1]
 simp only [Option.bind_some, Sum.elim_inl, q2]
 rfl
section
variable {s : Scm} {w : Web} (hw : WOk s w) (h : Fw s)
include hw
theorem m62 (f : Fld) : Zcj w f = some (toF s f) := by
 dsimp only [Zcj, Zty, vw, lr, mlk]
 rw [hw.im]
 rfl
include h
theorem m56 (n : ByteArray) : Zbb w n = some (ZaM s n) := by
 have hl := h.fl n
 have e := hw.fl n
 have q1 : ZaA (Zj7 w (lkM n w.messages)) big ([], 0) = some (.inl (ZaM s n)) := by
  have := ZeO (B := Zj7 w (lkM n w.messages)) (N := big) (Zfm s n) (fun p => (p.filter (toF s)).map fun f => f.type.name) (fun i b => (b, i)) id (hN := Zbg (by omega)) (he := by simp [Zj7, Zpq, br, ix, vz, vw, vs, ln, lxe, ap, cl, wa, fl, e]) (hs := fun i x hx => by
   have g1 := ZcU hx
   have g0 := (Yb.1 hx).1
   have g2 : i + 1 < 9223372036854775808 := by omega
   have g3 : ((((Zfm s n).take i).filter (toF s)).map fun f => f.type.name).length < 549755813887 := by
    rw [Yn]
    have := Y8 (toF s) ((Zfm s n).take i)
    rw [YX] at this
    omega
   dsimp only [Zj7, Zpq, br, ix, vz, vw, vs, ln, lxe, ap, cl, wa, fl]
   simp only [e, g1, g2, g3, hx, m62 hw, decide_true, if_true, Option.bind_some, YaE, YaM]
   cases hb : toF s x <;> simp [List.filter_cons, hb])
  exact this
 dsimp only [Zbb, ZsL, Zrb, Ztq, Zt3, vz, vw, lr, lc, mv, mlk, fl, eqL]
 rw [q1]
 rfl
end
theorem Zh8 {l r : List ByteArray} (h : l.Perm r) : Zdp l = Zdp r :=
 (((Zbo l).trans h).trans (Zbo r).symm).eq_of_pairwise (fun a b _ _ h1 h2 => ZdS (Ybu h1 h2)) (Zc1 l) (Zc1 r)
theorem Zll {l : List ByteArray} (h : l.Nodup) : Asc (Zdp l) := by
 have h1 := Zc1 l
 have h2 : (Zdp l).Nodup := (Zbo l).nodup_iff.2 h
 exact (List.pairwise_and_iff.2 ⟨h1, h2⟩).imp fun {a b} ⟨h3, h4⟩ => (Zcy a b).2 (Zpy h3 fun e => h4 (ZdS e))
theorem Zdj {l r : List ByteArray} (h : l.Nodup) (hs : ∀ x ∈ l, x ∈ r) : l.length ≤ r.length := List.Nodup.length_le_of_subset h hs
theorem ZdP {α : Type} : ∀ {l : List α} {i : Nat} {x : α}, l[i]? = some x → (x :: l.eraseIdx i).Perm l
 | a :: l, 0, x, h => by simp at h; subst h; exact .refl _
 | a :: l, i + 1, x, h => by
  simp at h
  exact (List.Perm.swap ..).trans ((ZdP h).cons a)
def nmW (w : Web) : List ByteArray := Zdp (ZbO w.messages)
section
variable {s : Scm} {w : Web} (hw : WOk s w) (h : Fw s)
include hw
theorem Zog : Asc (nmW w) := Zll hw.nd
theorem ZdU (n : ByteArray) : n ∈ nmW w ↔ isM s n = true := by
 unfold nmW
 rw [(Zbo _).mem_iff, hw.key]
include h
theorem ZcT : (nmW w).length ≤ 8 := by
 unfold nmW
 rw [(Zbo _).length_eq]
 have := hw.l
 have := h.m
 simp only [ZbO, Yn]
 omega
theorem n33 : Zcu w = some (nmW w) := by
 have hl := hw.l
 have hm := h.m
 refine Zlq ?_
 have q1 : ZgS (Zd0 Zj9 big ([], w.messages)) fun o => Sum.elim (fun l => l.Perm (ZbO w.messages)) (fun _ => False) o := by
  refine Zhx (B := Zj9) (fun k v => v.2.length = k ∧ (v.1 ++ ZbO v.2).Perm (ZbO w.messages)) _ (fun k v hI => ?_) big w.messages.length ([], w.messages) (Zbg (by omega)) ⟨rfl, .refl _⟩
  obtain ⟨r1, r2⟩ := v
  obtain ⟨h1, h2⟩ := hI
  simp only at h1 h2
  have hlen : r1.length ≤ 8 := by
   have := h2.length_eq
   simp only [List.length_append, ZbO, Yn] at this
   omega
  unfold Zj9
  simp only
  unfold ZoR
  refine Zr0 (fun e => ?_) (fun i x hx => ?_)
  ·subst e
   refine ZdL ?_
   simpa [ZbO] using h2
  ·have hlt := (Yb.1 hx).1
   dsimp only [Zj9, ZoR, vz, vw, ap, nxN, lnN, Zuy, fl]
   rw [if_pos (by omega)]
   refine ZdL ⟨(r2.eraseIdx i).length, by rw [Ybn hlt]; omega, rfl, ?_⟩
   have e := (Yb.1 hx).2
   have hp : (x :: r2.eraseIdx i).Perm r2 := ZdP hx
   refine .trans ?_ h2
   rw [YS]
   refine YbI _ ?_
   exact hp.map (·.1)
 dsimp only [ZbA, ZrK, ZrS, ZtP, Zr4, Zsu, ZrN, vz, vw, lc, rn, lrN, fl, fr]
 refine ZhD q1 fun o ho => ?_
 cases o with
 | inr _ => exact ho.elim
 | inl l =>
  have ho : l.Perm (ZbO w.messages) := ho
  have hlen : l.length ≤ 8 := by
   have := ho.length_eq
   simp only [ZbO, Yn] at this
   omega
  have hs : (Zdp l).length = l.length := (Zbo l).length_eq
  simp only [Sum.elim_inl]
  unfold Zcx
  rw [if_pos (by omega)]
  simp only [Option.bind_some, hs, if_true]
  exact ZdL (Zh8 ho)
end
inductive Rch (s : Scm) (a : ByteArray) : ByteArray → Prop
 | one {b : ByteArray} : b ∈ ZaM s a → Rch s a b
 | tl {b c : ByteArray} : Rch s a b → c ∈ ZaM s b → Rch s a c
theorem Rch.isM {s : Scm} {a b : ByteArray} (h : Rch s a b) : isM s b = true := by
 cases h with
 | one h => exact Zex h
 | tl _ h => exact Zex h
theorem Rch.trans {s : Scm} {a b c : ByteArray} (h : Rch s a b) (k : Rch s b c) : Rch s a c := by
 induction k with
 | one k => exact .tl h k
 | tl _ k ih => exact .tl ih k
theorem Rch.hd {s : Scm} {a b c : ByteArray} (h : b ∈ ZaM s a) (k : Rch s b c) : Rch s a c := (Rch.one h).trans k
structure ROk (s : Scm) (n : ByteArray) (r : List (ByteArray × Bool)) : Prop where
 i : ∀ x, lkM x r = true ↔ Rch s n x
 k : ∀ x, x ∈ ZbO r ↔ lkM x r = true
 nd : (ZbO r).Nodup
 l : r.length ≤ 8
structure RInv (s : Scm) (n : ByteArray) (todo : List ByteArray) (r : List (ByteArray × Bool)) : Prop where
 t : ∀ x ∈ todo, Rch s n x
 o : ∀ x, lkM x r = true → Rch s n x
 c0 : ∀ x ∈ ZaM s n, x ∈ todo ∨ lkM x r = true
 c : ∀ y, lkM y r = true → ∀ x ∈ ZaM s y, x ∈ todo ∨ lkM x r = true
 k : ∀ x, x ∈ ZbO r ↔ lkM x r = true
 nd : (ZbO r).Nodup
theorem ZfW (x y : ByteArray) (r : List (ByteArray × Bool)) : lkM y (ZbR x true r) = true ↔ x = y ∨ lkM y r = true := by
 unfold lkM
 rw [ZcC]
 by_cases h : x = y <;> simp [h]
def Zpl (s : Scm) (r : List (ByteArray × Bool)) : Nat := ((nmM s).filter fun x => !lkM x r).length
theorem ZpO {s : Scm} {x : ByteArray} {r : List (ByteArray × Bool)} (h : isM s x = true) (hx : lkM x r = false) : Zpl s (ZbR x true r) < Zpl s r := by
 unfold Zpl
 have hm := ZbJ.1 h
 have e : ((nmM s).filter fun y => !lkM y (ZbR x true r)) = ((nmM s).filter fun y => !lkM y r).filter fun y => decide (y ≠ x) := by
  rw [List.filter_filter]
  refine List.filter_congr fun y _ => ?_
  have := ZfW x y r
  by_cases e : x = y
  ·subst e
   simp [this.2 (.inl rfl)]
  ·have e2 : ¬ y = x := fun q => e q.symm
   cases hy : lkM y r with
   | true => simp [this.2 (.inr hy)]
   | false =>
    have : lkM y (ZbR x true r) = false := by
     cases hq : lkM y (ZbR x true r) with
     | false => rfl
     | true => rcases this.1 hq with q | q; exact absurd q e; rw [hy] at q; cases q
    simp [this, e2]
 rw [e]
 refine Nat.lt_of_le_of_ne (Y8 _ _) fun q => ?_
 rw [List.length_filter_eq_length_iff] at q
 have := q x (YJ.2 ⟨hm, by rw [hx]; rfl⟩)
 simp at this
section
variable {s : Scm} {w : Web} (hw : WOk s w) (h : Fw s)
include hw h
theorem m34 (n : ByteArray) : ∃ r, ZbC w n = some r ∧ ROk s n r := by
 have hl8 : (nmM s).length ≤ 8 := by unfold nmM; rw [Yn]; exact h.m
 have q1 := Zbs (B := ZkE w) (I := fun k v => Zpl s v.2 * 11 + v.1.length = k ∧ k ≤ 98 ∧ RInv s n v.1 v.2) (Q := fun o => Sum.elim (fun r => ROk s n r) (fun _ => False) o) (fun k v hI => by
  obtain ⟨r2, r3⟩ := v
  obtain ⟨h1, h2, hI⟩ := hI
  simp only at h1 hI
  cases r2 with
  | nil =>
   refine ⟨.ex r3, by simp [ZkE, Zm3, Zn2, Zl6, Zmb, Zmc, Zn0, ZlR, ZlA, br, vz, vw, vs, ln, lxe, lc, ar, ir, ca, sR, rb, mlk, mpu, fl, eqN, Bd.c, Bd.vl], ?_⟩
   have hi : ∀ x, lkM x r3 = true ↔ Rch s n x := fun x => ⟨hI.o x, fun hr => by
    induction hr with
    | one hx => exact (hI.c0 _ hx).resolve_left (by simp)
    | tl _ hx ih => exact (hI.c _ ih _ hx).resolve_left (by simp)⟩
   refine ⟨hi, hI.k, hI.nd, ?_⟩
   have := Zdj hI.nd (r := nmM s) fun x hx => ZbJ.1 ((hi x).1 ((hI.k x).1 hx)).isM
   simp only [ZbO, Yn] at this
   omega
  | cons x r2 =>
   simp only [Y5] at h1
   have hx := hI.t x (Yu ..)
   have g0 : (0 : Int) < ((r2.length + 1 : Nat) : Int) := by omega
   have hnl := h.nl x
   cases hk : lkM x r3 with
   | true =>
    refine ⟨.nx (r2, r3), by dsimp only [ZkE, Zm3, Zn2, Zl6, Zmb, Zmc, Zn0, ZlR, ZlA, br, vz, vw, vs, ln, lxe, lc, ar, ir, ca, sR, rb, mlk, mpu, fl, eqN, Bd.c, Bd.vl]; simp [hk] <;> omega, Zpl s r3 * 11 + r2.length, by omega, rfl, by omega, ⟨fun y hy => hI.t y (List.mem_cons_of_mem _ hy), hI.o, fun y hy => ?_, fun z hz y hy => ?_, hI.k, hI.nd⟩⟩
    ·rcases hI.c0 y hy with q | q
     ·rcases Yo.1 q with rfl | q
      ·exact .inr hk
      ·exact .inl q
     ·exact .inr q
    ·rcases hI.c z hz y hy with q | q
     ·rcases Yo.1 q with rfl | q
      ·exact .inr hk
      ·exact .inl q
     ·exact .inr q
   | false =>
    have hp := ZpO (s := s) (x := x) (r := r3) hx.isM hk
    refine ⟨.nx (r2 ++ ZaM s x, ZbR x true r3), by dsimp only [ZkE, Zm3, Zn2, Zl6, Zmb, Zmc, Zn0, ZlR, ZlA, br, vz, vw, vs, ln, lxe, lc, ar, ir, ca, sR, rb, mlk, mpu, fl, eqN, Bd.c, Bd.vl]; simp [hk, m56 hw h] <;> omega, Zpl s (ZbR x true r3) * 11 + (r2 ++ ZaM s x).length, by rw [List.length_append]; omega, rfl, by rw [List.length_append]; omega, ⟨fun y hy => ?_, fun y hy => ?_, fun y hy => ?_, fun z hz y hy => ?_, fun y => ?_, ZnS _ _ hI.nd⟩⟩
    ·rcases YD.1 hy with q | q
     ·exact hI.t y (List.mem_cons_of_mem _ q)
     ·exact .tl hx q
    ·rcases (ZfW x y r3).1 hy with rfl | q
     ·exact hx
     ·exact hI.o y q
    ·rw [ZfW]
     rcases hI.c0 y hy with q | q
     ·rcases Yo.1 q with rfl | q
      ·exact .inr (.inl rfl)
      ·exact .inl (YN _ q)
     ·exact .inr (.inr q)
    ·rw [ZfW]
     rcases (ZfW x z r3).1 hz with rfl | hz
     ·exact .inl (Yar _ hy)
     ·rcases hI.c z hz y hy with q | q
      ·rcases Yo.1 q with rfl | q
       ·exact .inr (.inl rfl)
       ·exact .inl (YN _ q)
      ·exact .inr (.inr q)
    ·rw [ZfW, ← hI.k y]
     rcases Zgf x true r3 with ⟨a, e⟩ | ⟨a, e⟩
     ·rw [e]
      exact ⟨.inr, fun q => q.elim (fun q => q ▸ a) id⟩
     ·rw [e, YD, YG]
      exact ⟨fun q => q.elim .inr fun q => .inl q.symm, fun q => q.elim (fun q => .inr q.symm) .inl⟩) big (Zpl s [] * 11 + (ZaM s n).length) (ZaM s n, []) (Zbg (by
   have h1 : Zpl s [] ≤ (nmM s).length := Y8 _ _
   have := h.nl n
   omega)) ⟨rfl, by
   have h1 : Zpl s [] ≤ (nmM s).length := Y8 _ _
   have := h.nl n
   omega, ⟨fun x hx => .one hx, fun x hx => by simp [lkM, Zb9, Mv.z] at hx, fun x hx => .inl hx, fun y hy => by simp [lkM, Zb9, Mv.z] at hy, fun x => by simp [ZbO, lkM, Zb9, Mv.z], by simp [ZbO]⟩⟩
 obtain ⟨o, e, hq⟩ := q1
 cases o with
 | inr _ => exact hq.elim
 | inl r =>
  refine ⟨r, ?_, hq⟩
  dsimp only [ZbC, ZmC, Zlc, Znj, Zt7, vz, vw, lr, lc, fl]
  simp only [m56 hw h, Option.bind_some, e, Sum.elim_inl]
end
end Go.Proofs.Ythhipejbnbochaa
