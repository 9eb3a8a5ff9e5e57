import Derived.Test.YtpjofefihlbppaaGreatCu12
import Derived.Test.YtpjofefihlbppaaGreatRows
import Derived.WalkKit
import Derived.ProofKit
import Derived.OpenShut
import Derived.Carry
import Derived.Deep.DeepHandedRow
import Derived.Test.YtpjofefihlbppaaGreatCu15
import Derived.Test.YtpjofefihlbppaaGreatCu28
import Derived.Test.YtpjofefihlbppaaGreatCu00
namespace Go.Proofs.YtpjofefihlbppaaGreat
set_option linter.all false
open Go Go.Eng Go.ChangeShapes Go.WideShapes Go.ChangeAt Go.RowKit
theorem Zkc {H : Type} (b : List UInt8) : Rows.uptoBulk (DataW.lit (H := H) (.string b)) = b.length + 1 := by simp only [Rows.uptoBulk]
theorem Zky {H : Type} (a b : List (DataW H)) : Rows.uptoBulk (.slice a b) = Rows.uptoBulkAll a + Rows.uptoBulkAll b + 1 := by simp only [Rows.uptoBulk]
theorem Zq4 {H : Type} (a : List (DataW H)) : Rows.uptoBulk (.agg a) = Rows.uptoBulkAll a + 1 := by simp only [Rows.uptoBulk]
def Zik (W : World) (ds : List D) (cs : List Value) (o : Nat) : Prop := ∀ (i : Nat) (d : D), ds[i]? = some d → ∃ c, cs[o + i]? = some c ∧ RepD W (· < W.heap.size) d c
def Zi0 (W : World) (ds : List D) (cs : List Value) : Prop := ds.length = cs.length ∧ Zik W ds cs 0
theorem Zik.app {W : World} {ds es : List D} {cs : List Value} {o : Nat} (h : Zik W ds cs o) (k : Zik W es cs (o + ds.length)) : Zik W (ds ++ es) cs o := fun i d hi => by
 rcases Yn i ds.length with hl | hl
 ·rw [Yf hl] at hi; exact h i d hi
 ·rw [Yk hl] at hi
  obtain ⟨c, h1, h2⟩ := k _ d hi
  grind
theorem Zik.nil {W : World} {cs : List Value} {o : Nat} : Zik W [] cs o := fun i d h => by simp at h
theorem Zi0.at {W : World} {ds : List D} {cs : List Value} {o k : Nat} (h : Zi0 W ds ((cs.drop o).take k)) : Zik W ds cs o := fun i d hi => by
 obtain ⟨c, h1, h2⟩ := h.2 i d hi
 grind
mutual
def bk : D → Nat
 | .int _ _ => 0
 | .bool _ => 0
 | .str s => s.size
 | .list es => ZlJ es
 | .map _ es => ZlJ es
def bkL : List D → Nat
 | [] => 0
 | d :: l => bk d + bkL l
def ZlJ : List (List D) → Nat
 | [] => 0
 | e :: l => bkL e + 1 + ZlJ l
end
theorem Zjl : ∀ a b : List D, bkL (a ++ b) = bkL a + bkL b
 | [], b => by rw [Y9, bkL, Yy]
 | d :: a, b => by rw [YaD, bkL, bkL, Zjl a b, Yo]
theorem Zm6 (d : D) : bkL [d] = bk d := by rw [bkL, bkL, Yah]
theorem ZcR {α : Type} {e : α → List D} : ∀ l : List α, l.length ≤ ZlJ (l.map e)
 | [] => Yal _
 | x :: l => by have := ZcR (e := e) l; rw [YF, ZlJ, Y3]; omega
theorem ZdD {α : Type} {e : α → List D} {x : α} : ∀ {l : List α}, x ∈ l → bkL (e x) + 1 ≤ ZlJ (l.map e)
 | y :: l, h => by
  rw [YF, ZlJ]
  cases Yw.1 h with
  | inl h => subst h; omega
  | inr h => have := ZdD (e := e) h; omega
section
variable {H : Type} (enc : TypeId × Value → H) (P : Program) (W : World)
def RdN {α : Type} (n : Nat) (t : TypeId) (e : α → List D) : Prop :=
 ∀ cs x, DataW.trod enc P W 0 (fun _ => true) true n t cs = some x → ∃ v : α, Zi0 W (e v) cs ∧ bkL (e v) + 1 ≤ Rows.uptoBulk x.1
end
section
variable {H : Type} {enc : TypeId × Value → H} {P : Program} {W : World} {n : Nat} {t : TypeId}
theorem Zhg (d : DataW H) : 1 ≤ Rows.uptoBulk d := by cases d <;> (try (rename_i l; cases l)) <;> simp [Rows.uptoBulk]
theorem ZdM {d : D} {c : Value} (h : RepD W (· < W.heap.size) d c) : Zi0 W [d] [c] := ⟨rfl, fun i d' hi => by
 cases i with
 | zero => cases hi; exact ⟨c, rfl, h⟩
 | succ i => simp at hi⟩
theorem Zc1 {k : IntKind} (ht : P.underlying t = some (.int k)) : RdN enc P W n t (fun v : Int => [.int k v]) := fun cs x hx => by
 obtain ⟨m, rfl, rfl, _⟩ := DataW.trod_int ht hx
 exact ⟨m, ZdM (.int _ _), Zhg _⟩
theorem ZmO (ht : P.underlying t = some .bool) : RdN enc P W n t (fun v : Bool => [.bool v]) := fun cs x hx => by
 obtain ⟨m, rfl, rfl⟩ := DataW.trod_bool ht hx
 exact ⟨m, ZdM (.bool _), Zhg _⟩
theorem Zc6 (ht : P.underlying t = some .string) : RdN enc P W n t (fun v : ByteArray => [.str v]) := fun cs x hx => by
 obtain ⟨m, rfl, rfl, _⟩ := DataW.trod_string ht hx
 refine ⟨m, ZdM (.str _), ?_⟩
 rw [Zkc, Zm6]
 exact Ye _
theorem ZsE {α : Type} {e : α → List D} : ∀ (l : List α) (xs : List (DataW H × List MemPlace)), l.length = xs.length → (∀ (i : Nat) (v : α), l[i]? = some v → ∃ y : DataW H × List MemPlace, xs[i]? = some y ∧ bkL (e v) + 1 ≤ Rows.uptoBulk y.1) → ZlJ (l.map e) ≤ Rows.uptoBulkAll (xs.map (·.1))
 | [], _, _, _ => Yal _
 | x :: l, [], h, _ => by cases h
 | x :: l, y :: xs, h, k => by
  have := ZsE l xs (YaH h) (fun i v hi => k (i + 1) v hi)
  obtain ⟨y', h1, h2⟩ := k 0 x rfl
  cases h1
  rw [YF, YF, ZlJ]
  simp only [Rows.uptoBulkAll]
  omega
theorem ZoL {α : Type} {Q : Nat → α → Prop} : ∀ (len : Nat), (∀ i, i < len → ∃ v, Q i v) → ∃ l : List α, l.length = len ∧ ∀ i v, l[i]? = some v → Q i v
 | 0, _ => ⟨[], rfl, fun i v h => by simp at h⟩
 | len + 1, h => by
  obtain ⟨l, h1, h2⟩ := ZoL len (fun i hi => h i (by omega))
  obtain ⟨v, hv⟩ := h len (by omega)
  refine ⟨l ++ [v], by simp [h1], fun i w hi => ?_⟩
  grind
theorem ZaT {α : Type} {e : TypeId} {enc' : α → List D} {sz : Nat} (ht : P.underlying t = some (.slice e)) (hsz : P.cellsOf e = sz) (hs0 : sz ≠ 0) (hl : ∀ x, (enc' x).length = sz) (h : ∀ m, m < n → RdN enc P W m e enc') :
  RdN enc P W n t (fun l : List α => [.list (l.map enc')]) := fun cs x hx => by
 rcases DataW.trod_slice ht hx with ⟨rfl, rfl⟩ | ⟨a, len, cap, elems, rest, m, rfl, rfl, rfl, hb, hlc, hcm, hel, hi, _, _⟩
 ·exact ⟨[], ZdM .nil, Zhg _⟩
 ·have each : ∀ i, i < len → ∃ v : α, ∃ y cs', elems[i]? = some y ∧ W.cells? 0 (a.add (i * sz)) sz = some cs' ∧ Zi0 W (enc' v) cs' ∧ bkL (enc' v) + 1 ≤ Rows.uptoBulk y.1 := fun i hlt => by
   have h1 := hi i hlt
   rw [Yb (by omega), hsz] at h1
   obtain ⟨cs', h2, h3⟩ := Ya6.1 h1
   obtain ⟨v, h4, h5⟩ := h m (by omega) cs' _ h3
   exact ⟨v, _, cs', Yb (by omega), h2, h4, h5⟩
  obtain ⟨l, hll, hlq⟩ := ZoL len each
  have cell : ∀ (i j : Nat) (e' : List D) (x : D), (l.map enc')[i]? = some e' → e'[j]? = some x → ∃ c, W.cell? (a.add (i * sz + j)) = some c ∧ RepD W (· < W.heap.size) x c := fun i j e' x hi' hj => by
   rw [Yv] at hi'
   cases hv : l[i]? with
   | none => rw [hv] at hi'; cases hi'
   | some v =>
    rw [hv] at hi'
    cases hi'
    obtain ⟨y, cs', g1, g2, g3, g4⟩ := hlq i v hv
    obtain ⟨c, g5, g6⟩ := g3.2 j x hj
    rw [Yy] at g5
    obtain ⟨_, g7, g8⟩ := World.cells?_some g2
    have hjl : j < sz := by
     rw [← hl v]
     rcases Yn j (enc' v).length with h | h
     ·exact h
     ·rw [Yu h] at hj; cases hj
    refine ⟨c, ?_, g6⟩
    rw [← Go.Eng.add_add, g8 j hjl, g5]
  refine ⟨l, ZdM ?_, ?_⟩
  ·have hlen : (l.map enc').length = len := by simp [hll]
   have := RepD.list (w := W) (S := (· < W.heap.size)) (l.map enc') a sz cap (fun i j => (W.cell? (a.add (i * sz + j))).getD undef) (fun hne => by
     have h0 : 0 < len := by
      rcases YaT len with h | h
      ·exact absurd (YO (hlen.trans h)) hne
      ·exact h
     obtain ⟨v, y, cs', _, g2, _⟩ := each 0 h0
     have := World.cells?_block g2 (by omega)
     rw [YaL] at this
     rw [← Go.Eng.block_add a 0]; exact this)
    (by rw [hlen]; exact hlc) (fun e' he => by obtain ⟨y, _, rfl⟩ := YC.1 he; exact hl y)
    (fun i j e' x hi' hj => by obtain ⟨c, g1, _⟩ := cell i j e' x hi' hj; rw [g1]; rfl)
    (fun i j e' x hi' hj => by obtain ⟨c, g1, g2⟩ := cell i j e' x hi' hj; rw [g1]; exact g2)
   rw [hlen] at this
   exact this
  ·rw [Zky, Zm6, bk]
   have := ZsE (e := enc') l elems (by omega) (fun i v hv => by
    obtain ⟨y, cs', g1, g2, g3, g4⟩ := hlq i v hv
    exact ⟨y, g1, g4⟩)
   omega
def FB (xs : List (DataW H × List MemPlace)) (i : Nat) : Nat := Rows.uptoBulkAll ((xs.drop i).map (·.1))
theorem ZaG {xs : List (DataW H × List MemPlace)} {i : Nat} {a b : List D} (h : bkL a + 1 + FB xs (i + 1) ≤ FB xs i) (k : bkL b ≤ FB xs (i + 1)) : bkL (a ++ b) ≤ FB xs i := by
 rw [Zjl]; omega
theorem ZcY {xs : List (DataW H × List MemPlace)} {i : Nat} {a : List D} (h : bkL a + 1 + FB xs (i + 1) ≤ FB xs i) : bkL a ≤ FB xs i := by omega
theorem ZcZ {xs : List (DataW H × List MemPlace)} {a : List D} (h : bkL a ≤ FB xs 0) : bkL a + 1 ≤ Rows.uptoBulk (.agg (xs.map (·.1))) := by
 rw [Zq4]; exact Nat.succ_le_succ h
theorem ZqZ {α : Type} {e : α → List D} {m i : Nat} {t' : TypeId} {piece : List Value} {xs : List (DataW H × List MemPlace)} (h : RdN enc P W m t' e) (hf : DataW.trod enc P W 0 (fun _ => true) true m t' piece = xs[i]?) (hi : i < xs.length) :
  ∃ v, Zi0 W (e v) piece ∧ bkL (e v) + 1 + FB xs (i + 1) ≤ FB xs i := by
 rw [Yb hi] at hf
 obtain ⟨v, h1, h2⟩ := h _ _ hf
 refine ⟨v, h1, ?_⟩
 unfold FB
 rw [Y1 hi, YF]
 simp only [Rows.uptoBulkAll]
 omega
theorem rf {α : Type} {e : α → List D} {m i k : Nat} {t' : TypeId} {piece : List Value} {xs : List (DataW H × List MemPlace)} (h : RdN enc P W m t' e) (hf : DataW.trod enc P W 0 (fun _ => true) true m t' piece = xs[i]?) (hx : xs.length = k) (hi : Nat.blt i k = true := by kernel_rfl) :
  ∃ v, Zi0 W (e v) piece ∧ bkL (e v) + 1 + FB xs (i + 1) ≤ FB xs i := ZqZ h hf (by rw [hx]; exact Yc hi)
theorem Zo3 {α : Type} {e e' : α → List D} (he : ∀ x, e x = e' x) (h : RdN enc P W n t e') : RdN enc P W n t e := fun cs x hx => by
 obtain ⟨v, h1, h2⟩ := h cs x hx
 grind
theorem Zos {α : Type} {e : α → List D} {fs : Array Field} {r : Reach} {base : Nat} {v : Value} {d : DataW H} {p : List MemPlace} (rd : ∀ n, RdN enc P W n t e) (ht : P.underlying t = some (.struct fs)) (hv : Value.okWide P W r base t v)
  (h : DataW.Trod enc P W 0 (fun _ => true) true t v d p) : ∃ x : α, (∀ m l, RepA W (· < W.heap.size) (fun _ => ⟨0, false, 0, 0, []⟩) m l (.agg ((e x).map .d)) v) ∧ bkL (e x) + 1 ≤ Rows.uptoBulk d := by
 obtain ⟨cs, rfl, _⟩ := okWide_struct ht hv
 obtain ⟨n, hn⟩ := h
 obtain ⟨x, h1, h2⟩ := rd n _ _ hn
 have hl : (e x).length = cs.size := by rw [h1.1]; simp [Value.cells]
 have key : ∀ (i : Nat) (c : Value) , cs[i]? = some c → ∃ d, (e x)[i]? = some d ∧ RepD W (· < W.heap.size) d c := fun i c hc => by
  have hlt : i < (e x).length := by
   grind
  obtain ⟨c', h3, h4⟩ := h1.2 i _ (Yb hlt)
  have : c' = c := by
   rw [Yy] at h3
   have : cs.toList[i]? = some c' := h3
   grind
  grind
 refine ⟨x, fun m l => .agg _ _ (by rw [Ys, hl]) (fun i c hc => ?_) (fun i y c hy hc => ?_), h2⟩
 ·obtain ⟨d, _, h3⟩ := key i c hc; exact h3.one
 ·obtain ⟨d, h3, h4⟩ := key i c hc
  rw [Yv, h3] at hy
  cases hy
  exact .d _ _ h4
theorem ZnI {r : Reach} {base : Nat} {v : Value} {d : DataW H} {p : List MemPlace} (ht : P.underlying t = some .string) (hv : Value.okWide P W r base t v) (h : DataW.Trod enc P W 0 (fun _ => true) true t v d p) :
  ∃ x : ByteArray, (∀ S Hp m l, RepA W S Hp m l (.d (.str x)) v) ∧ x.size + 1 ≤ Rows.uptoBulk d := by
 obtain ⟨x, rfl⟩ := okWide_string ht hv
 obtain ⟨n, hn⟩ := h
 obtain ⟨s, h1, h2, _⟩ := DataW.trod_string ht hn
 have h1 : x = s := by simpa [Value.cells] using h1
 subst h1
 have h2 : d = .lit (.string x.data.toList) := congrArg Prod.fst h2
 subst h2
 refine ⟨x, fun _ _ _ _ => .d _ _ (.str _), ?_⟩
 rw [Zkc]
 exact Ye _
def Hp0 : Hp := fun _ => ⟨0, false, 0, 0, []⟩
theorem ok0 (m : Mu) : Ok 0 Hp0 m (· < W.heap.size) W := ⟨fun _ h => h, fun _ _ h => (by cases h), fun _ _ h => (by cases h), fun _ _ _ _ h => (by cases h), fun _ _ h => (by cases h), ⟨fun _ _ h => (by cases h), fun _ _ h => (by cases h), fun _ _ _ _ h => (by cases h)⟩⟩
def ZH2 (w : World) (S : Nat → Prop) (Hp : Hp) (m : Mu) (l : Nat) : List AV → List Value → Prop
 | [], [] => True
 | x :: xs, v :: vs => RepA w S Hp m l x v ∧ ZH2 w S Hp m l xs vs
 | _, _ => False
theorem Zu3 {w : World} {S : Nat → Prop} {Hp : Hp} {m : Mu} {l : Nat} {xs : List AV} {vs : List Value} (h : ZH2 w S Hp m l xs vs) : ZeE w S Hp m l xs vs.toArray := by
 suffices hh : xs.length = vs.length ∧ ∀ (i : Nat) (x : AV) (v : Value), xs[i]? = some x → vs[i]? = some v → RepA w S Hp m l x v by
  exact ⟨by simpa using hh.1, fun i x v hx hv => hh.2 i x v hx (by simpa using hv)⟩
 induction xs generalizing vs with
 | nil => cases vs with
  | nil => exact ⟨rfl, fun i x v h => by simp at h⟩
  | cons _ _ => exact h.elim
 | cons x xs ih => cases vs with
  | nil => exact h.elim
  | cons v vs =>
   obtain ⟨h1, h2⟩ := ih h.2
   refine ⟨by simp [h1], fun i y u hy hu => ?_⟩
   cases i with
   | zero => simp at hy hu; subst hy; subst hu; exact h.1
   | succ i => exact h2 i y u (by simpa using hy) (by simpa using hu)
theorem Zpp {f : Func} {s : ChangeSpec} {W' : World} {args : Array Value} {ds gs : List (DataW H)} {before : List MemPlace} {u : TypeId} (hW : DataW.Whole enc P f.params.toList s.vars false W args.toList ds gs before) (hvars : s.vars = [])
  (hlaid : laidOutB P = true) (hrd : ∀ t ∈ f.params.toList, P.readableRec t = true ∧ t < P.types.size) (hres : f.resultTypes.toList = [u]) (hu : P.underlying u = some .bool)
  (hfn : s.fn H (ds ++ gs) = { results := [.lit (.bool true)], args := ds }) (hb : Below W.heap.size W W') : s.post enc P f false true false false W args (.bool true) W' := by
 obtain ⟨p, q, hA, hV, rfl, hfz, hnd⟩ := id hW
 rw [hvars] at hV
 obtain ⟨rfl, rfl⟩ := trodVars_none hV
 refine ⟨ds, [], p ++ [], [], p, [], hW, ?_, ?_, ?_, ?_, fun h => by cases h⟩
 ·rw [hfn, hres]
  have : (Value.bool true).resultList f.resultTypes.size = [.bool true] := by
   have : f.resultTypes.size = 1 := by rw [← YQ, hres]; rfl
   rw [this]; rfl
  rw [this]
  exact trodAll_cons_mk (shut_bool hu _) trodAll_mk0
 ·rw [hfn]
  have key : ∀ (ts : List TypeId) (vs : List Value) (es : List (DataW H)) (ps : List MemPlace), (∀ t ∈ ts, P.readableRec t = true ∧ t < P.types.size) → DataW.TrodAll enc P W 0 (fun _ => true) true ts vs es ps →
    DataW.TrodAll enc P W' 0 (fun b => decide (b < W.heap.size)) true ts vs es ps := by
   intro ts
   induction ts with
   | nil => intro vs es ps _ h; obtain ⟨rfl, rfl, rfl⟩ := trodAll_nil h; exact trodAll_mk0
   | cons t ts ih =>
    intro vs es ps hr h
    have hlt := DataW.TrodAll.lt h
    obtain ⟨v, vs1, d, ds1, a, b, rfl, rfl, rfl, h1, h2⟩ := trodAll_cons h
    exact trodAll_cons_mk (Below.trod hlaid (hr t (by simp)).1 (hr t (by simp)).2 h1 hb (fun x hx => hlt x (Y5 _ hx))) (ih _ _ _ (fun t ht => hr t (by simp [ht])) h2)
  exact key _ _ _ _ hrd hA
 ·rw [hvars, hfn]; exact rfl
 ·refine ⟨hb.os, hb.output, fun i hi => ?_⟩
  rw [hb.block i hi]
  cases W.heap[i]? with
  | none => rfl
  | some o => cases o <;> simp
end
end Go.Proofs.YtpjofefihlbppaaGreat
namespace Go.Proofs.YtpjofefihlbppaaGreat
set_option linter.all false
open Go Go.Eng
section
variable {H : Type} {enc : TypeId × Value → H} {W : World}
set_option maxRecDepth 100000
theorem ZBj (n : Nat) : RdN enc Tryz.prog W n 75 ZaK := fun cs x hx => by
 obtain ⟨xs, m, rfl, rfl, hcl, hxl, hf⟩ := DataW.trod_struct Tryz.underlying75 hx
 obtain ⟨v0, r0, b0⟩ := rf (Zc1 Tryz.underlying3) (hf 0 _ rfl) hxl
 obtain ⟨v1, r1, b1⟩ := rf (Zc1 Tryz.underlying3) (hf 1 _ rfl) hxl
 obtain ⟨v2, r2, b2⟩ := rf (Zc1 Tryz.underlying27) (hf 2 _ rfl) hxl
 obtain ⟨v3, r3, b3⟩ := rf (Zc6 Tryz.underlying9) (hf 3 _ rfl) hxl
 have q := ZcZ (ZaG b0 (ZaG b1 (ZaG b2 (ZcY b3))))
 exact ⟨.mk v0 v1 v2 v3, ⟨by rw [hcl]; kernel_rfl, (r0.at.app (r1.at.app (r2.at.app r3.at)))⟩, q⟩
theorem ZrJ (n : Nat) (h : ∀ k, k < n → RdN enc Tryz.prog W k 33 ZaZ) : RdN enc Tryz.prog W n 73 ePr := fun cs x hx => by
 obtain ⟨xs, m, rfl, rfl, hcl, hxl, hf⟩ := DataW.trod_struct Tryz.underlying73 hx
 obtain ⟨v0, r0, b0⟩ := rf (h m (by omega)) (hf 0 _ rfl) hxl
 obtain ⟨v1, r1, b1⟩ := rf (h m (by omega)) (hf 1 _ rfl) hxl
 have q := ZcZ (ZaG b0 (ZcY b1))
 exact ⟨.mk v0 v1, ⟨by rw [hcl]; kernel_rfl, (r0.at.app r1.at)⟩, q⟩
theorem Zlz (n : Nat) (h : ∀ k, k < n → RdN enc Tryz.prog W k 33 ZaZ) : RdN enc Tryz.prog W n 62 Zhs := fun cs x hx => by
 obtain ⟨xs, m, rfl, rfl, hcl, hxl, hf⟩ := DataW.trod_struct Tryz.underlying62 hx
 obtain ⟨v0, r0, b0⟩ := rf (Zc1 Tryz.underlying3) (hf 0 _ rfl) hxl
 obtain ⟨v1, r1, b1⟩ := rf (h m (by omega)) (hf 1 _ rfl) hxl
 have q := ZcZ (ZaG b0 (ZcY b1))
 exact ⟨.mk v0 v1, ⟨by rw [hcl]; kernel_rfl, (r0.at.app r1.at)⟩, q⟩
theorem ZoZ (n : Nat) : RdN enc Tryz.prog W n 33 ZaZ := by
 induction n using Nat.strongRecOn with
 | ind n ih =>
 intro cs x hx
 obtain ⟨xs, m, rfl, rfl, hcl, hxl, hf⟩ := DataW.trod_struct Tryz.underlying33 hx
 obtain ⟨v0, r0, b0⟩ := rf (Zc1 Tryz.underlying3) (hf 0 _ rfl) hxl
 obtain ⟨v1, r1, b1⟩ := rf (Zc1 Tryz.underlying27) (hf 1 _ rfl) hxl
 obtain ⟨v2, r2, b2⟩ := rf (Zc6 Tryz.underlying9) (hf 2 _ rfl) hxl
 obtain ⟨v3, r3, b3⟩ := rf (ZaT Tryz.underlying28 (by kernel_rfl : Tryz.prog.cellsOf 33 = 7) (by decide) (fun x => by rw [Zed]; rfl) (fun k hk => (Zo3 Zed (ih k (by omega))))) (hf 3 _ rfl) hxl
 obtain ⟨v4, r4, b4⟩ := rf (ZaT Tryz.underlying29 (by kernel_rfl : Tryz.prog.cellsOf 73 = 14) (by decide) (fun x => by rw [Zij]; rfl) (fun k hk => (Zo3 Zij (ZrJ k (fun j hj => ih j (by omega)))))) (hf 4 _ rfl) hxl
 obtain ⟨v5, r5, b5⟩ := rf (ZaT Tryz.underlying30 (by kernel_rfl : Tryz.prog.cellsOf 62 = 8) (by decide) (fun x => by rw [ZdR]; rfl) (fun k hk => (Zo3 ZdR (Zlz k (fun j hj => ih j (by omega)))))) (hf 5 _ rfl) hxl
 obtain ⟨v6, r6, b6⟩ := rf (ZaT Tryz.underlying31 (by kernel_rfl : Tryz.prog.cellsOf 75 = 4) (by decide) (fun _ => rfl) (fun k hk => (ZBj k))) (hf 6 _ rfl) hxl
 have q := ZcZ (ZaG b0 (ZaG b1 (ZaG b2 (ZaG b3 (ZaG b4 (ZaG b5 (ZcY b6)))))))
 exact ⟨.mk v0 v1 v2 v3 v4 v5 v6, ⟨by rw [hcl]; kernel_rfl, (r0.at.app (r1.at.app (r2.at.app (r3.at.app (r4.at.app (r5.at.app r6.at))))))⟩, q⟩
theorem ZAS (n : Nat) : RdN enc Tryz.prog W n 48 ZED := fun cs x hx => by
 obtain ⟨xs, m, rfl, rfl, hcl, hxl, hf⟩ := DataW.trod_struct Tryz.underlying48 hx
 obtain ⟨v0, r0, b0⟩ := rf (Zc1 Tryz.underlying3) (hf 0 _ rfl) hxl
 obtain ⟨v1, r1, b1⟩ := rf (Zc6 Tryz.underlying9) (hf 1 _ rfl) hxl
 have q := ZcZ (ZaG b0 (ZcY b1))
 exact ⟨.mk v0 v1, ⟨by rw [hcl]; kernel_rfl, (r0.at.app r1.at)⟩, q⟩
theorem Zk2 (n : Nat) : RdN enc Tryz.prog W n 116 eNt := fun cs x hx => by
 obtain ⟨xs, m, rfl, rfl, hcl, hxl, hf⟩ := DataW.trod_struct Tryz.underlying116 hx
 obtain ⟨v0, r0, b0⟩ := rf (Zc6 Tryz.underlying9) (hf 0 _ rfl) hxl
 obtain ⟨v1, r1, b1⟩ := rf (ZoZ m) (hf 1 _ rfl) hxl
 have q := ZcZ (ZaG b0 (ZcY b1))
 exact ⟨.mk v0 v1, ⟨by rw [hcl]; kernel_rfl, (r0.at.app r1.at)⟩, q⟩
theorem Zzj (n : Nat) : RdN enc Tryz.prog W n 51 Zat := fun cs x hx => by
 obtain ⟨xs, m, rfl, rfl, hcl, hxl, hf⟩ := DataW.trod_struct Tryz.underlying51 hx
 obtain ⟨v0, r0, b0⟩ := rf (Zc1 Tryz.underlying3) (hf 0 _ rfl) hxl
 obtain ⟨v1, r1, b1⟩ := rf (Zc6 Tryz.underlying9) (hf 1 _ rfl) hxl
 obtain ⟨v2, r2, b2⟩ := rf (Zc1 Tryz.underlying3) (hf 2 _ rfl) hxl
 obtain ⟨v3, r3, b3⟩ := rf (Zc1 Tryz.underlying3) (hf 3 _ rfl) hxl
 obtain ⟨v4, r4, b4⟩ := rf (ZAS m) (hf 4 _ rfl) hxl
 obtain ⟨v5, r5, b5⟩ := rf (Zc6 Tryz.underlying9) (hf 5 _ rfl) hxl
 obtain ⟨v6, r6, b6⟩ := rf (ZmO Tryz.underlying4) (hf 6 _ rfl) hxl
 obtain ⟨v7, r7, b7⟩ := rf (ZoZ m) (hf 7 _ rfl) hxl
 obtain ⟨v8, r8, b8⟩ := rf (ZaT Tryz.underlying49 (by kernel_rfl : Tryz.prog.cellsOf 116 = 8) (by decide) (fun _ => rfl) (fun k hk => (Zk2 k))) (hf 8 _ rfl) hxl
 have q := ZcZ (ZaG b0 (ZaG b1 (ZaG b2 (ZaG b3 (ZaG b4 (ZaG b5 (ZaG b6 (ZaG b7 (ZcY b8)))))))))
 exact ⟨.mk v0 v1 v2 v3 v4 v5 v6 v7 v8, ⟨by rw [hcl]; kernel_rfl, (r0.at.app (r1.at.app (r2.at.app (r3.at.app (r4.at.app (r5.at.app (r6.at.app (r7.at.app r8.at))))))))⟩, q⟩
theorem ZtG (n : Nat) : RdN enc Tryz.prog W n 186 ZaB := fun cs x hx => by
 obtain ⟨xs, m, rfl, rfl, hcl, hxl, hf⟩ := DataW.trod_struct Tryz.underlying186 hx
 obtain ⟨v0, r0, b0⟩ := rf (Zc1 Tryz.underlying3) (hf 0 _ rfl) hxl
 obtain ⟨v1, r1, b1⟩ := rf (Zc1 Tryz.underlying3) (hf 1 _ rfl) hxl
 have q := ZcZ (ZaG b0 (ZcY b1))
 exact ⟨.mk v0 v1, ⟨by rw [hcl]; kernel_rfl, (r0.at.app r1.at)⟩, q⟩
theorem ZAN (n : Nat) : RdN enc Tryz.prog W n 56 Zan := fun cs x hx => by
 obtain ⟨xs, m, rfl, rfl, hcl, hxl, hf⟩ := DataW.trod_struct Tryz.underlying56 hx
 obtain ⟨v0, r0, b0⟩ := rf (Zc6 Tryz.underlying9) (hf 0 _ rfl) hxl
 obtain ⟨v1, r1, b1⟩ := rf (ZaT Tryz.underlying52 (by kernel_rfl : Tryz.prog.cellsOf 51 = 16) (by decide) (fun _ => rfl) (fun k hk => (Zzj k))) (hf 1 _ rfl) hxl
 obtain ⟨v2, r2, b2⟩ := rf (ZaT Tryz.underlying53 (by kernel_rfl : Tryz.prog.cellsOf 186 = 2) (by decide) (fun _ => rfl) (fun k hk => (ZtG k))) (hf 2 _ rfl) hxl
 obtain ⟨v3, r3, b3⟩ := rf (ZaT Tryz.underlying54 (by kernel_rfl : Tryz.prog.cellsOf 9 = 1) (by decide) (fun _ => rfl) (fun k hk => (Zc6 Tryz.underlying9))) (hf 3 _ rfl) hxl
 obtain ⟨v4, r4, b4⟩ := rf (ZaT Tryz.underlying49 (by kernel_rfl : Tryz.prog.cellsOf 116 = 8) (by decide) (fun _ => rfl) (fun k hk => (Zk2 k))) (hf 4 _ rfl) hxl
 have q := ZcZ (ZaG b0 (ZaG b1 (ZaG b2 (ZaG b3 (ZcY b4)))))
 exact ⟨.mk v0 v1 v2 v3 v4, ⟨by rw [hcl]; kernel_rfl, (r0.at.app (r1.at.app (r2.at.app (r3.at.app r4.at))))⟩, q⟩
theorem ZAT (n : Nat) : RdN enc Tryz.prog W n 91 Zdx := fun cs x hx => by
 obtain ⟨xs, m, rfl, rfl, hcl, hxl, hf⟩ := DataW.trod_struct Tryz.underlying91 hx
 obtain ⟨v0, r0, b0⟩ := rf (Zc6 Tryz.underlying9) (hf 0 _ rfl) hxl
 obtain ⟨v1, r1, b1⟩ := rf (Zc1 Tryz.underlying3) (hf 1 _ rfl) hxl
 obtain ⟨v2, r2, b2⟩ := rf (ZaT Tryz.underlying49 (by kernel_rfl : Tryz.prog.cellsOf 116 = 8) (by decide) (fun _ => rfl) (fun k hk => (Zk2 k))) (hf 2 _ rfl) hxl
 have q := ZcZ (ZaG b0 (ZaG b1 (ZcY b2)))
 exact ⟨.mk v0 v1 v2, ⟨by rw [hcl]; kernel_rfl, (r0.at.app (r1.at.app r2.at))⟩, q⟩
theorem ZBO (n : Nat) : RdN enc Tryz.prog W n 89 Zap := fun cs x hx => by
 obtain ⟨xs, m, rfl, rfl, hcl, hxl, hf⟩ := DataW.trod_struct Tryz.underlying89 hx
 obtain ⟨v0, r0, b0⟩ := rf (Zc6 Tryz.underlying9) (hf 0 _ rfl) hxl
 obtain ⟨v1, r1, b1⟩ := rf (ZmO Tryz.underlying4) (hf 1 _ rfl) hxl
 obtain ⟨v2, r2, b2⟩ := rf (ZaT Tryz.underlying87 (by kernel_rfl : Tryz.prog.cellsOf 91 = 3) (by decide) (fun _ => rfl) (fun k hk => (ZAT k))) (hf 2 _ rfl) hxl
 obtain ⟨v3, r3, b3⟩ := rf (ZaT Tryz.underlying53 (by kernel_rfl : Tryz.prog.cellsOf 186 = 2) (by decide) (fun _ => rfl) (fun k hk => (ZtG k))) (hf 3 _ rfl) hxl
 obtain ⟨v4, r4, b4⟩ := rf (ZaT Tryz.underlying49 (by kernel_rfl : Tryz.prog.cellsOf 116 = 8) (by decide) (fun _ => rfl) (fun k hk => (Zk2 k))) (hf 4 _ rfl) hxl
 have q := ZcZ (ZaG b0 (ZaG b1 (ZaG b2 (ZaG b3 (ZcY b4)))))
 exact ⟨.mk v0 v1 v2 v3 v4, ⟨by rw [hcl]; kernel_rfl, (r0.at.app (r1.at.app (r2.at.app (r3.at.app r4.at))))⟩, q⟩
theorem ZDx (n : Nat) : RdN enc Tryz.prog W n 96 Zen := fun cs x hx => by
 obtain ⟨xs, m, rfl, rfl, hcl, hxl, hf⟩ := DataW.trod_struct Tryz.underlying96 hx
 obtain ⟨v0, r0, b0⟩ := rf (Zc6 Tryz.underlying9) (hf 0 _ rfl) hxl
 obtain ⟨v1, r1, b1⟩ := rf (Zc6 Tryz.underlying9) (hf 1 _ rfl) hxl
 obtain ⟨v2, r2, b2⟩ := rf (Zc6 Tryz.underlying9) (hf 2 _ rfl) hxl
 obtain ⟨v3, r3, b3⟩ := rf (Zc1 Tryz.underlying3) (hf 3 _ rfl) hxl
 obtain ⟨v4, r4, b4⟩ := rf (ZaT Tryz.underlying49 (by kernel_rfl : Tryz.prog.cellsOf 116 = 8) (by decide) (fun _ => rfl) (fun k hk => (Zk2 k))) (hf 4 _ rfl) hxl
 have q := ZcZ (ZaG b0 (ZaG b1 (ZaG b2 (ZaG b3 (ZcY b4)))))
 exact ⟨.mk v0 v1 v2 v3 v4, ⟨by rw [hcl]; kernel_rfl, (r0.at.app (r1.at.app (r2.at.app (r3.at.app r4.at))))⟩, q⟩
theorem ZBB (n : Nat) : RdN enc Tryz.prog W n 94 Zaq := fun cs x hx => by
 obtain ⟨xs, m, rfl, rfl, hcl, hxl, hf⟩ := DataW.trod_struct Tryz.underlying94 hx
 obtain ⟨v0, r0, b0⟩ := rf (Zc6 Tryz.underlying9) (hf 0 _ rfl) hxl
 obtain ⟨v1, r1, b1⟩ := rf (ZaT Tryz.underlying92 (by kernel_rfl : Tryz.prog.cellsOf 96 = 5) (by decide) (fun _ => rfl) (fun k hk => (ZDx k))) (hf 1 _ rfl) hxl
 obtain ⟨v2, r2, b2⟩ := rf (ZaT Tryz.underlying49 (by kernel_rfl : Tryz.prog.cellsOf 116 = 8) (by decide) (fun _ => rfl) (fun k hk => (Zk2 k))) (hf 2 _ rfl) hxl
 have q := ZcZ (ZaG b0 (ZaG b1 (ZcY b2)))
 exact ⟨.mk v0 v1 v2, ⟨by rw [hcl]; kernel_rfl, (r0.at.app (r1.at.app r2.at))⟩, q⟩
theorem ZCv (n : Nat) : RdN enc Tryz.prog W n 26 Zcj := fun cs x hx => by
 obtain ⟨xs, m, rfl, rfl, hcl, hxl, hf⟩ := DataW.trod_struct Tryz.underlying26 hx
 obtain ⟨v0, r0, b0⟩ := rf (ZaT Tryz.underlying22 (by kernel_rfl : Tryz.prog.cellsOf 56 = 5) (by decide) (fun _ => rfl) (fun k hk => (ZAN k))) (hf 0 _ rfl) hxl
 obtain ⟨v1, r1, b1⟩ := rf (ZaT Tryz.underlying23 (by kernel_rfl : Tryz.prog.cellsOf 89 = 5) (by decide) (fun _ => rfl) (fun k hk => (ZBO k))) (hf 1 _ rfl) hxl
 obtain ⟨v2, r2, b2⟩ := rf (ZaT Tryz.underlying24 (by kernel_rfl : Tryz.prog.cellsOf 94 = 3) (by decide) (fun _ => rfl) (fun k hk => (ZBB k))) (hf 2 _ rfl) hxl
 have q := ZcZ (ZaG b0 (ZaG b1 (ZcY b2)))
 exact ⟨.mk v0 v1 v2, ⟨by rw [hcl]; kernel_rfl, (r0.at.app (r1.at.app r2.at))⟩, q⟩
end
end Go.Proofs.YtpjofefihlbppaaGreat
namespace Go.Eng
set_option linter.all false
open Go Go.RowKit
section
variable {σ ξ ρ α β γ : Type}
theorem ZcU {B : Nat → Option (Lv Nat ξ ρ)} {N : Nat} (l : List α) (p : α → Bool) (f : Nat → ρ) (e : ξ)
  (hs : ∀ i x, l[i]? = some x → B i = some (if p x = true then .rt (f i) else .nx (i + 1))) (he : B l.length = some (.ex e)) (hN : l.length < N) :
  Zag B N 0 = some (match l.findIdx? p with | some i => .inr (f i) | none => .inl e) := by
 suffices H : ∀ k i N, i + k = l.length → k < N → Zag B N i = some (match (l.drop i).findIdx? p with | some j => .inr (f (i + j)) | none => .inl e) by
  have := H l.length 0 N (by omega) hN
  simpa using this
 intro k
 induction k with
 | zero =>
  intro i N hi hN
  obtain ⟨N, rfl⟩ : ∃ m, N = m + 1 := ⟨N - 1, by omega⟩
  have : i = l.length := by omega
  subst this
  rw [Zag, he, List.drop_length]
  rfl
 | succ k ih =>
  intro i N hi hN
  obtain ⟨N, rfl⟩ : ∃ m, N = m + 1 := ⟨N - 1, by omega⟩
  have hlt : i < l.length := by omega
  rw [Zag, hs i l[i] (Yb hlt), Y1 hlt, List.findIdx?_cons]
  cases hp : p l[i] with
  | true => simp
  | false =>
   simp only [Y2, if_false]
   rw [ih (i + 1) N (by omega) (by omega)]
   cases (List.drop (i + 1) l).findIdx? p with
   | none => rfl
   | some j => simp [Yo, Ya4 1 j]
def ZgC (R : List α → α → Option ρ) : List α → List α → Option ρ
 | _, [] => none
 | p, x :: l => match R p x with
  | some r => some r
  | none => ZgC R (p ++ [x]) l
theorem Zp3 {B : σ → Option (Lv σ ξ ρ)} {N : Nat} (l : List α) (S : List α → β) (R : List α → α → Option ρ) (mk : Nat → β → σ) (e : β → ξ)
  (hs : ∀ i x, l[i]? = some x → B (mk i (S (l.take i))) = some (match R (l.take i) x with | some r => .rt r | none => .nx (mk (i + 1) (S (l.take i ++ [x])))))
  (he : B (mk l.length (S l)) = some (.ex (e (S l)))) (hN : l.length < N) : Zag B N (mk 0 (S [])) = some ((ZgC R [] l).elim (.inl (e (S l))) .inr) := by
 suffices H : ∀ k i N, i + k = l.length → k < N → Zag B N (mk i (S (l.take i))) = some ((ZgC R (l.take i) (l.drop i)).elim (.inl (e (S l))) .inr) by
  have := H l.length 0 N (by omega) hN
  grind
 intro k
 induction k with
 | zero =>
  intro i N hi hN
  obtain ⟨N, rfl⟩ : ∃ m, N = m + 1 := ⟨N - 1, by omega⟩
  have : i = l.length := by omega
  subst this
  rw [Zag, Ya5, he, List.drop_length]
  rfl
 | succ k ih =>
  intro i N hi hN
  obtain ⟨N, rfl⟩ : ∃ m, N = m + 1 := ⟨N - 1, by omega⟩
  have hlt : i < l.length := by omega
  rw [Zag, hs i l[i] (Yb hlt), Y1 hlt, ZgC]
  cases R (l.take i) l[i] with
  | some r => rfl
  | none =>
   have := ih (i + 1) N (by omega) (by omega)
   rw [YY hlt] at this
   exact this
theorem Zfw {R : List α → α → Option ρ} (h : ∀ p x, R p x = none) : ∀ (l p : List α), ZgC R p l = none
 | [], p => rfl
 | x :: l, p => by rw [ZgC, h]; exact Zfw h l _
theorem ZhN {B : σ → Option (Lv σ ξ ρ)} {N : Nat} (l : List α) (S : List α → β) (mk : Nat → β → σ) (e : β → ξ)
  (hs : ∀ i x, l[i]? = some x → B (mk i (S (l.take i))) = some (.nx (mk (i + 1) (S (l.take i ++ [x])))))
  (he : B (mk l.length (S l)) = some (.ex (e (S l)))) (hN : l.length < N) : Zag B N (mk 0 (S [])) = some (.inl (e (S l))) := by
 rw [Zp3 l S (fun _ _ => none) mk e hs he hN, Zfw fun _ _ => rfl]
 rfl
theorem ZjY {B : σ → Option (Lv σ ξ ρ)} (I : Nat → σ → Prop) (Q : ξ ⊕ ρ → Prop)
  (h : ∀ k v, I k v → ∃ o, B v = some o ∧ match o with | .nx v' => ∃ k', k' < k ∧ I k' v' | .ex b => Q (.inl b) | .rt y => Q (.inr y)) :
  ∀ N k v, k < N → I k v → ∃ o, Zag B N v = some o ∧ Q o
 | 0, k, v, hk, _ => absurd hk (Yak _)
 | N + 1, k, v, hk, hI => by
  obtain ⟨o, h1, h2⟩ := h k v hI
  rw [Zag, h1]
  cases o with
  | nx v' => obtain ⟨k', h3, h4⟩ := h2; exact ZjY I Q h N k' v' (by omega) h4
  | ex b => exact ⟨_, rfl, h2⟩
  | rt y => exact ⟨_, rfl, h2⟩
theorem ZhZ {l : List α} {i : Nat} {x : α} (h : l[i]? = some x) : (i : Int) < (l.length : Int) := by
 grind
theorem Zd9 {n : Nat} (h : n < 4611686018427387904) : n < big := h
end
end Go.Eng
namespace Go.Proofs.YtpjofefihlbppaaGreat
set_option linter.all false
open Go Go.Eng
def Ok {α : Type} (Q : α → Prop) (o : Option α) : Prop := ∃ y, o = some y ∧ Q y
section
variable {α β γ σ ξ ρ : Type} {Q : β → Prop} {P : α → Prop}
theorem Ok.pure {y : β} (h : Q y) : Ok Q (some y) := ⟨y, rfl, h⟩
theorem Ok.bind {m : Option α} {k : α → Option β} (h : Ok P m) (hk : ∀ y, P y → Ok Q (k y)) : Ok Q (m.bind k) := by
 obtain ⟨y, rfl, h⟩ := h
 exact hk y h
theorem Ok.idx {xs : List α} {i : Nat} {k : α → Option β} (h : i < xs.length) (hk : ∀ x, xs[i]? = some x → x ∈ xs → Ok Q (k x)) : Ok Q (xs[i]?.bind k) := by
 rw [Yb h]
 exact hk _ (Yb h) (Yaq h)
theorem Ok.ite {c : Prop} {d : Decidable c} {a b : Option β} (h : c → Ok Q a) (h' : ¬c → Ok Q b) : Ok Q (if c then a else b) := by
 split
 ·exact h ‹_›
 ·exact h' ‹_›
theorem Ok.br {b : Bool} {x y : Option β} (h : b = true → Ok Q x) (h' : b = false → Ok Q y) : Ok Q (if b = true then x else y) := by
 cases b
 ·exact h' rfl
 ·exact h rfl
theorem Ok.if {c : Prop} {d : Decidable c} {a : Option β} (hc : c) (h : Ok Q a) : Ok Q (if c then a else none) := by
 rw [if_pos hc]
 exact h
theorem Ok.ss {lo hi : Bd} {n : Nat} {a : Option β} (hc : lo.c ∧ hi.c ∧ lo.vl 0 ≤ hi.vl n ∧ hi.vl n ≤ n) (h : Ok Q a) : Ok Q (if lo.c ∧ hi.c ∧ lo.vl 0 ≤ hi.vl n ∧ hi.vl n ≤ n then a else none) := by
 rw [if_pos hc]
 exact h
theorem Ok.clg {b : Bool} {m : Option α} {x : Option β} (h : b = true → Ok P m) [Inhabited α] (hk : (b = true → P (m.getD default)) → Ok Q x) : Ok Q (if (b = true → m.isSome = true) then x else none) := by
 rw [if_pos fun e => by obtain ⟨y, h, _⟩ := h e; rw [h]; rfl]
 refine hk fun e => ?_
 obtain ⟨y, h1, h2⟩ := h e
 rw [h1]
 exact h2
theorem Ok.idxg {b : Bool} {xs : List α} {i : Int} {x : Option β} [Rw α] (h : b = true → 0 ≤ i ∧ i < xs.length) (hk : (b = true → xs[i.toNat]? = some (xs.getD i.toNat Rw.z) ∧ xs.getD i.toNat Rw.z ∈ xs) → Ok Q x) : Ok Q (if (b = true → 0 ≤ i ∧ i < xs.length) then x else none) := by
 rw [if_pos h]
 refine hk fun e => ?_
 have h1 := h e
 have h2 : i.toNat < xs.length := by omega
 rw [Yr, Yb h2]
 exact ⟨rfl, Yaq h2⟩
theorem Ok.loop {B : σ → Option (Lv σ ξ ρ)} {N : Nat} {v : σ} (I : σ → Prop) (μ : σ → Nat) {A : ξ → Prop} {R : ρ → Prop} (h0 : I v) (hN : μ v < N)
  (hs : ∀ v, I v → Ok (fun o => match o with | .nx v' => I v' ∧ μ v' < μ v | .ex b => A b | .rt y => R y) (B v)) : Ok (Sum.elim A R) (Zag B N v) :=
 ZjY (fun k v => I v ∧ μ v ≤ k) (Sum.elim A R) (fun k v h => by
  obtain ⟨o, h1, h2⟩ := hs v h.1
  refine ⟨o, h1, ?_⟩
  cases o with
  | nx v' => exact ⟨μ v', by have := h2.2; have := h.2; omega, h2.1, Ye _⟩
  | ex b => exact h2
  | rt y => exact h2) N (μ v) v hN ⟨h0, Ye _⟩
theorem Ok.lb {m : Option (ξ ⊕ ρ)} {A : ξ → Prop} {R : ρ → Prop} {f : ξ → Option β} {g : ρ → Option β} (h : Ok (Sum.elim A R) m) (hx : ∀ b, A b → Ok Q (f b)) (hr : ∀ r, R r → Ok Q (g r)) : Ok Q (m.bind (Sum.elim f g)) := by
 obtain ⟨y, rfl, h⟩ := h
 cases y with
 | inl b => exact hx b h
 | inr r => exact hr r h
theorem Ok.mono {Q' : β → Prop} {o : Option β} (h : Ok Q o) (k : ∀ y, Q y → Q' y) : Ok Q' o := by
 obtain ⟨y, h1, h2⟩ := h
 exact ⟨y, h1, k y h2⟩
theorem Ok.some {o : Option β} (h : Ok Q o) : o.isSome = true := by
 obtain ⟨y, h1, h2⟩ := h
 rw [h1]
 rfl
end
abbrev Tr {α : Type} : α → Prop := fun _ => True
abbrev No {α : Type} : α → Prop := fun _ => False
abbrev Ts {α β : Type} : α ⊕ β → Prop := Sum.elim Tr Tr
theorem sz0 : (⟨#[]⟩ : ByteArray).size = 0 := rfl
theorem ZEt (x : Int) : Ok Tr (Zch x) := ⟨_, rfl, trivial⟩
theorem ZEj (x : Int) : Ok Tr (Zca x) := ⟨_, rfl, trivial⟩
theorem ZHd (x : Val) : Ok Tr (Zck x) := ⟨_, rfl, trivial⟩
theorem ZHf (x : Int) : Ok Tr (Zcf x) := ⟨_, rfl, trivial⟩
theorem ZHk (x : Int) : Ok Tr (Zbz x) := by
 dsimp only [Zbz, ZmR, br, lr, br, rem]
 (repeat' (first | with_reducible refine Ok.br (fun _ => ?_) (fun _ => ?_) | with_reducible refine Ok.pure ?_ | with_reducible refine Ok.if ?_ ?_)) <;> (first | trivial | assumption | contradiction | omega | solve_by_elim | (simp only [Bool.and_eq_true, Bool.or_eq_true, Bool.not_eq_true', Bool.and_eq_false_iff, Bool.or_eq_false_iff, decide_eq_true_eq, decide_eq_false_iff_not] at *; omega) | grind)
theorem ZF1 (x : ByteArray) : Ok Tr (ZbQ x) := by
 dsimp only [ZbQ, Zml, br, lr, br]
 (repeat' (first | with_reducible refine Ok.br (fun _ => ?_) (fun _ => ?_) | with_reducible refine Ok.pure ?_ | with_reducible refine Ok.if ?_ ?_)) <;> (first | trivial | assumption | contradiction | omega | solve_by_elim | (simp only [Bool.and_eq_true, Bool.or_eq_true, Bool.not_eq_true', Bool.and_eq_false_iff, Bool.or_eq_false_iff, decide_eq_true_eq, decide_eq_false_iff_not] at *; omega) | grind)
theorem ZJ1 (x : ByteArray) (n : Int) : Ok Tr (ZbJ x n) := by
 dsimp only [ZbJ, Zol, br, lr, br]
 (repeat' (first | with_reducible refine Ok.br (fun _ => ?_) (fun _ => ?_) | with_reducible refine Ok.pure ?_ | with_reducible refine Ok.if ?_ ?_)) <;> (first | trivial | assumption | contradiction | omega | solve_by_elim | (simp only [Bool.and_eq_true, Bool.or_eq_true, Bool.not_eq_true', Bool.and_eq_false_iff, Bool.or_eq_false_iff, decide_eq_true_eq, decide_eq_false_iff_not] at *; omega) | grind)
theorem ZGB (x : ByteArray) : Ok Tr (Zbm x) := by
 dsimp only [Zbm, ZnH, br, lr, br]
 (repeat' (first | with_reducible refine Ok.br (fun _ => ?_) (fun _ => ?_) | with_reducible refine Ok.pure ?_ | with_reducible refine Ok.if ?_ ?_)) <;> (first | trivial | assumption | contradiction | omega | solve_by_elim | (simp only [Bool.and_eq_true, Bool.or_eq_true, Bool.not_eq_true', Bool.and_eq_false_iff, Bool.or_eq_false_iff, decide_eq_true_eq, decide_eq_false_iff_not] at *; omega) | grind)
theorem o91 (x : Fld) : Ok Tr (ZbM x) := by
 dsimp only [ZbM, ZuZ, br, vw, lr, br]
 (repeat' (first | with_reducible refine Ok.br (fun _ => ?_) (fun _ => ?_) | with_reducible refine Ok.pure ?_ | with_reducible refine Ok.if ?_ ?_)) <;> (first | trivial | assumption | contradiction | omega | solve_by_elim | (simp only [Bool.and_eq_true, Bool.or_eq_true, Bool.not_eq_true', Bool.and_eq_false_iff, Bool.or_eq_false_iff, decide_eq_true_eq, decide_eq_false_iff_not] at *; omega) | grind)
theorem o83 (x : Int) : Ok Tr (Zb7 x) := by
 dsimp only [Zb7, Zww, lr]
 (repeat' (first | with_reducible refine Ok.br (fun _ => ?_) (fun _ => ?_) | with_reducible refine Ok.pure ?_ | with_reducible refine Ok.if ?_ ?_)) <;> (first | trivial | assumption | contradiction | omega | solve_by_elim | (simp only [Bool.and_eq_true, Bool.or_eq_true, Bool.not_eq_true', Bool.and_eq_false_iff, Bool.or_eq_false_iff, decide_eq_true_eq, decide_eq_false_iff_not] at *; omega) | grind)
theorem ZFj (x : ByteArray) (i a b : Int) (h : 0 ≤ i) : Ok Tr (Zbc x i a b) := by
 dsimp only [Zbc, Zoo, vz, lr, eqN, ibg]
 (repeat' (first | with_reducible refine Ok.br (fun _ => ?_) (fun _ => ?_) | with_reducible refine Ok.pure ?_ | with_reducible refine Ok.if ?_ ?_)) <;> (first | trivial | assumption | contradiction | omega | solve_by_elim | (simp only [Bool.and_eq_true, Bool.or_eq_true, Bool.not_eq_true', Bool.and_eq_false_iff, Bool.or_eq_false_iff, decide_eq_true_eq, decide_eq_false_iff_not] at *; omega) | grind)
theorem ZHj (x : ByteArray) (i n : Int) (h : 0 ≤ i) (h2 : i ≤ 2097152) (h3 : n ≤ 9) : Ok Tr (ZbS x i n) := by
 have q : Ok Ts (Zag (Zjw x i n) big 0) := by
  refine Ok.loop (fun _ : Nat => True) (fun v : Nat => (n - v).toNat) trivial ?_ fun v _ => ?_
  ·unfold big
   omega
  dsimp only [Zjw, Zlr, br, vs, lrt, ln, lxe, cl, wa, wi, br]
  (repeat' (first | with_reducible refine Ok.br (fun _ => ?_) (fun _ => ?_) | with_reducible refine Ok.pure ?_ | (with_reducible apply Ok.bind; (exact ZFj _ _ _ _ (by omega)); intro _ _) | with_reducible refine Ok.if ?_ ?_)) <;> (first | trivial | assumption | contradiction | omega | solve_by_elim | (simp only [Bool.and_eq_true, Bool.or_eq_true, Bool.not_eq_true', Bool.and_eq_false_iff, Bool.or_eq_false_iff, decide_eq_true_eq, decide_eq_false_iff_not] at *; omega) | grind)
 dsimp only [ZbS, Zme, ZnO, ZnA, lr, lc]
 (repeat' (first | with_reducible refine Ok.br (fun _ => ?_) (fun _ => ?_) | with_reducible refine Ok.pure ?_ | (with_reducible apply Ok.lb; (exact q); all_goals (intro _ _; try dsimp only)) | with_reducible refine Ok.if ?_ ?_)) <;> (first | trivial | assumption | contradiction | omega | solve_by_elim | (simp only [Bool.and_eq_true, Bool.or_eq_true, Bool.not_eq_true', Bool.and_eq_false_iff, Bool.or_eq_false_iff, decide_eq_true_eq, decide_eq_false_iff_not] at *; omega) | grind)
set_option maxRecDepth 20000 in
theorem ZJb (x : ByteArray) (i : Int) (h : 0 ≤ i) (h1 : i < x.size) (h2 : x.size ≤ 1048576) : Ok (fun y => 0 ≤ y ∧ y ≤ 4) (ZbO x i) := by
 dsimp only [ZbO, ZmK, br, vg, lr, clg, wi, br, ibi]
 (repeat' (first | with_reducible refine Ok.br (fun _ => ?_) (fun _ => ?_) | with_reducible refine Ok.pure ?_ | with_reducible refine Ok.idx ?_ (fun _ _ _ => ?_) | (with_reducible apply Ok.bind; (exact ZFj _ _ _ _ (by omega)); intro _ _) | (with_reducible apply Ok.bind; (exact ZHj _ _ _ (by omega) (by omega) (by omega)); intro _ _) | (with_reducible apply Ok.clg; (exact fun _ => ZFj _ _ _ _ (by omega)); intro _) | (with_reducible apply Ok.clg; (exact fun _ => ZHj _ _ _ (by omega) (by omega) (by omega)); intro _) | with_reducible refine Ok.if ?_ ?_)) <;> (first | trivial | assumption | contradiction | omega | solve_by_elim | (simp only [Bool.and_eq_true, Bool.or_eq_true, Bool.not_eq_true', Bool.and_eq_false_iff, Bool.or_eq_false_iff, decide_eq_true_eq, decide_eq_false_iff_not] at *; omega) | grind)
structure SzV (v : Val) : Prop where
 t : v.text.size ≤ 1048576
 l : v.list.length ≤ 1048576
 p : v.pairs.length ≤ 1048576
 s : v.slots.length ≤ 1048576
 r : v.raws.length ≤ 1048576
structure SzN (x : Nt) : Prop where
 n : x.name.size ≤ 1048576
 v : SzV x.val
abbrev ZpB (l : List Nt) : Prop := l.length ≤ 1048576 ∧ ∀ x ∈ l, SzN x
structure SzF (x : Fld) : Prop where
 n : x.name.size ≤ 1048576
 t : x.type.name.size ≤ 1048576
 u : x.union.size ≤ 1048576
 d : SzV x.dflt
 o : ZpB x.notes
structure SzM (x : Msg) : Prop where
 n : x.name.size ≤ 1048576
 fl : x.fields.length ≤ 1048576
 f : ∀ y ∈ x.fields, SzF y
 r : x.reserved.length ≤ 1048576
 gl : x.gone.length ≤ 1048576
 g : ∀ y ∈ x.gone, y.size ≤ 1048576
 o : ZpB x.notes
structure SzI (x : Itm) : Prop where
 n : x.name.size ≤ 1048576
 o : ZpB x.notes
structure SzE (x : Enm) : Prop where
 n : x.name.size ≤ 1048576
 il : x.items.length ≤ 1048576
 i : ∀ y ∈ x.items, SzI y
 r : x.reserved.length ≤ 1048576
 o : ZpB x.notes
structure SzT (x : Mth) : Prop where
 n : x.name.size ≤ 1048576
 o : ZpB x.notes
structure SzW (x : Svc) : Prop where
 n : x.name.size ≤ 1048576
 ml : x.methods.length ≤ 1048576
 m : ∀ y ∈ x.methods, SzT y
 o : ZpB x.notes
structure SzS (x : Scm) : Prop where
 ml : x.messages.length ≤ 1048576
 m : ∀ y ∈ x.messages, SzM y
 el : x.enums.length ≤ 1048576
 e : ∀ y ∈ x.enums, SzE y
 wl : x.services.length ≤ 1048576
 w : ∀ y ∈ x.services, SzW y
theorem szV {v : Val} (h : bkL (ZaZ v) ≤ 1048576) : SzV v := by
 have h1 := ZcR (e := ZaI) v.list
 have h2 := ZcR (e := rPr) v.pairs
 have h3 := ZcR (e := Zar) v.slots
 have h4 := ZcR (e := ZaK) v.raws
 simp only [ZaZ, bkL, bk] at h
 constructor <;> omega
theorem szN {x : Nt} (h : bkL (eNt x) ≤ 1048576) : SzN x := by
 have e : bkL (eNt x) = x.name.size + bkL (ZaZ x.val) := by simp only [eNt, ZaZ, bkL, bk]
 exact ⟨by omega, szV (by omega)⟩
theorem Zy6 {l : List Nt} (h : ZlJ (l.map eNt) ≤ 1048576) : ZpB l := ⟨by have := ZcR (e := eNt) l; omega, fun x hx => szN (by have := ZdD (e := eNt) hx; omega)⟩
theorem szF {x : Fld} (h : bkL (Zat x) ≤ 1048576) : SzF x := by
 have e : bkL (Zat x) = x.name.size + x.type.name.size + x.union.size + bkL (ZaZ x.dflt) + ZlJ (x.notes.map eNt) := by
  simp only [Zat, ZaZ, bkL, bk]
  omega
 exact ⟨by omega, by omega, by omega, szV (by omega), Zy6 (by omega)⟩
theorem szM {x : Msg} (h : bkL (Zan x) ≤ 1048576) : SzM x := by
 simp only [Zan, bkL, bk] at h
 have h1 := ZcR (e := Zat) x.fields
 have h2 := ZcR (e := ZaB) x.reserved
 have h3 := ZcR (e := Zav) x.gone
 exact ⟨by omega, by omega, fun y hy => szF (by have := ZdD (e := Zat) hy; omega), by omega, by omega, fun y hy => by have := ZdD (e := Zav) hy; simp only [Zav, bkL, bk] at this; omega, Zy6 (by omega)⟩
theorem szI {x : Itm} (h : bkL (Zdx x) ≤ 1048576) : SzI x := by
 simp only [Zdx, bkL, bk] at h
 exact ⟨by omega, Zy6 (by omega)⟩
theorem szE {x : Enm} (h : bkL (Zap x) ≤ 1048576) : SzE x := by
 simp only [Zap, bkL, bk] at h
 have h1 := ZcR (e := Zdx) x.items
 have h2 := ZcR (e := ZaB) x.reserved
 exact ⟨by omega, by omega, fun y hy => szI (by have := ZdD (e := Zdx) hy; omega), by omega, Zy6 (by omega)⟩
theorem szT {x : Mth} (h : bkL (Zen x) ≤ 1048576) : SzT x := by
 simp only [Zen, bkL, bk] at h
 exact ⟨by omega, Zy6 (by omega)⟩
theorem szW {x : Svc} (h : bkL (Zaq x) ≤ 1048576) : SzW x := by
 simp only [Zaq, bkL, bk] at h
 have h1 := ZcR (e := Zen) x.methods
 exact ⟨by omega, by omega, fun y hy => szT (by have := ZdD (e := Zen) hy; omega), Zy6 (by omega)⟩
theorem szS {x : Scm} (h : bkL (Zcj x) ≤ 1048576) : SzS x := by
 simp only [Zcj, bkL, bk] at h
 have h1 := ZcR (e := Zan) x.messages
 have h2 := ZcR (e := Zap) x.enums
 have h3 := ZcR (e := Zaq) x.services
 exact ⟨by omega, fun y hy => szM (by have := ZdD (e := Zan) hy; omega), by omega, fun y hy => szE (by have := ZdD (e := Zap) hy; omega), by omega, fun y hy => szW (by have := ZdD (e := Zaq) hy; omega)⟩
end Go.Proofs.YtpjofefihlbppaaGreat
