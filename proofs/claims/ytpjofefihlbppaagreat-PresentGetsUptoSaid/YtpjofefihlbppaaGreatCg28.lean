import Derived.Test.YtpjofefihlbppaaGreatCg12
import Derived.Test.YtpjofefihlbppaaGreatRows
import Derived.WalkKit
import Derived.ProofKit
import Derived.OpenShut
import Derived.Carry
import Derived.Deep.DeepHandedRow
import Derived.Test.YtpjofefihlbppaaGreatCg14
import Derived.Test.YtpjofefihlbppaaGreatCg27
import Derived.Test.YtpjofefihlbppaaGreatCg00
namespace Go.Proofs.YtpjofefihlbppaaGreat
set_option linter.all false
open Go Go.Eng Go.ChangeShapes Go.WideShapes Go.ChangeAt Go.RowKit
theorem Zjv {H : Type} (b : List UInt8) : Rows.uptoBulk (DataW.lit (H := H) (.string b)) = b.length + 1 := by simp only [Rows.uptoBulk]
theorem Zlc {H : Type} (a b : List (DataW H)) : Rows.uptoBulk (.slice a b) = Rows.uptoBulkAll a + Rows.uptoBulkAll b + 1 := by simp only [Rows.uptoBulk]
theorem ZqV {H : Type} (a : List (DataW H)) : Rows.uptoBulk (.agg a) = Rows.uptoBulkAll a + 1 := by simp only [Rows.uptoBulk]
def ZhU (W : World) (ds : List D) (cs : List Value) (o : Nat) : Prop := ∀ (i : Nat) (d : D), ds[i]? = some d → ∃ c, cs[o + i]? = some c ∧ RepD W (· < W.heap.size) d c
def Zi8 (W : World) (ds : List D) (cs : List Value) : Prop := ds.length = cs.length ∧ ZhU W ds cs 0
theorem ZhU.app {W : World} {ds es : List D} {cs : List Value} {o : Nat} (h : ZhU W ds cs o) (k : ZhU W es cs (o + ds.length)) : ZhU W (ds ++ es) cs o := fun i d hi => by
 rcases Ym i ds.length with hl | hl
 ·rw [Yf hl] at hi; exact h i d hi
 ·rw [Yj hl] at hi
  obtain ⟨c, h1, h2⟩ := k _ d hi
  grind
theorem ZhU.nil {W : World} {cs : List Value} {o : Nat} : ZhU W [] cs o := fun i d h => by simp at h
theorem Zi8.at {W : World} {ds : List D} {cs : List Value} {o k : Nat} (h : Zi8 W ds ((cs.drop o).take k)) : ZhU W ds cs o := fun i d hi => by
 obtain ⟨c, h1, h2⟩ := h.2 i d hi
 grind
mutual
def bk : D → Nat
 | .int _ _ => 0
 | .bool _ => 0
 | .str s => s.size
 | .list es => ZkJ es
 | .map _ es => ZkJ es
def bkL : List D → Nat
 | [] => 0
 | d :: l => bk d + bkL l
def ZkJ : List (List D) → Nat
 | [] => 0
 | e :: l => bkL e + 1 + ZkJ l
end
theorem Zhs : ∀ a b : List D, bkL (a ++ b) = bkL a + bkL b
 | [], b => by rw [Yaa, bkL, Yx]
 | d :: a, b => by rw [Yau, bkL, bkL, Zhs a b, Yn]
theorem ZlR (d : D) : bkL [d] = bk d := by rw [bkL, bkL, Yae]
theorem ZcK {α : Type} {e : α → List D} : ∀ l : List α, l.length ≤ ZkJ (l.map e)
 | [] => Yak _
 | x :: l => by have := ZcK (e := e) l; rw [YG, ZkJ, YZ]; omega
theorem Zcv {α : Type} {e : α → List D} {x : α} : ∀ {l : List α}, x ∈ l → bkL (e x) + 1 ≤ ZkJ (l.map e)
 | y :: l, h => by
  rw [YG, ZkJ]
  cases Yv.1 h with
  | inl h => subst h; omega
  | inr h => have := Zcv (e := e) h; omega
section
variable {H : Type} (enc : TypeId × Value → H) (P : Program) (W : World)
def RdN {α : Type} (n : Nat) (t : TypeId) (e : α → List D) : Prop :=
 ∀ cs x, DataW.trod enc P W 0 (fun _ => true) true n t cs = some x → ∃ v : α, Zi8 W (e v) cs ∧ bkL (e v) + 1 ≤ Rows.uptoBulk x.1
end
section
variable {H : Type} {enc : TypeId × Value → H} {P : Program} {W : World} {n : Nat} {t : TypeId}
theorem Zhr (d : DataW H) : 1 ≤ Rows.uptoBulk d := by cases d <;> (try (rename_i l; cases l)) <;> simp [Rows.uptoBulk]
theorem ZdV {d : D} {c : Value} (h : RepD W (· < W.heap.size) d c) : Zi8 W [d] [c] := ⟨rfl, fun i d' hi => by
 cases i with
 | zero => cases hi; exact ⟨c, rfl, h⟩
 | succ i => simp at hi⟩
theorem Zc4 {k : IntKind} (ht : P.underlying t = some (.int k)) : RdN enc P W n t (fun v : Int => [.int k v]) := fun cs x hx => by
 obtain ⟨m, rfl, rfl, _⟩ := DataW.trod_int ht hx
 exact ⟨m, ZdV (.int _ _), Zhr _⟩
theorem ZnT (ht : P.underlying t = some .bool) : RdN enc P W n t (fun v : Bool => [.bool v]) := fun cs x hx => by
 obtain ⟨m, rfl, rfl⟩ := DataW.trod_bool ht hx
 exact ⟨m, ZdV (.bool _), Zhr _⟩
theorem Zc5 (ht : P.underlying t = some .string) : RdN enc P W n t (fun v : ByteArray => [.str v]) := fun cs x hx => by
 obtain ⟨m, rfl, rfl, _⟩ := DataW.trod_string ht hx
 refine ⟨m, ZdV (.str _), ?_⟩
 rw [Zjv, ZlR]
 exact Ye _
theorem Zua {α : Type} {e : α → List D} : ∀ (l : List α) (xs : List (DataW H × List MemPlace)), l.length = xs.length → (∀ (i : Nat) (v : α), l[i]? = some v → ∃ y : DataW H × List MemPlace, xs[i]? = some y ∧ bkL (e v) + 1 ≤ Rows.uptoBulk y.1) → ZkJ (l.map e) ≤ Rows.uptoBulkAll (xs.map (·.1))
 | [], _, _, _ => Yak _
 | x :: l, [], h, _ => by cases h
 | x :: l, y :: xs, h, k => by
  have := Zua l xs (Yaw h) (fun i v hi => k (i + 1) v hi)
  obtain ⟨y', h1, h2⟩ := k 0 x rfl
  cases h1
  rw [YG, YG, ZkJ]
  simp only [Rows.uptoBulkAll]
  omega
theorem ZlA {α : Type} {Q : Nat → α → Prop} : ∀ (len : Nat), (∀ i, i < len → ∃ v, Q i v) → ∃ l : List α, l.length = len ∧ ∀ i v, l[i]? = some v → Q i v
 | 0, _ => ⟨[], rfl, fun i v h => by simp at h⟩
 | len + 1, h => by
  obtain ⟨l, h1, h2⟩ := ZlA len (fun i hi => h i (by omega))
  obtain ⟨v, hv⟩ := h len (by omega)
  refine ⟨l ++ [v], by simp [h1], fun i w hi => ?_⟩
  grind
theorem ZaQ {α : Type} {e : TypeId} {enc' : α → List D} {sz : Nat} (ht : P.underlying t = some (.slice e)) (hsz : P.cellsOf e = sz) (hs0 : sz ≠ 0) (hl : ∀ x, (enc' x).length = sz) (h : ∀ m, m < n → RdN enc P W m e enc') :
  RdN enc P W n t (fun l : List α => [.list (l.map enc')]) := fun cs x hx => by
 rcases DataW.trod_slice ht hx with ⟨rfl, rfl⟩ | ⟨a, len, cap, elems, rest, m, rfl, rfl, rfl, hb, hlc, hcm, hel, hi, _, _⟩
 ·exact ⟨[], ZdV .nil, Zhr _⟩
 ·have each : ∀ i, i < len → ∃ v : α, ∃ y cs', elems[i]? = some y ∧ W.cells? 0 (a.add (i * sz)) sz = some cs' ∧ Zi8 W (enc' v) cs' ∧ bkL (enc' v) + 1 ≤ Rows.uptoBulk y.1 := fun i hlt => by
   have h1 := hi i hlt
   rw [Yb (by omega), hsz] at h1
   obtain ⟨cs', h2, h3⟩ := YaT.1 h1
   obtain ⟨v, h4, h5⟩ := h m (by omega) cs' _ h3
   exact ⟨v, _, cs', Yb (by omega), h2, h4, h5⟩
  obtain ⟨l, hll, hlq⟩ := ZlA len each
  have cell : ∀ (i j : Nat) (e' : List D) (x : D), (l.map enc')[i]? = some e' → e'[j]? = some x → ∃ c, W.cell? (a.add (i * sz + j)) = some c ∧ RepD W (· < W.heap.size) x c := fun i j e' x hi' hj => by
   rw [Yu] at hi'
   cases hv : l[i]? with
   | none => rw [hv] at hi'; cases hi'
   | some v =>
    rw [hv] at hi'
    cases hi'
    obtain ⟨y, cs', g1, g2, g3, g4⟩ := hlq i v hv
    obtain ⟨c, g5, g6⟩ := g3.2 j x hj
    rw [Yx] at g5
    obtain ⟨_, g7, g8⟩ := World.cells?_some g2
    have hjl : j < sz := by
     rw [← hl v]
     rcases Ym j (enc' v).length with h | h
     ·exact h
     ·rw [Yt h] at hj; cases hj
    refine ⟨c, ?_, g6⟩
    rw [← Go.Eng.add_add, g8 j hjl, g5]
  refine ⟨l, ZdV ?_, ?_⟩
  ·have hlen : (l.map enc').length = len := by simp [hll]
   have := RepD.list (w := W) (S := (· < W.heap.size)) (l.map enc') a sz cap (fun i j => (W.cell? (a.add (i * sz + j))).getD undef) (fun hne => by
     have h0 : 0 < len := by
      rcases YaI len with h | h
      ·exact absurd (YO (hlen.trans h)) hne
      ·exact h
     obtain ⟨v, y, cs', _, g2, _⟩ := each 0 h0
     have := World.cells?_block g2 (by omega)
     rw [YaA] at this
     rw [← Go.Eng.block_add a 0]; exact this)
    (by rw [hlen]; exact hlc) (fun e' he => by obtain ⟨y, _, rfl⟩ := YB.1 he; exact hl y)
    (fun i j e' x hi' hj => by obtain ⟨c, g1, _⟩ := cell i j e' x hi' hj; rw [g1]; rfl)
    (fun i j e' x hi' hj => by obtain ⟨c, g1, g2⟩ := cell i j e' x hi' hj; rw [g1]; exact g2)
   rw [hlen] at this
   exact this
  ·rw [Zlc, ZlR, bk]
   have := Zua (e := enc') l elems (by omega) (fun i v hv => by
    obtain ⟨y, cs', g1, g2, g3, g4⟩ := hlq i v hv
    exact ⟨y, g1, g4⟩)
   omega
def FB (xs : List (DataW H × List MemPlace)) (i : Nat) : Nat := Rows.uptoBulkAll ((xs.drop i).map (·.1))
theorem ZaC {xs : List (DataW H × List MemPlace)} {i : Nat} {a b : List D} (h : bkL a + 1 + FB xs (i + 1) ≤ FB xs i) (k : bkL b ≤ FB xs (i + 1)) : bkL (a ++ b) ≤ FB xs i := by
 rw [Zhs]; omega
theorem Zda {xs : List (DataW H × List MemPlace)} {i : Nat} {a : List D} (h : bkL a + 1 + FB xs (i + 1) ≤ FB xs i) : bkL a ≤ FB xs i := by omega
theorem Zc1 {xs : List (DataW H × List MemPlace)} {a : List D} (h : bkL a ≤ FB xs 0) : bkL a + 1 ≤ Rows.uptoBulk (.agg (xs.map (·.1))) := by
 rw [ZqV]; exact Nat.succ_le_succ h
theorem Zq8 {α : Type} {e : α → List D} {m i : Nat} {t' : TypeId} {piece : List Value} {xs : List (DataW H × List MemPlace)} (h : RdN enc P W m t' e) (hf : DataW.trod enc P W 0 (fun _ => true) true m t' piece = xs[i]?) (hi : i < xs.length) :
  ∃ v, Zi8 W (e v) piece ∧ bkL (e v) + 1 + FB xs (i + 1) ≤ FB xs i := by
 rw [Yb hi] at hf
 obtain ⟨v, h1, h2⟩ := h _ _ hf
 refine ⟨v, h1, ?_⟩
 unfold FB
 rw [Yac hi, YG]
 simp only [Rows.uptoBulkAll]
 omega
theorem rf {α : Type} {e : α → List D} {m i k : Nat} {t' : TypeId} {piece : List Value} {xs : List (DataW H × List MemPlace)} (h : RdN enc P W m t' e) (hf : DataW.trod enc P W 0 (fun _ => true) true m t' piece = xs[i]?) (hx : xs.length = k) (hi : Nat.blt i k = true := by kernel_rfl) :
  ∃ v, Zi8 W (e v) piece ∧ bkL (e v) + 1 + FB xs (i + 1) ≤ FB xs i := Zq8 h hf (by rw [hx]; exact Yc hi)
theorem ZlF {α : Type} {e e' : α → List D} (he : ∀ x, e x = e' x) (h : RdN enc P W n t e') : RdN enc P W n t e := fun cs x hx => by
 obtain ⟨v, h1, h2⟩ := h cs x hx
 grind
theorem ZmA {α : Type} {e : α → List D} {fs : Array Field} {r : Reach} {base : Nat} {v : Value} {d : DataW H} {p : List MemPlace} (rd : ∀ n, RdN enc P W n t e) (ht : P.underlying t = some (.struct fs)) (hv : Value.okWide P W r base t v)
  (h : DataW.Trod enc P W 0 (fun _ => true) true t v d p) : ∃ x : α, (∀ m l, RepA W (· < W.heap.size) (fun _ => ⟨0, false, 0, 0, []⟩) m l (.agg ((e x).map .d)) v) ∧ bkL (e x) + 1 ≤ Rows.uptoBulk d := by
 obtain ⟨cs, rfl, _⟩ := okWide_struct ht hv
 obtain ⟨n, hn⟩ := h
 obtain ⟨x, h1, h2⟩ := rd n _ _ hn
 have hl : (e x).length = cs.size := by rw [h1.1]; simp [Value.cells]
 have key : ∀ (i : Nat) (c : Value) , cs[i]? = some c → ∃ d, (e x)[i]? = some d ∧ RepD W (· < W.heap.size) d c := fun i c hc => by
  have hlt : i < (e x).length := by
   grind
  obtain ⟨c', h3, h4⟩ := h1.2 i _ (Yb hlt)
  have : c' = c := by
   rw [Yx] at h3
   have : cs.toList[i]? = some c' := h3
   grind
  grind
 refine ⟨x, fun m l => .agg _ _ (by rw [YD, hl]) (fun i c hc => ?_) (fun i y c hy hc => ?_), h2⟩
 ·obtain ⟨d, _, h3⟩ := key i c hc; exact h3.one
 ·obtain ⟨d, h3, h4⟩ := key i c hc
  rw [Yu, h3] at hy
  cases hy
  exact .d _ _ h4
theorem Zwk {k : IntKind} {r : Reach} {base : Nat} {v : Value} {d : DataW H} {p : List MemPlace} (ht : P.underlying t = some (.int k)) (hv : Value.okWide P W r base t v) :
  ∃ x : Int, ∀ S Hp m l, RepA W S Hp m l (.d (.int k x)) v := by
 obtain ⟨x, rfl⟩ := okWide_int ht hv
 exact ⟨x, fun _ _ _ _ => .d _ _ (.int _ _)⟩
theorem ZwR {r : Reach} {base : Nat} {v : Value} {d : DataW H} {p : List MemPlace} (ht : P.underlying t = some .string) (hv : Value.okWide P W r base t v) (h : DataW.Trod enc P W 0 (fun _ => true) true t v d p) :
  ∃ x : ByteArray, (∀ S Hp m l, RepA W S Hp m l (.d (.str x)) v) ∧ x.size + 1 ≤ Rows.uptoBulk d := by
 obtain ⟨x, rfl⟩ := okWide_string ht hv
 obtain ⟨n, hn⟩ := h
 obtain ⟨s, h1, h2, _⟩ := DataW.trod_string ht hn
 have h1 : x = s := by simpa [Value.cells] using h1
 subst h1
 have h2 : d = .lit (.string x.data.toList) := congrArg Prod.fst h2
 subst h2
 refine ⟨x, fun _ _ _ _ => .d _ _ (.str _), ?_⟩
 rw [Zjv]
 exact Ye _
def Hp0 : Hp := fun _ => ⟨0, false, 0, 0, []⟩
theorem ok0 (m : Mu) : Ok 0 Hp0 m (· < W.heap.size) W := ⟨fun _ h => h, fun _ _ h => (by cases h), fun _ _ h => (by cases h), fun _ _ _ _ h => (by cases h), fun _ _ h => (by cases h), ⟨fun _ _ h => (by cases h), fun _ _ h => (by cases h), fun _ _ _ _ h => (by cases h)⟩⟩
def ZHS (w : World) (S : Nat → Prop) (Hp : Hp) (m : Mu) (l : Nat) : List AV → List Value → Prop
 | [], [] => True
 | x :: xs, v :: vs => RepA w S Hp m l x v ∧ ZHS w S Hp m l xs vs
 | _, _ => False
theorem ZuJ {w : World} {S : Nat → Prop} {Hp : Hp} {m : Mu} {l : Nat} {xs : List AV} {vs : List Value} (h : ZHS w S Hp m l xs vs) : ZeS w S Hp m l xs vs.toArray := by
 suffices hh : xs.length = vs.length ∧ ∀ (i : Nat) (x : AV) (v : Value), xs[i]? = some x → vs[i]? = some v → RepA w S Hp m l x v by
  exact ⟨by simpa using hh.1, fun i x v hx hv => hh.2 i x v hx (by simpa using hv)⟩
 induction xs generalizing vs with
 | nil => cases vs with
  | nil => exact ⟨rfl, fun i x v h => by simp at h⟩
  | cons _ _ => exact h.elim
 | cons x xs ih => cases vs with
  | nil => exact h.elim
  | cons v vs =>
   obtain ⟨h1, h2⟩ := ih h.2
   refine ⟨by simp [h1], fun i y u hy hu => ?_⟩
   cases i with
   | zero => simp at hy hu; subst hy; subst hu; exact h.1
   | succ i => exact h2 i y u (by simpa using hy) (by simpa using hu)
theorem Zlr {f : Func} {s : ChangeSpec} {W' : World} {args : Array Value} {ds gs : List (DataW H)} {before : List MemPlace} {u : TypeId} (hW : DataW.Whole enc P f.params.toList s.vars false W args.toList ds gs before) (hvars : s.vars = [])
  (hlaid : laidOutB P = true) (hrd : ∀ t ∈ f.params.toList, P.readableRec t = true ∧ t < P.types.size) (hres : f.resultTypes.toList = [u]) (hu : P.underlying u = some .bool)
  (hfn : s.fn H (ds ++ gs) = { results := [.lit (.bool true)], args := ds }) (hb : Below W.heap.size W W') : s.post enc P f false true false false W args (.bool true) W' := by
 obtain ⟨p, q, hA, hV, rfl, hfz, hnd⟩ := id hW
 rw [hvars] at hV
 obtain ⟨rfl, rfl⟩ := trodVars_none hV
 refine ⟨ds, [], p ++ [], [], p, [], hW, ?_, ?_, ?_, ?_, fun h => by cases h⟩
 ·rw [hfn, hres]
  have : (Value.bool true).resultList f.resultTypes.size = [.bool true] := by
   have : f.resultTypes.size = 1 := by rw [← YQ, hres]; rfl
   rw [this]; rfl
  rw [this]
  exact trodAll_cons_mk (shut_bool hu _) trodAll_mk0
 ·rw [hfn]
  have key : ∀ (ts : List TypeId) (vs : List Value) (es : List (DataW H)) (ps : List MemPlace), (∀ t ∈ ts, P.readableRec t = true ∧ t < P.types.size) → DataW.TrodAll enc P W 0 (fun _ => true) true ts vs es ps →
    DataW.TrodAll enc P W' 0 (fun b => decide (b < W.heap.size)) true ts vs es ps := by
   intro ts
   induction ts with
   | nil => intro vs es ps _ h; obtain ⟨rfl, rfl, rfl⟩ := trodAll_nil h; exact trodAll_mk0
   | cons t ts ih =>
    intro vs es ps hr h
    have hlt := DataW.TrodAll.lt h
    obtain ⟨v, vs1, d, ds1, a, b, rfl, rfl, rfl, h1, h2⟩ := trodAll_cons h
    exact trodAll_cons_mk (Below.trod hlaid (hr t (by simp)).1 (hr t (by simp)).2 h1 hb (fun x hx => hlt x (Y1 _ hx))) (ih _ _ _ (fun t ht => hr t (by simp [ht])) h2)
  exact key _ _ _ _ hrd hA
 ·rw [hvars, hfn]; exact rfl
 ·refine ⟨hb.os, hb.output, fun i hi => ?_⟩
  rw [hb.block i hi]
  cases W.heap[i]? with
  | none => rfl
  | some o => cases o <;> simp
end
end Go.Proofs.YtpjofefihlbppaaGreat
namespace Go.Proofs.YtpjofefihlbppaaGreat
set_option linter.all false
open Go Go.Eng
section
variable {H : Type} {enc : TypeId × Value → H} {W : World}
set_option maxRecDepth 100000
theorem ZBg (n : Nat) : RdN enc Tryz.prog W n 75 ZaS := fun cs x hx => by
 obtain ⟨xs, m, rfl, rfl, hcl, hxl, hf⟩ := DataW.trod_struct Tryz.underlying75 hx
 obtain ⟨v0, r0, b0⟩ := rf (Zc4 Tryz.underlying3) (hf 0 _ rfl) hxl
 obtain ⟨v1, r1, b1⟩ := rf (Zc4 Tryz.underlying3) (hf 1 _ rfl) hxl
 obtain ⟨v2, r2, b2⟩ := rf (Zc4 Tryz.underlying27) (hf 2 _ rfl) hxl
 obtain ⟨v3, r3, b3⟩ := rf (Zc5 Tryz.underlying9) (hf 3 _ rfl) hxl
 have q := Zc1 (ZaC b0 (ZaC b1 (ZaC b2 (Zda b3))))
 exact ⟨.mk v0 v1 v2 v3, ⟨by rw [hcl]; kernel_rfl, (r0.at.app (r1.at.app (r2.at.app r3.at)))⟩, q⟩
theorem Zq6 (n : Nat) (h : ∀ k, k < n → RdN enc Tryz.prog W k 33 Zaz) : RdN enc Tryz.prog W n 73 ePr := fun cs x hx => by
 obtain ⟨xs, m, rfl, rfl, hcl, hxl, hf⟩ := DataW.trod_struct Tryz.underlying73 hx
 obtain ⟨v0, r0, b0⟩ := rf (h m (by omega)) (hf 0 _ rfl) hxl
 obtain ⟨v1, r1, b1⟩ := rf (h m (by omega)) (hf 1 _ rfl) hxl
 have q := Zc1 (ZaC b0 (Zda b1))
 exact ⟨.mk v0 v1, ⟨by rw [hcl]; kernel_rfl, (r0.at.app r1.at)⟩, q⟩
theorem Znc (n : Nat) (h : ∀ k, k < n → RdN enc Tryz.prog W k 33 Zaz) : RdN enc Tryz.prog W n 62 Zhu := fun cs x hx => by
 obtain ⟨xs, m, rfl, rfl, hcl, hxl, hf⟩ := DataW.trod_struct Tryz.underlying62 hx
 obtain ⟨v0, r0, b0⟩ := rf (Zc4 Tryz.underlying3) (hf 0 _ rfl) hxl
 obtain ⟨v1, r1, b1⟩ := rf (h m (by omega)) (hf 1 _ rfl) hxl
 have q := Zc1 (ZaC b0 (Zda b1))
 exact ⟨.mk v0 v1, ⟨by rw [hcl]; kernel_rfl, (r0.at.app r1.at)⟩, q⟩
theorem Zm0 (n : Nat) : RdN enc Tryz.prog W n 33 Zaz := by
 induction n using Nat.strongRecOn with
 | ind n ih =>
 intro cs x hx
 obtain ⟨xs, m, rfl, rfl, hcl, hxl, hf⟩ := DataW.trod_struct Tryz.underlying33 hx
 obtain ⟨v0, r0, b0⟩ := rf (Zc4 Tryz.underlying3) (hf 0 _ rfl) hxl
 obtain ⟨v1, r1, b1⟩ := rf (Zc4 Tryz.underlying27) (hf 1 _ rfl) hxl
 obtain ⟨v2, r2, b2⟩ := rf (Zc5 Tryz.underlying9) (hf 2 _ rfl) hxl
 obtain ⟨v3, r3, b3⟩ := rf (ZaQ Tryz.underlying28 (by kernel_rfl : Tryz.prog.cellsOf 33 = 7) (by decide) (fun x => by rw [ZdX]; rfl) (fun k hk => (ZlF ZdX (ih k (by omega))))) (hf 3 _ rfl) hxl
 obtain ⟨v4, r4, b4⟩ := rf (ZaQ Tryz.underlying29 (by kernel_rfl : Tryz.prog.cellsOf 73 = 14) (by decide) (fun x => by rw [ZgA]; rfl) (fun k hk => (ZlF ZgA (Zq6 k (fun j hj => ih j (by omega)))))) (hf 4 _ rfl) hxl
 obtain ⟨v5, r5, b5⟩ := rf (ZaQ Tryz.underlying30 (by kernel_rfl : Tryz.prog.cellsOf 62 = 8) (by decide) (fun x => by rw [ZdI]; rfl) (fun k hk => (ZlF ZdI (Znc k (fun j hj => ih j (by omega)))))) (hf 5 _ rfl) hxl
 obtain ⟨v6, r6, b6⟩ := rf (ZaQ Tryz.underlying31 (by kernel_rfl : Tryz.prog.cellsOf 75 = 4) (by decide) (fun _ => rfl) (fun k hk => (ZBg k))) (hf 6 _ rfl) hxl
 have q := Zc1 (ZaC b0 (ZaC b1 (ZaC b2 (ZaC b3 (ZaC b4 (ZaC b5 (Zda b6)))))))
 exact ⟨.mk v0 v1 v2 v3 v4 v5 v6, ⟨by rw [hcl]; kernel_rfl, (r0.at.app (r1.at.app (r2.at.app (r3.at.app (r4.at.app (r5.at.app r6.at))))))⟩, q⟩
theorem ZAW (n : Nat) : RdN enc Tryz.prog W n 48 ZFm := fun cs x hx => by
 obtain ⟨xs, m, rfl, rfl, hcl, hxl, hf⟩ := DataW.trod_struct Tryz.underlying48 hx
 obtain ⟨v0, r0, b0⟩ := rf (Zc4 Tryz.underlying3) (hf 0 _ rfl) hxl
 obtain ⟨v1, r1, b1⟩ := rf (Zc5 Tryz.underlying9) (hf 1 _ rfl) hxl
 have q := Zc1 (ZaC b0 (Zda b1))
 exact ⟨.mk v0 v1, ⟨by rw [hcl]; kernel_rfl, (r0.at.app r1.at)⟩, q⟩
theorem ZkE (n : Nat) : RdN enc Tryz.prog W n 116 eNt := fun cs x hx => by
 obtain ⟨xs, m, rfl, rfl, hcl, hxl, hf⟩ := DataW.trod_struct Tryz.underlying116 hx
 obtain ⟨v0, r0, b0⟩ := rf (Zc5 Tryz.underlying9) (hf 0 _ rfl) hxl
 obtain ⟨v1, r1, b1⟩ := rf (Zm0 m) (hf 1 _ rfl) hxl
 have q := Zc1 (ZaC b0 (Zda b1))
 exact ⟨.mk v0 v1, ⟨by rw [hcl]; kernel_rfl, (r0.at.app r1.at)⟩, q⟩
theorem ZAZ (n : Nat) : RdN enc Tryz.prog W n 51 ZaD := fun cs x hx => by
 obtain ⟨xs, m, rfl, rfl, hcl, hxl, hf⟩ := DataW.trod_struct Tryz.underlying51 hx
 obtain ⟨v0, r0, b0⟩ := rf (Zc4 Tryz.underlying3) (hf 0 _ rfl) hxl
 obtain ⟨v1, r1, b1⟩ := rf (Zc5 Tryz.underlying9) (hf 1 _ rfl) hxl
 obtain ⟨v2, r2, b2⟩ := rf (Zc4 Tryz.underlying3) (hf 2 _ rfl) hxl
 obtain ⟨v3, r3, b3⟩ := rf (Zc4 Tryz.underlying3) (hf 3 _ rfl) hxl
 obtain ⟨v4, r4, b4⟩ := rf (ZAW m) (hf 4 _ rfl) hxl
 obtain ⟨v5, r5, b5⟩ := rf (Zc5 Tryz.underlying9) (hf 5 _ rfl) hxl
 obtain ⟨v6, r6, b6⟩ := rf (ZnT Tryz.underlying4) (hf 6 _ rfl) hxl
 obtain ⟨v7, r7, b7⟩ := rf (Zm0 m) (hf 7 _ rfl) hxl
 obtain ⟨v8, r8, b8⟩ := rf (ZaQ Tryz.underlying49 (by kernel_rfl : Tryz.prog.cellsOf 116 = 8) (by decide) (fun _ => rfl) (fun k hk => (ZkE k))) (hf 8 _ rfl) hxl
 have q := Zc1 (ZaC b0 (ZaC b1 (ZaC b2 (ZaC b3 (ZaC b4 (ZaC b5 (ZaC b6 (ZaC b7 (Zda b8)))))))))
 exact ⟨.mk v0 v1 v2 v3 v4 v5 v6 v7 v8, ⟨by rw [hcl]; kernel_rfl, (r0.at.app (r1.at.app (r2.at.app (r3.at.app (r4.at.app (r5.at.app (r6.at.app (r7.at.app r8.at))))))))⟩, q⟩
theorem Zsn (n : Nat) : RdN enc Tryz.prog W n 186 Zcu := fun cs x hx => by
 obtain ⟨xs, m, rfl, rfl, hcl, hxl, hf⟩ := DataW.trod_struct Tryz.underlying186 hx
 obtain ⟨v0, r0, b0⟩ := rf (Zc4 Tryz.underlying3) (hf 0 _ rfl) hxl
 obtain ⟨v1, r1, b1⟩ := rf (Zc4 Tryz.underlying3) (hf 1 _ rfl) hxl
 have q := Zc1 (ZaC b0 (Zda b1))
 exact ⟨.mk v0 v1, ⟨by rw [hcl]; kernel_rfl, (r0.at.app r1.at)⟩, q⟩
theorem ZzL (n : Nat) : RdN enc Tryz.prog W n 56 Zbn := fun cs x hx => by
 obtain ⟨xs, m, rfl, rfl, hcl, hxl, hf⟩ := DataW.trod_struct Tryz.underlying56 hx
 obtain ⟨v0, r0, b0⟩ := rf (Zc5 Tryz.underlying9) (hf 0 _ rfl) hxl
 obtain ⟨v1, r1, b1⟩ := rf (ZaQ Tryz.underlying52 (by kernel_rfl : Tryz.prog.cellsOf 51 = 16) (by decide) (fun _ => rfl) (fun k hk => (ZAZ k))) (hf 1 _ rfl) hxl
 obtain ⟨v2, r2, b2⟩ := rf (ZaQ Tryz.underlying53 (by kernel_rfl : Tryz.prog.cellsOf 186 = 2) (by decide) (fun _ => rfl) (fun k hk => (Zsn k))) (hf 2 _ rfl) hxl
 obtain ⟨v3, r3, b3⟩ := rf (ZaQ Tryz.underlying54 (by kernel_rfl : Tryz.prog.cellsOf 9 = 1) (by decide) (fun _ => rfl) (fun k hk => (Zc5 Tryz.underlying9))) (hf 3 _ rfl) hxl
 obtain ⟨v4, r4, b4⟩ := rf (ZaQ Tryz.underlying49 (by kernel_rfl : Tryz.prog.cellsOf 116 = 8) (by decide) (fun _ => rfl) (fun k hk => (ZkE k))) (hf 4 _ rfl) hxl
 have q := Zc1 (ZaC b0 (ZaC b1 (ZaC b2 (ZaC b3 (Zda b4)))))
 exact ⟨.mk v0 v1 v2 v3 v4, ⟨by rw [hcl]; kernel_rfl, (r0.at.app (r1.at.app (r2.at.app (r3.at.app r4.at))))⟩, q⟩
theorem ZC1 (n : Nat) : RdN enc Tryz.prog W n 91 ZoB := fun cs x hx => by
 obtain ⟨xs, m, rfl, rfl, hcl, hxl, hf⟩ := DataW.trod_struct Tryz.underlying91 hx
 obtain ⟨v0, r0, b0⟩ := rf (Zc5 Tryz.underlying9) (hf 0 _ rfl) hxl
 obtain ⟨v1, r1, b1⟩ := rf (Zc4 Tryz.underlying3) (hf 1 _ rfl) hxl
 obtain ⟨v2, r2, b2⟩ := rf (ZaQ Tryz.underlying49 (by kernel_rfl : Tryz.prog.cellsOf 116 = 8) (by decide) (fun _ => rfl) (fun k hk => (ZkE k))) (hf 2 _ rfl) hxl
 have q := Zc1 (ZaC b0 (ZaC b1 (Zda b2)))
 exact ⟨.mk v0 v1 v2, ⟨by rw [hcl]; kernel_rfl, (r0.at.app (r1.at.app r2.at))⟩, q⟩
theorem ZDN (n : Nat) : RdN enc Tryz.prog W n 89 Zcd := fun cs x hx => by
 obtain ⟨xs, m, rfl, rfl, hcl, hxl, hf⟩ := DataW.trod_struct Tryz.underlying89 hx
 obtain ⟨v0, r0, b0⟩ := rf (Zc5 Tryz.underlying9) (hf 0 _ rfl) hxl
 obtain ⟨v1, r1, b1⟩ := rf (ZnT Tryz.underlying4) (hf 1 _ rfl) hxl
 obtain ⟨v2, r2, b2⟩ := rf (ZaQ Tryz.underlying87 (by kernel_rfl : Tryz.prog.cellsOf 91 = 3) (by decide) (fun _ => rfl) (fun k hk => (ZC1 k))) (hf 2 _ rfl) hxl
 obtain ⟨v3, r3, b3⟩ := rf (ZaQ Tryz.underlying53 (by kernel_rfl : Tryz.prog.cellsOf 186 = 2) (by decide) (fun _ => rfl) (fun k hk => (Zsn k))) (hf 3 _ rfl) hxl
 obtain ⟨v4, r4, b4⟩ := rf (ZaQ Tryz.underlying49 (by kernel_rfl : Tryz.prog.cellsOf 116 = 8) (by decide) (fun _ => rfl) (fun k hk => (ZkE k))) (hf 4 _ rfl) hxl
 have q := Zc1 (ZaC b0 (ZaC b1 (ZaC b2 (ZaC b3 (Zda b4)))))
 exact ⟨.mk v0 v1 v2 v3 v4, ⟨by rw [hcl]; kernel_rfl, (r0.at.app (r1.at.app (r2.at.app (r3.at.app r4.at))))⟩, q⟩
theorem ZBF (n : Nat) : RdN enc Tryz.prog W n 96 ZlT := fun cs x hx => by
 obtain ⟨xs, m, rfl, rfl, hcl, hxl, hf⟩ := DataW.trod_struct Tryz.underlying96 hx
 obtain ⟨v0, r0, b0⟩ := rf (Zc5 Tryz.underlying9) (hf 0 _ rfl) hxl
 obtain ⟨v1, r1, b1⟩ := rf (Zc5 Tryz.underlying9) (hf 1 _ rfl) hxl
 obtain ⟨v2, r2, b2⟩ := rf (Zc5 Tryz.underlying9) (hf 2 _ rfl) hxl
 obtain ⟨v3, r3, b3⟩ := rf (Zc4 Tryz.underlying3) (hf 3 _ rfl) hxl
 obtain ⟨v4, r4, b4⟩ := rf (ZaQ Tryz.underlying49 (by kernel_rfl : Tryz.prog.cellsOf 116 = 8) (by decide) (fun _ => rfl) (fun k hk => (ZkE k))) (hf 4 _ rfl) hxl
 have q := Zc1 (ZaC b0 (ZaC b1 (ZaC b2 (ZaC b3 (Zda b4)))))
 exact ⟨.mk v0 v1 v2 v3 v4, ⟨by rw [hcl]; kernel_rfl, (r0.at.app (r1.at.app (r2.at.app (r3.at.app r4.at))))⟩, q⟩
theorem ZDU (n : Nat) : RdN enc Tryz.prog W n 94 ZcG := fun cs x hx => by
 obtain ⟨xs, m, rfl, rfl, hcl, hxl, hf⟩ := DataW.trod_struct Tryz.underlying94 hx
 obtain ⟨v0, r0, b0⟩ := rf (Zc5 Tryz.underlying9) (hf 0 _ rfl) hxl
 obtain ⟨v1, r1, b1⟩ := rf (ZaQ Tryz.underlying92 (by kernel_rfl : Tryz.prog.cellsOf 96 = 5) (by decide) (fun _ => rfl) (fun k hk => (ZBF k))) (hf 1 _ rfl) hxl
 obtain ⟨v2, r2, b2⟩ := rf (ZaQ Tryz.underlying49 (by kernel_rfl : Tryz.prog.cellsOf 116 = 8) (by decide) (fun _ => rfl) (fun k hk => (ZkE k))) (hf 2 _ rfl) hxl
 have q := Zc1 (ZaC b0 (ZaC b1 (Zda b2)))
 exact ⟨.mk v0 v1 v2, ⟨by rw [hcl]; kernel_rfl, (r0.at.app (r1.at.app r2.at))⟩, q⟩
theorem ZBi (n : Nat) : RdN enc Tryz.prog W n 26 Zcc := fun cs x hx => by
 obtain ⟨xs, m, rfl, rfl, hcl, hxl, hf⟩ := DataW.trod_struct Tryz.underlying26 hx
 obtain ⟨v0, r0, b0⟩ := rf (ZaQ Tryz.underlying22 (by kernel_rfl : Tryz.prog.cellsOf 56 = 5) (by decide) (fun _ => rfl) (fun k hk => (ZzL k))) (hf 0 _ rfl) hxl
 obtain ⟨v1, r1, b1⟩ := rf (ZaQ Tryz.underlying23 (by kernel_rfl : Tryz.prog.cellsOf 89 = 5) (by decide) (fun _ => rfl) (fun k hk => (ZDN k))) (hf 1 _ rfl) hxl
 obtain ⟨v2, r2, b2⟩ := rf (ZaQ Tryz.underlying24 (by kernel_rfl : Tryz.prog.cellsOf 94 = 3) (by decide) (fun _ => rfl) (fun k hk => (ZDU k))) (hf 2 _ rfl) hxl
 have q := Zc1 (ZaC b0 (ZaC b1 (Zda b2)))
 exact ⟨.mk v0 v1 v2, ⟨by rw [hcl]; kernel_rfl, (r0.at.app (r1.at.app r2.at))⟩, q⟩
end
end Go.Proofs.YtpjofefihlbppaaGreat
namespace Go.Eng
set_option linter.all false
open Go Go.RowKit
section
variable {σ ξ ρ α β γ : Type}
theorem ZcY {B : Nat → Option (Lv Nat ξ ρ)} {N : Nat} (l : List α) (p : α → Bool) (f : Nat → ρ) (e : ξ)
  (hs : ∀ i x, l[i]? = some x → B i = some (if p x = true then .rt (f i) else .nx (i + 1))) (he : B l.length = some (.ex e)) (hN : l.length < N) :
  Zag B N 0 = some (match l.findIdx? p with | some i => .inr (f i) | none => .inl e) := by
 suffices H : ∀ k i N, i + k = l.length → k < N → Zag B N i = some (match (l.drop i).findIdx? p with | some j => .inr (f (i + j)) | none => .inl e) by
  have := H l.length 0 N (by omega) hN
  simpa using this
 intro k
 induction k with
 | zero =>
  intro i N hi hN
  obtain ⟨N, rfl⟩ : ∃ m, N = m + 1 := ⟨N - 1, by omega⟩
  have : i = l.length := by omega
  subst this
  rw [Zag, he, List.drop_length]
  rfl
 | succ k ih =>
  intro i N hi hN
  obtain ⟨N, rfl⟩ : ∃ m, N = m + 1 := ⟨N - 1, by omega⟩
  have hlt : i < l.length := by omega
  rw [Zag, hs i l[i] (Yb hlt), Yac hlt, List.findIdx?_cons]
  cases hp : p l[i] with
  | true => simp
  | false =>
   simp only [YaG, if_false]
   rw [ih (i + 1) N (by omega) (by omega)]
   cases (List.drop (i + 1) l).findIdx? p with
   | none => rfl
   | some j => simp [Yn, YaS 1 j]
theorem ZjF {B : σ → Option (Lv σ ξ ρ)} (I : Nat → σ → Prop) (Q : ξ ⊕ ρ → Prop)
  (h : ∀ k v, I k v → ∃ o, B v = some o ∧ match o with | .nx v' => ∃ k', k' < k ∧ I k' v' | .ex b => Q (.inl b) | .rt y => Q (.inr y)) :
  ∀ N k v, k < N → I k v → ∃ o, Zag B N v = some o ∧ Q o
 | 0, k, v, hk, _ => absurd hk (Yaj _)
 | N + 1, k, v, hk, hI => by
  obtain ⟨o, h1, h2⟩ := h k v hI
  rw [Zag, h1]
  cases o with
  | nx v' => obtain ⟨k', h3, h4⟩ := h2; exact ZjF I Q h N k' v' (by omega) h4
  | ex b => exact ⟨_, rfl, h2⟩
  | rt y => exact ⟨_, rfl, h2⟩
theorem ZiY {l : List α} {i : Nat} {x : α} (h : l[i]? = some x) : (i : Int) < (l.length : Int) := by
 grind
theorem Zf3 {n : Nat} (h : n < 4611686018427387904) : n < big := h
end
end Go.Eng
namespace Go.Proofs.YtpjofefihlbppaaGreat
set_option linter.all false
open Go Go.Eng
def Ok {α : Type} (Q : α → Prop) (o : Option α) : Prop := ∃ y, o = some y ∧ Q y
section
variable {α β γ σ ξ ρ : Type} {Q : β → Prop} {P : α → Prop}
theorem Ok.pure {y : β} (h : Q y) : Ok Q (some y) := ⟨y, rfl, h⟩
theorem Ok.bind {m : Option α} {k : α → Option β} (h : Ok P m) (hk : ∀ y, P y → Ok Q (k y)) : Ok Q (m.bind k) := by
 obtain ⟨y, rfl, h⟩ := h
 exact hk y h
theorem Ok.idx {xs : List α} {i : Nat} {k : α → Option β} (h : i < xs.length) (hk : ∀ x, xs[i]? = some x → x ∈ xs → Ok Q (k x)) : Ok Q (xs[i]?.bind k) := by
 rw [Yb h]
 exact hk _ (Yb h) (Yag h)
theorem Ok.ite {c : Prop} {d : Decidable c} {a b : Option β} (h : c → Ok Q a) (h' : ¬c → Ok Q b) : Ok Q (if c then a else b) := by
 split
 ·exact h ‹_›
 ·exact h' ‹_›
theorem Ok.br {b : Bool} {x y : Option β} (h : b = true → Ok Q x) (h' : b = false → Ok Q y) : Ok Q (if b = true then x else y) := by
 cases b
 ·exact h' rfl
 ·exact h rfl
theorem Ok.if {c : Prop} {d : Decidable c} {a : Option β} (hc : c) (h : Ok Q a) : Ok Q (if c then a else none) := by
 rw [if_pos hc]
 exact h
theorem Ok.ss {lo hi : Bd} {n : Nat} {a : Option β} (hc : lo.c ∧ hi.c ∧ lo.vl 0 ≤ hi.vl n ∧ hi.vl n ≤ n) (h : Ok Q a) : Ok Q (if lo.c ∧ hi.c ∧ lo.vl 0 ≤ hi.vl n ∧ hi.vl n ≤ n then a else none) := by
 rw [if_pos hc]
 exact h
theorem Ok.clg {b : Bool} {m : Option α} {x : Option β} (h : b = true → Ok P m) [Inhabited α] (hk : (b = true → P (m.getD default)) → Ok Q x) : Ok Q (if (b = true → m.isSome = true) then x else none) := by
 rw [if_pos fun e => by obtain ⟨y, h, _⟩ := h e; rw [h]; rfl]
 refine hk fun e => ?_
 obtain ⟨y, h1, h2⟩ := h e
 rw [h1]
 exact h2
theorem Ok.idxg {b : Bool} {xs : List α} {i : Int} {x : Option β} [Rw α] (h : b = true → 0 ≤ i ∧ i < xs.length) (hk : (b = true → xs[i.toNat]? = some (xs.getD i.toNat Rw.z) ∧ xs.getD i.toNat Rw.z ∈ xs) → Ok Q x) : Ok Q (if (b = true → 0 ≤ i ∧ i < xs.length) then x else none) := by
 rw [if_pos h]
 refine hk fun e => ?_
 have h1 := h e
 have h2 : i.toNat < xs.length := by omega
 rw [Yw, Yb h2]
 exact ⟨rfl, Yag h2⟩
theorem Ok.loop {B : σ → Option (Lv σ ξ ρ)} {N : Nat} {v : σ} (I : σ → Prop) (μ : σ → Nat) {A : ξ → Prop} {R : ρ → Prop} (h0 : I v) (hN : μ v < N)
  (hs : ∀ v, I v → Ok (fun o => match o with | .nx v' => I v' ∧ μ v' < μ v | .ex b => A b | .rt y => R y) (B v)) : Ok (Sum.elim A R) (Zag B N v) :=
 ZjF (fun k v => I v ∧ μ v ≤ k) (Sum.elim A R) (fun k v h => by
  obtain ⟨o, h1, h2⟩ := hs v h.1
  refine ⟨o, h1, ?_⟩
  cases o with
  | nx v' => exact ⟨μ v', by have := h2.2; have := h.2; omega, h2.1, Ye _⟩
  | ex b => exact h2
  | rt y => exact h2) N (μ v) v hN ⟨h0, Ye _⟩
theorem Ok.lb {m : Option (ξ ⊕ ρ)} {A : ξ → Prop} {R : ρ → Prop} {f : ξ → Option β} {g : ρ → Option β} (h : Ok (Sum.elim A R) m) (hx : ∀ b, A b → Ok Q (f b)) (hr : ∀ r, R r → Ok Q (g r)) : Ok Q (m.bind (Sum.elim f g)) := by
 obtain ⟨y, rfl, h⟩ := h
 cases y with
 | inl b => exact hx b h
 | inr r => exact hr r h
theorem Ok.mono {Q' : β → Prop} {o : Option β} (h : Ok Q o) (k : ∀ y, Q y → Q' y) : Ok Q' o := by
 obtain ⟨y, h1, h2⟩ := h
 exact ⟨y, h1, k y h2⟩
theorem Ok.some {o : Option β} (h : Ok Q o) : o.isSome = true := by
 obtain ⟨y, h1, h2⟩ := h
 rw [h1]
 rfl
end
abbrev Tr {α : Type} : α → Prop := fun _ => True
abbrev No {α : Type} : α → Prop := fun _ => False
abbrev Ts {α β : Type} : α ⊕ β → Prop := Sum.elim Tr Tr
theorem sz0 : (⟨#[]⟩ : ByteArray).size = 0 := rfl
theorem ZFi (x : Int) : Ok Tr (Zce x) := ⟨_, rfl, trivial⟩
theorem ZFc (x : Int) : Ok Tr (Zb6 x) := ⟨_, rfl, trivial⟩
theorem ZI3 (x : Val) : Ok Tr (Zci x) := ⟨_, rfl, trivial⟩
theorem ZI2 (x : Int) : Ok Tr (Zcg x) := ⟨_, rfl, trivial⟩
theorem ZJA (x : Int) : Ok Tr (Zbq x) := by
 dsimp only [Zbq, Zmh, br, lr, br, rem]
 (repeat' (first | with_reducible refine Ok.br (fun _ => ?_) (fun _ => ?_) | with_reducible refine Ok.pure ?_ | with_reducible refine Ok.if ?_ ?_)) <;> (first | trivial | assumption | contradiction | omega | solve_by_elim | (simp only [Bool.and_eq_true, Bool.or_eq_true, Bool.not_eq_true', Bool.and_eq_false_iff, Bool.or_eq_false_iff, decide_eq_true_eq, decide_eq_false_iff_not] at *; omega) | grind)
theorem ZGM (x : ByteArray) : Ok Tr (ZbP x) := by
 dsimp only [ZbP, ZoZ, br, lr, br]
 (repeat' (first | with_reducible refine Ok.br (fun _ => ?_) (fun _ => ?_) | with_reducible refine Ok.pure ?_ | with_reducible refine Ok.if ?_ ?_)) <;> (first | trivial | assumption | contradiction | omega | solve_by_elim | (simp only [Bool.and_eq_true, Bool.or_eq_true, Bool.not_eq_true', Bool.and_eq_false_iff, Bool.or_eq_false_iff, decide_eq_true_eq, decide_eq_false_iff_not] at *; omega) | grind)
theorem ZKc (x : ByteArray) (n : Int) : Ok Tr (ZbJ x n) := by
 dsimp only [ZbJ, ZmU, br, lr, br]
 (repeat' (first | with_reducible refine Ok.br (fun _ => ?_) (fun _ => ?_) | with_reducible refine Ok.pure ?_ | with_reducible refine Ok.if ?_ ?_)) <;> (first | trivial | assumption | contradiction | omega | solve_by_elim | (simp only [Bool.and_eq_true, Bool.or_eq_true, Bool.not_eq_true', Bool.and_eq_false_iff, Bool.or_eq_false_iff, decide_eq_true_eq, decide_eq_false_iff_not] at *; omega) | grind)
theorem ZGD (x : ByteArray) : Ok Tr (Zbe x) := by
 dsimp only [Zbe, Zpy, br, lr, br]
 (repeat' (first | with_reducible refine Ok.br (fun _ => ?_) (fun _ => ?_) | with_reducible refine Ok.pure ?_ | with_reducible refine Ok.if ?_ ?_)) <;> (first | trivial | assumption | contradiction | omega | solve_by_elim | (simp only [Bool.and_eq_true, Bool.or_eq_true, Bool.not_eq_true', Bool.and_eq_false_iff, Bool.or_eq_false_iff, decide_eq_true_eq, decide_eq_false_iff_not] at *; omega) | grind)
theorem o91 (x : Fld) : Ok Tr (ZbG x) := by
 dsimp only [ZbG, Zwp, br, vw, lr, br]
 (repeat' (first | with_reducible refine Ok.br (fun _ => ?_) (fun _ => ?_) | with_reducible refine Ok.pure ?_ | with_reducible refine Ok.if ?_ ?_)) <;> (first | trivial | assumption | contradiction | omega | solve_by_elim | (simp only [Bool.and_eq_true, Bool.or_eq_true, Bool.not_eq_true', Bool.and_eq_false_iff, Bool.or_eq_false_iff, decide_eq_true_eq, decide_eq_false_iff_not] at *; omega) | grind)
theorem o83 (x : Int) : Ok Tr (Zbb x) := by
 dsimp only [Zbb, ZqB, lr]
 (repeat' (first | with_reducible refine Ok.br (fun _ => ?_) (fun _ => ?_) | with_reducible refine Ok.pure ?_ | with_reducible refine Ok.if ?_ ?_)) <;> (first | trivial | assumption | contradiction | omega | solve_by_elim | (simp only [Bool.and_eq_true, Bool.or_eq_true, Bool.not_eq_true', Bool.and_eq_false_iff, Bool.or_eq_false_iff, decide_eq_true_eq, decide_eq_false_iff_not] at *; omega) | grind)
theorem ZGP (x : ByteArray) (i a b : Int) (h : 0 ≤ i) : Ok Tr (Za8 x i a b) := by
 dsimp only [Za8, Zpf, vz, lr, eqN, ibg]
 (repeat' (first | with_reducible refine Ok.br (fun _ => ?_) (fun _ => ?_) | with_reducible refine Ok.pure ?_ | with_reducible refine Ok.if ?_ ?_)) <;> (first | trivial | assumption | contradiction | omega | solve_by_elim | (simp only [Bool.and_eq_true, Bool.or_eq_true, Bool.not_eq_true', Bool.and_eq_false_iff, Bool.or_eq_false_iff, decide_eq_true_eq, decide_eq_false_iff_not] at *; omega) | grind)
theorem ZI1 (x : ByteArray) (i n : Int) (h : 0 ≤ i) (h2 : i ≤ 2097152) (h3 : n ≤ 9) : Ok Tr (ZbO x i n) := by
 have q : Ok Ts (Zag (Zke x i n) big 0) := by
  refine Ok.loop (fun _ : Nat => True) (fun v : Nat => (n - v).toNat) trivial ?_ fun v _ => ?_
  ·unfold big
   omega
  dsimp only [Zke, ZoL, br, vs, lrt, ln, lxe, cl, wa, wi, br]
  (repeat' (first | with_reducible refine Ok.br (fun _ => ?_) (fun _ => ?_) | with_reducible refine Ok.pure ?_ | (with_reducible apply Ok.bind; (exact ZGP _ _ _ _ (by omega)); intro _ _) | with_reducible refine Ok.if ?_ ?_)) <;> (first | trivial | assumption | contradiction | omega | solve_by_elim | (simp only [Bool.and_eq_true, Bool.or_eq_true, Bool.not_eq_true', Bool.and_eq_false_iff, Bool.or_eq_false_iff, decide_eq_true_eq, decide_eq_false_iff_not] at *; omega) | grind)
 dsimp only [ZbO, ZlB, Zme, Zm8, lr, lc]
 (repeat' (first | with_reducible refine Ok.br (fun _ => ?_) (fun _ => ?_) | with_reducible refine Ok.pure ?_ | (with_reducible apply Ok.lb; (exact q); all_goals (intro _ _; try dsimp only)) | with_reducible refine Ok.if ?_ ?_)) <;> (first | trivial | assumption | contradiction | omega | solve_by_elim | (simp only [Bool.and_eq_true, Bool.or_eq_true, Bool.not_eq_true', Bool.and_eq_false_iff, Bool.or_eq_false_iff, decide_eq_true_eq, decide_eq_false_iff_not] at *; omega) | grind)
set_option maxRecDepth 20000 in
theorem ZKU (x : ByteArray) (i : Int) (h : 0 ≤ i) (h1 : i < x.size) (h2 : x.size ≤ 1048576) : Ok (fun y => 0 ≤ y ∧ y ≤ 4) (ZbL x i) := by
 dsimp only [ZbL, ZlL, br, vg, lr, clg, wi, br, ibi]
 (repeat' (first | with_reducible refine Ok.br (fun _ => ?_) (fun _ => ?_) | with_reducible refine Ok.pure ?_ | with_reducible refine Ok.idx ?_ (fun _ _ _ => ?_) | (with_reducible apply Ok.bind; (exact ZGP _ _ _ _ (by omega)); intro _ _) | (with_reducible apply Ok.bind; (exact ZI1 _ _ _ (by omega) (by omega) (by omega)); intro _ _) | (with_reducible apply Ok.clg; (exact fun _ => ZGP _ _ _ _ (by omega)); intro _) | (with_reducible apply Ok.clg; (exact fun _ => ZI1 _ _ _ (by omega) (by omega) (by omega)); intro _) | with_reducible refine Ok.if ?_ ?_)) <;> (first | trivial | assumption | contradiction | omega | solve_by_elim | (simp only [Bool.and_eq_true, Bool.or_eq_true, Bool.not_eq_true', Bool.and_eq_false_iff, Bool.or_eq_false_iff, decide_eq_true_eq, decide_eq_false_iff_not] at *; omega) | grind)
structure SzV (v : Val) : Prop where
 t : v.text.size ≤ 1048576
 l : v.list.length ≤ 1048576
 p : v.pairs.length ≤ 1048576
 s : v.slots.length ≤ 1048576
 r : v.raws.length ≤ 1048576
structure SzN (x : Nt) : Prop where
 n : x.name.size ≤ 1048576
 v : SzV x.val
abbrev ZpE (l : List Nt) : Prop := l.length ≤ 1048576 ∧ ∀ x ∈ l, SzN x
structure SzF (x : Fld) : Prop where
 n : x.name.size ≤ 1048576
 t : x.type.name.size ≤ 1048576
 u : x.union.size ≤ 1048576
 d : SzV x.dflt
 o : ZpE x.notes
structure SzM (x : Msg) : Prop where
 n : x.name.size ≤ 1048576
 fl : x.fields.length ≤ 1048576
 f : ∀ y ∈ x.fields, SzF y
 r : x.reserved.length ≤ 1048576
 gl : x.gone.length ≤ 1048576
 g : ∀ y ∈ x.gone, y.size ≤ 1048576
 o : ZpE x.notes
structure SzI (x : Itm) : Prop where
 n : x.name.size ≤ 1048576
 o : ZpE x.notes
structure SzE (x : Enm) : Prop where
 n : x.name.size ≤ 1048576
 il : x.items.length ≤ 1048576
 i : ∀ y ∈ x.items, SzI y
 r : x.reserved.length ≤ 1048576
 o : ZpE x.notes
structure SzT (x : Mth) : Prop where
 n : x.name.size ≤ 1048576
 o : ZpE x.notes
structure SzW (x : Svc) : Prop where
 n : x.name.size ≤ 1048576
 ml : x.methods.length ≤ 1048576
 m : ∀ y ∈ x.methods, SzT y
 o : ZpE x.notes
structure SzS (x : Scm) : Prop where
 ml : x.messages.length ≤ 1048576
 m : ∀ y ∈ x.messages, SzM y
 el : x.enums.length ≤ 1048576
 e : ∀ y ∈ x.enums, SzE y
 wl : x.services.length ≤ 1048576
 w : ∀ y ∈ x.services, SzW y
theorem szV {v : Val} (h : bkL (Zaz v) ≤ 1048576) : SzV v := by
 have h1 := ZcK (e := ZaK) v.list
 have h2 := ZcK (e := rPr) v.pairs
 have h3 := ZcK (e := Zar) v.slots
 have h4 := ZcK (e := ZaS) v.raws
 simp only [Zaz, bkL, bk] at h
 constructor <;> omega
theorem szN {x : Nt} (h : bkL (eNt x) ≤ 1048576) : SzN x := by
 have e : bkL (eNt x) = x.name.size + bkL (Zaz x.val) := by simp only [eNt, Zaz, bkL, bk]
 exact ⟨by omega, szV (by omega)⟩
theorem ZzA {l : List Nt} (h : ZkJ (l.map eNt) ≤ 1048576) : ZpE l := ⟨by have := ZcK (e := eNt) l; omega, fun x hx => szN (by have := Zcv (e := eNt) hx; omega)⟩
theorem szF {x : Fld} (h : bkL (ZaD x) ≤ 1048576) : SzF x := by
 have e : bkL (ZaD x) = x.name.size + x.type.name.size + x.union.size + bkL (Zaz x.dflt) + ZkJ (x.notes.map eNt) := by
  simp only [ZaD, Zaz, bkL, bk]
  omega
 exact ⟨by omega, by omega, by omega, szV (by omega), ZzA (by omega)⟩
theorem szM {x : Msg} (h : bkL (Zbn x) ≤ 1048576) : SzM x := by
 simp only [Zbn, bkL, bk] at h
 have h1 := ZcK (e := ZaD) x.fields
 have h2 := ZcK (e := Zcu) x.reserved
 have h3 := ZcK (e := ZaE) x.gone
 exact ⟨by omega, by omega, fun y hy => szF (by have := Zcv (e := ZaD) hy; omega), by omega, by omega, fun y hy => by have := Zcv (e := ZaE) hy; simp only [ZaE, bkL, bk] at this; omega, ZzA (by omega)⟩
theorem szI {x : Itm} (h : bkL (ZoB x) ≤ 1048576) : SzI x := by
 simp only [ZoB, bkL, bk] at h
 exact ⟨by omega, ZzA (by omega)⟩
theorem szE {x : Enm} (h : bkL (Zcd x) ≤ 1048576) : SzE x := by
 simp only [Zcd, bkL, bk] at h
 have h1 := ZcK (e := ZoB) x.items
 have h2 := ZcK (e := Zcu) x.reserved
 exact ⟨by omega, by omega, fun y hy => szI (by have := Zcv (e := ZoB) hy; omega), by omega, ZzA (by omega)⟩
theorem szT {x : Mth} (h : bkL (ZlT x) ≤ 1048576) : SzT x := by
 simp only [ZlT, bkL, bk] at h
 exact ⟨by omega, ZzA (by omega)⟩
theorem szW {x : Svc} (h : bkL (ZcG x) ≤ 1048576) : SzW x := by
 simp only [ZcG, bkL, bk] at h
 have h1 := ZcK (e := ZlT) x.methods
 exact ⟨by omega, by omega, fun y hy => szT (by have := Zcv (e := ZlT) hy; omega), ZzA (by omega)⟩
theorem szS {x : Scm} (h : bkL (Zcc x) ≤ 1048576) : SzS x := by
 simp only [Zcc, bkL, bk] at h
 have h1 := ZcK (e := Zbn) x.messages
 have h2 := ZcK (e := Zcd) x.enums
 have h3 := ZcK (e := ZcG) x.services
 exact ⟨by omega, fun y hy => szM (by have := Zcv (e := Zbn) hy; omega), by omega, fun y hy => szE (by have := Zcv (e := Zcd) hy; omega), by omega, fun y hy => szW (by have := Zcv (e := ZcG) hy; omega)⟩
theorem ZiH (x : ByteArray) : x.data.toList.length = x.size := by rw [YQ]; rfl
theorem Zax {n : Nat} (h : n ≤ 2097152) : n < big := by unfold big; omega
theorem ZK6 (x : ByteArray) (h : x.size ≤ 1048576) : Ok Tr (Zb0 x) := by
 have q : Ok Ts (Zag (Zj7 x) big 0) := by
  refine Ok.loop (fun v : Int => 0 ≤ v ∧ v ≤ x.size + 4) (fun v : Int => (x.size + 4 - v).toNat) ⟨by omega, by omega⟩ (Zax (by omega)) fun v hv => ?_
  dsimp only [Zj7, Zoe, br, vz, vs, lrt, ln, lxe, cl, wi, eqN, br]
  (repeat' (first | with_reducible refine Ok.br (fun _ => ?_) (fun _ => ?_) | with_reducible refine Ok.pure ?_ | (with_reducible apply Ok.bind; (exact ZKU _ _ hv.1 (by (first | trivial | assumption | contradiction | omega | solve_by_elim | (simp only [Bool.and_eq_true, Bool.or_eq_true, Bool.not_eq_true', Bool.and_eq_false_iff, Bool.or_eq_false_iff, decide_eq_true_eq, decide_eq_false_iff_not] at *; omega) | grind)) h); intro _ _) | with_reducible refine Ok.if ?_ ?_)) <;> (first | trivial | assumption | contradiction | omega | grind | (simp only [Bd.c, Bd.vl, ByteArray.size_append, ByteArray.size_extract, sz0] at *; grind))
 dsimp only [Zb0, ZoG, ZmF, Znh, lr, lc]
 (repeat' (first | with_reducible refine Ok.br (fun _ => ?_) (fun _ => ?_) | with_reducible refine Ok.pure ?_ | (with_reducible apply Ok.lb; (exact q); all_goals (intro _ _; try dsimp only)) | with_reducible refine Ok.if ?_ ?_)) <;> (first | trivial | assumption | contradiction | omega | solve_by_elim | (simp only [Bool.and_eq_true, Bool.or_eq_true, Bool.not_eq_true', Bool.and_eq_false_iff, Bool.or_eq_false_iff, decide_eq_true_eq, decide_eq_false_iff_not] at *; omega) | grind)
theorem o97 (x : ByteArray) (h : x.size ≤ 1048576) : Ok Tr (Zby x) := by
 dsimp only [Zby, Zy1, lr, cl]
 (repeat' (first | with_reducible refine Ok.br (fun _ => ?_) (fun _ => ?_) | with_reducible refine Ok.pure ?_ | (with_reducible apply Ok.bind; (exact ZK6 _ h); intro _ _) | with_reducible refine Ok.if ?_ ?_)) <;> (first | trivial | assumption | contradiction | omega | solve_by_elim | (simp only [Bool.and_eq_true, Bool.or_eq_true, Bool.not_eq_true', Bool.and_eq_false_iff, Bool.or_eq_false_iff, decide_eq_true_eq, decide_eq_false_iff_not] at *; omega) | grind)
theorem ZEU (x : ByteArray) (h : x.size ≤ 1048576) : Ok Tr (Zbh x) := by
 have hl := ZiH x
 have q : Ok Ts (Zag (Zj3 x) big 1) := by
  refine Ok.loop (fun v : Nat => v ≤ 1048577) (fun v : Nat => 1048577 - v) (by omega) (Zax (by omega)) fun v hv => ?_
  dsimp only [Zj3, ZnR, br, vz, vs, lrt, ln, lxe, cl, clg, wa, eqN, br, ib, ibg]
  (repeat' (first | with_reducible refine Ok.br (fun _ => ?_) (fun _ => ?_) | with_reducible refine Ok.pure ?_ | with_reducible refine Ok.idx ?_ (fun _ _ _ => ?_) | (with_reducible apply Ok.bind; (exact ZFi _); intro _ _) | (with_reducible apply Ok.bind; (exact ZFc _); intro _ _) | (with_reducible apply Ok.clg; (exact fun _ => ZFi _); intro _) | (with_reducible apply Ok.clg; (exact fun _ => ZFc _); intro _) | with_reducible refine Ok.if ?_ ?_)) <;> (first | trivial | assumption | contradiction | omega | grind | (simp only [Bd.c, Bd.vl, ByteArray.size_append, ByteArray.size_extract, sz0] at *; grind))
 dsimp only [Zbh, Zpt, Zpg, Zoz, br, vz, vy, lr, lc, clg, eqN, br, ibg]
 (repeat' (first | with_reducible refine Ok.br (fun _ => ?_) (fun _ => ?_) | with_reducible refine Ok.pure ?_ | (with_reducible apply Ok.lb; (exact q); all_goals (intro _ _; try dsimp only)) | (with_reducible apply Ok.bind; (exact ZFi _); intro _ _) | (with_reducible apply Ok.bind; (exact ZFc _); intro _ _) | (with_reducible apply Ok.clg; (exact fun _ => ZFi _); intro _) | (with_reducible apply Ok.clg; (exact fun _ => ZFc _); intro _) | with_reducible refine Ok.if ?_ ?_)) <;> (first | trivial | assumption | contradiction | omega | solve_by_elim | (simp only [Bool.and_eq_true, Bool.or_eq_true, Bool.not_eq_true', Bool.and_eq_false_iff, Bool.or_eq_false_iff, decide_eq_true_eq, decide_eq_false_iff_not] at *; omega) | grind)
theorem ZJN (x : ByteArray) (h : x.size ≤ 1048576) : Ok Tr (Zbd x) := by
 have hl := ZiH x
 have q : Ok (Sum.elim (fun b : ByteArray => b.size ≤ 1048576) Tr) (Zag (ZjN x) big (⟨#[]⟩, 0)) := by
  refine Ok.loop (fun v : ByteArray × Nat => v.1.size ≤ v.2 ∧ v.2 ≤ x.size) (fun v : ByteArray × Nat => x.size - v.2) ⟨by rw [sz0]; omega, by omega⟩ (Zax (by omega)) fun v hv => ?_
  obtain ⟨v, i⟩ := v
  obtain ⟨hv, hi⟩ := hv
  dsimp only at hv hi
  dsimp only [ZjN, Zpx, br, vz, vs, v2, lrt, ln, lxe, ad, cl, wa, ss, eqN, br, ib]
  (repeat' (first | with_reducible refine Ok.br (fun _ => ?_) (fun _ => ?_) | with_reducible refine Ok.pure ?_ | with_reducible refine Ok.idx ?_ (fun _ _ _ => ?_) | (with_reducible apply Ok.bind; (exact ZEU _ (by omega)); intro _ _) | with_reducible refine Ok.ss ?_ ?_ | with_reducible refine Ok.if ?_ ?_)) <;> (first | trivial | assumption | contradiction | omega | grind | (simp only [Bd.c, Bd.vl, ByteArray.size_append, ByteArray.size_extract, sz0] at *; grind))
 dsimp only [Zbd, Zn8, Znk, Zo0, br, vz, lr, lc, cl, eqN, br]
 (repeat' (first | with_reducible refine Ok.br (fun _ => ?_) (fun _ => ?_) | with_reducible refine Ok.pure ?_ | (with_reducible apply Ok.lb; (exact q); all_goals (intro _ _; try dsimp only)) | (with_reducible apply Ok.bind; (exact ZEU _ (by assumption)); intro _ _) | with_reducible refine Ok.if ?_ ?_)) <;> (first | trivial | assumption | contradiction | omega | solve_by_elim | (simp only [Bool.and_eq_true, Bool.or_eq_true, Bool.not_eq_true', Bool.and_eq_false_iff, Bool.or_eq_false_iff, decide_eq_true_eq, decide_eq_false_iff_not] at *; omega) | grind)
set_option maxRecDepth 20000 in
theorem ZK9 (x : ByteArray) (h : x.size ≤ 1048576) : Ok (fun y => y.1.size ≤ 1048576 ∧ y.2.size ≤ 1048576) (Zbx x) := by
 have hl := ZiH x
 have q : Ok (Sum.elim Tr (fun y : ByteArray × ByteArray => y.1.size ≤ 1048576 ∧ y.2.size ≤ 1048576)) (Zag (ZjY x) big ((x.size : Int) - 1)) := by
  refine Ok.loop (fun v : Int => -1 ≤ v ∧ v < x.size) (fun v : Int => (v + 1).toNat) ⟨by omega, by omega⟩ (Zax (by omega)) fun v hv => ?_
  dsimp only [ZjY, Zph, br, vs, lrt, ln, lxe, wi, ss, br, ibi]
  (repeat' (first | with_reducible refine Ok.br (fun _ => ?_) (fun _ => ?_) | with_reducible refine Ok.pure ?_ | with_reducible refine Ok.idx ?_ (fun _ _ _ => ?_) | with_reducible refine Ok.ss ?_ ?_ | with_reducible refine Ok.if ?_ ?_)) <;> (first | trivial | assumption | contradiction | omega | grind | (simp only [Bd.c, Bd.vl, ByteArray.size_append, ByteArray.size_extract, sz0] at *; grind))
 dsimp only [Zbx, ZnE, Zpa, Zod, vz, vs, lr, lc, wi, eqN]
 (repeat' (first | with_reducible refine Ok.br (fun _ => ?_) (fun _ => ?_) | with_reducible refine Ok.pure ?_ | (with_reducible apply Ok.lb; (exact q); all_goals (intro _ _; try dsimp only)) | with_reducible refine Ok.if ?_ ?_)) <;> (first | trivial | assumption | contradiction | omega | grind | (simp only [Bd.c, Bd.vl, ByteArray.size_append, ByteArray.size_extract, sz0] at *; grind))
set_option maxRecDepth 20000 in
theorem o88 (x : ByteArray) (h : x.size ≤ 1048576) : Ok Tr (Zbi x) := by
 have q : Ok Ts (Zag Zr1 big (x, 0)) := by
  refine Ok.loop (fun v : ByteArray × Nat => v.1.size ≤ 1048576 ∧ v.2 ≤ 120) (fun v : ByteArray × Nat => 120 - v.2) ⟨h, by omega⟩ (Zax (by omega)) fun v hv => ?_
  obtain ⟨v, i⟩ := v
  obtain ⟨hv, hi⟩ := hv
  dsimp only at hv hi
  dsimp only [Zr1, ZyQ, br, vs, v2, lrt, ln, lxe, cl, wa, br]
  (repeat' (first | with_reducible refine Ok.br (fun _ => ?_) (fun _ => ?_) | with_reducible refine Ok.pure ?_ | (with_reducible apply Ok.bind; (exact ZK9 _ hv); intro _ _) | (with_reducible apply Ok.bind; (exact ZGD _); intro _ _) | with_reducible refine Ok.if ?_ ?_)) <;> (first | trivial | assumption | contradiction | omega | grind | (simp only [Bd.c, Bd.vl, ByteArray.size_append, ByteArray.size_extract, sz0] at *; grind))
 dsimp only [Zbi, Zyz, ZwE, ZxW, br, lr, lc, cl, br]
 (repeat' (first | with_reducible refine Ok.br (fun _ => ?_) (fun _ => ?_) | with_reducible refine Ok.pure ?_ | (with_reducible apply Ok.lb; (exact q); all_goals (intro _ _; try dsimp only)) | (with_reducible apply Ok.bind; (exact ZJN _ h); intro _ _) | with_reducible refine Ok.if ?_ ?_)) <;> (first | trivial | assumption | contradiction | omega | grind | (simp only [Bd.c, Bd.vl, ByteArray.size_append, ByteArray.size_extract, sz0] at *; grind))
set_option maxRecDepth 20000 in
theorem o89 (x : ByteArray) (h : x.size ≤ 1048576) : Ok Tr (ZaO x) := by
 dsimp only [ZaO, ZuT, lr, cl, clg]
 (repeat' (first | with_reducible refine Ok.br (fun _ => ?_) (fun _ => ?_) | with_reducible refine Ok.pure ?_ | (with_reducible apply Ok.bind; (exact ZEU _ h); intro _ _) | (with_reducible apply Ok.bind; (exact ZGD _); intro _ _) | (with_reducible apply Ok.clg; (exact fun _ => ZEU _ h); intro _) | (with_reducible apply Ok.clg; (exact fun _ => ZGD _); intro _) | with_reducible refine Ok.if ?_ ?_)) <;> (first | trivial | assumption | contradiction | omega | grind | (simp only [Bd.c, Bd.vl, ByteArray.size_append, ByteArray.size_extract, sz0] at *; grind))
theorem o86 (l : List ByteArray) (x : ByteArray) (h : l.length ≤ 1048576) : Ok Tr (ZaI l x) := by
 have q : Ok Ts (Zag (Zla l x) big 0) := by
  refine Ok.loop (fun v : Nat => v ≤ l.length) (fun v : Nat => l.length - v) (by omega) (Zax (by omega)) fun v hv => ?_
  dsimp only [Zla, Zqi, br, ix, vz, vs, lrt, ln, lxe, wa, eqL, br]
  (repeat' (first | with_reducible refine Ok.br (fun _ => ?_) (fun _ => ?_) | with_reducible refine Ok.pure ?_ | with_reducible refine Ok.idx ?_ (fun _ _ _ => ?_) | with_reducible refine Ok.if ?_ ?_)) <;> (first | trivial | assumption | contradiction | omega | grind | (simp only [Bd.c, Bd.vl, ByteArray.size_append, ByteArray.size_extract, sz0] at *; grind))
 dsimp only [ZaI, ZpS, Zrm, Zrk, lr, lc]
 (repeat' (first | with_reducible refine Ok.br (fun _ => ?_) (fun _ => ?_) | with_reducible refine Ok.pure ?_ | (with_reducible apply Ok.lb; (exact q); all_goals (intro _ _; try dsimp only)) | with_reducible refine Ok.if ?_ ?_)) <;> (first | trivial | assumption | contradiction | omega | grind | (simp only [Bd.c, Bd.vl, ByteArray.size_append, ByteArray.size_extract, sz0] at *; grind))
theorem o90 (l : List Spn) (x : Int) (h : l.length ≤ 1048576) : Ok Tr (ZaY l x) := by
 have q : Ok Ts (Zag (Zq5 l x) big 0) := by
  refine Ok.loop (fun v : Nat => v ≤ l.length) (fun v : Nat => l.length - v) (by omega) (Zax (by omega)) fun v hv => ?_
  dsimp only [Zq5, Zx8, br, ix, ixg, vz, vs, lrt, ln, lxe, wa, eqL, br]
  (repeat' (first | with_reducible refine Ok.br (fun _ => ?_) (fun _ => ?_) | with_reducible refine Ok.pure ?_ | with_reducible refine Ok.idx ?_ (fun _ _ _ => ?_) | with_reducible refine Ok.idxg ?_ (fun _ => ?_) | with_reducible refine Ok.if ?_ ?_)) <;> (first | trivial | assumption | contradiction | omega | grind | (simp only [Bd.c, Bd.vl, ByteArray.size_append, ByteArray.size_extract, sz0] at *; grind))
 dsimp only [ZaY, Zu3, ZwU, Zuz, lr, lc]
 (repeat' (first | with_reducible refine Ok.br (fun _ => ?_) (fun _ => ?_) | with_reducible refine Ok.pure ?_ | (with_reducible apply Ok.lb; (exact q); all_goals (intro _ _; try dsimp only)) | with_reducible refine Ok.if ?_ ?_)) <;> (first | trivial | assumption | contradiction | omega | grind | (simp only [Bd.c, Bd.vl, ByteArray.size_append, ByteArray.size_extract, sz0] at *; grind))
theorem o98 (s : Scm) (x : ByteArray) (h : SzS s) : Ok (fun y : Int => y < s.messages.length) (ZaN s x) := by
 have hm := h.ml
 have q : Ok (Sum.elim Tr fun y : Int => y < s.messages.length) (Zag (ZrM s x) big 0) := by
  refine Ok.loop (fun v : Nat => v ≤ s.messages.length) (fun v : Nat => s.messages.length - v) (by omega) (Zax (by omega)) fun v hv => ?_
  dsimp only [ZrM, ZyS, br, ix, vz, vw, vs, lrt, ln, lxe, wa, eqL, br]
  (repeat' (first | with_reducible refine Ok.br (fun _ => ?_) (fun _ => ?_) | with_reducible refine Ok.pure ?_ | with_reducible refine Ok.idx ?_ (fun _ _ _ => ?_) | with_reducible refine Ok.if ?_ ?_)) <;> (first | trivial | assumption | contradiction | omega | grind | (simp only [Bd.c, Bd.vl, ByteArray.size_append, ByteArray.size_extract, sz0] at *; grind))
 dsimp only [ZaN, ZxH, Zyt, Zy2, lr, lc]
 (repeat' (first | with_reducible refine Ok.br (fun _ => ?_) (fun _ => ?_) | with_reducible refine Ok.pure ?_ | (with_reducible apply Ok.lb; (exact q); all_goals (intro _ _; try dsimp only)) | with_reducible refine Ok.if ?_ ?_)) <;> (first | trivial | assumption | contradiction | omega | grind | (simp only [Bd.c, Bd.vl, ByteArray.size_append, ByteArray.size_extract, sz0] at *; grind))
theorem ZHN (s : Scm) (x : ByteArray) (h : SzS s) : Ok (fun y : Int => y < s.enums.length) (Za6 s x) := by
 have hm := h.el
 have q : Ok (Sum.elim Tr fun y : Int => y < s.enums.length) (Zag (Zj9 s x) big 0) := by
  refine Ok.loop (fun v : Nat => v ≤ s.enums.length) (fun v : Nat => s.enums.length - v) (by omega) (Zax (by omega)) fun v hv => ?_
  dsimp only [Zj9, Zmo, br, ix, vz, vw, vs, lrt, ln, lxe, wa, eqL, br]
  (repeat' (first | with_reducible refine Ok.br (fun _ => ?_) (fun _ => ?_) | with_reducible refine Ok.pure ?_ | with_reducible refine Ok.idx ?_ (fun _ _ _ => ?_) | with_reducible refine Ok.if ?_ ?_)) <;> (first | trivial | assumption | contradiction | omega | grind | (simp only [Bd.c, Bd.vl, ByteArray.size_append, ByteArray.size_extract, sz0] at *; grind))
 dsimp only [Za6, Zo2, ZoN, Zmw, lr, lc]
 (repeat' (first | with_reducible refine Ok.br (fun _ => ?_) (fun _ => ?_) | with_reducible refine Ok.pure ?_ | (with_reducible apply Ok.lb; (exact q); all_goals (intro _ _; try dsimp only)) | with_reducible refine Ok.if ?_ ?_)) <;> (first | trivial | assumption | contradiction | omega | grind | (simp only [Bd.c, Bd.vl, ByteArray.size_append, ByteArray.size_extract, sz0] at *; grind))
theorem ZFy (v w : Val) (h : SzV v) (k : SzV w) : Ok Tr (ZaP v w) := by
 obtain ⟨_, _, _, _, _⟩ := h
 obtain ⟨_, _, _, _, _⟩ := k
 dsimp only [ZaP, ZoR, vy, vw, vg, lr, wa, eqL]
 (repeat' (first | with_reducible refine Ok.br (fun _ => ?_) (fun _ => ?_) | with_reducible refine Ok.pure ?_ | with_reducible refine Ok.if ?_ ?_)) <;> (first | trivial | assumption | contradiction | omega | grind | (simp only [Bd.c, Bd.vl, ByteArray.size_append, ByteArray.size_extract, sz0] at *; grind))
theorem ZFG (n : Int) (v : Val) (h : SzV v) : Ok Tr (ZbI n v) := by
 have h1 := h.t
 dsimp only [ZbI, Zoo, br, vz, vy, vw, lr, cl, clg, eqN, br]
 (repeat' (first | with_reducible refine Ok.br (fun _ => ?_) (fun _ => ?_) | with_reducible refine Ok.pure ?_ | (with_reducible apply Ok.bind; (exact o83 _); intro _ _) | (with_reducible apply Ok.bind; (exact ZI3 _); intro _ _) | (with_reducible apply Ok.bind; (exact ZI2 _); intro _ _) | (with_reducible apply Ok.bind; (exact o97 _ h1); intro _ _) | (with_reducible apply Ok.clg; (exact fun _ => o83 _); intro _) | (with_reducible apply Ok.clg; (exact fun _ => ZI3 _); intro _) | (with_reducible apply Ok.clg; (exact fun _ => ZI2 _); intro _) | (with_reducible apply Ok.clg; (exact fun _ => o97 _ h1); intro _) | with_reducible refine Ok.if ?_ ?_)) <;> (first | trivial | assumption | contradiction | omega | grind | (simp only [Bd.c, Bd.vl, ByteArray.size_append, ByteArray.size_extract, sz0] at *; grind))
theorem ZIK (v : Val) (h : SzV v) : Ok SzV (ZbF v) := by
 dsimp only [ZbF, ZnQ, br, vw, lr, clg, br]
 (repeat' (first | with_reducible refine Ok.br (fun _ => ?_) (fun _ => ?_) | with_reducible refine Ok.pure ?_ | (with_reducible apply Ok.bind; (exact ZJA _); intro _ _) | (with_reducible apply Ok.clg; (exact fun _ => ZJA _); intro _) | with_reducible refine Ok.if ?_ ?_)) <;> first | exact h | exact ⟨h.t, h.l, h.p, h.s, h.r⟩
theorem ZKx (x : Nt) (h : SzN x) : Ok Tr (Zbo x) := by
 dsimp only [Zbo, Znr, vw, lr, cl, clg]
 (repeat' (first | with_reducible refine Ok.br (fun _ => ?_) (fun _ => ?_) | with_reducible refine Ok.pure ?_ | (with_reducible apply Ok.bind; (exact ZGM _); intro _ _) | (with_reducible apply Ok.bind; (exact ZFG _ _ h.v); intro _ _) | (with_reducible apply Ok.clg; (exact fun _ => ZGM _); intro _) | (with_reducible apply Ok.clg; (exact fun _ => ZFG _ _ h.v); intro _) | with_reducible refine Ok.if ?_ ?_)) <;> (first | trivial | assumption | contradiction | omega | grind | (simp only [Bd.c, Bd.vl, ByteArray.size_append, ByteArray.size_extract, sz0] at *; grind))
theorem ZK4 (l : List Nt) (n : Int) (h : ZpE l) : Ok Tr (Zbr l n) := by
 obtain ⟨h1, h2⟩ := h
 have q : Ok Ts (Zag (ZjD l n) big 0) := by
  refine Ok.loop (fun v : Nat => v ≤ l.length) (fun v : Nat => l.length - v) (by omega) (Zax (by omega)) fun v hv => ?_
  dsimp only [ZjD, ZnX, br, ix, ixg, vz, vs, vg, lrt, ln, lxe, cl, wa, wi, eqL, br]
  (repeat' (first | with_reducible refine Ok.br (fun _ => ?_) (fun _ => ?_) | with_reducible refine Ok.pure ?_ | with_reducible refine Ok.idx ?_ (fun _ _ _ => ?_) | (with_reducible apply Ok.bind; (exact ZGM _); intro _ _) | (with_reducible apply Ok.bind; (exact ZKc _ _); intro _ _) | (with_reducible apply Ok.bind; (exact ZKx _ (h2 _ (by assumption))); intro _ _) | with_reducible refine Ok.idxg ?_ (fun _ => ?_) | with_reducible refine Ok.if ?_ ?_)) <;> (first | trivial | assumption | contradiction | omega | grind | (simp only [Bd.c, Bd.vl, ByteArray.size_append, ByteArray.size_extract, sz0] at *; grind))
 dsimp only [Zbr, ZlD, ZnA, ZoF, br, vz, lr, lc, eqL, br]
 (repeat' (first | with_reducible refine Ok.br (fun _ => ?_) (fun _ => ?_) | with_reducible refine Ok.pure ?_ | (with_reducible apply Ok.lb; (exact q); all_goals (intro _ _; try dsimp only)) | with_reducible refine Ok.if ?_ ?_)) <;> (first | trivial | assumption | contradiction | omega | grind | (simp only [Bd.c, Bd.vl, ByteArray.size_append, ByteArray.size_extract, sz0] at *; grind))
end Go.Proofs.YtpjofefihlbppaaGreat
