import Derived.Calls
import Derived.Below
import Derived.Tactics
import Derived.Laws.Sem
import Derived.Laws.World
import Derived.Laws.Rows
import Derived.Laws.AppendOwn
import Derived.Laws.Strings
import Derived.Laws.StructEq
import Derived.Laws.Tables
import Derived.Laws.Slices
namespace Go.Eng
set_option linter.all false
open Go Go.RowKit
def Ya := @Nat.eq_of_beq_eq_true
def Yb := @List.getElem?_eq_getElem
def Yc := @Nat.le_of_ble_eq_true
def Yd := @Nat.le_refl
def Ye := @Option.some.injEq
def Yf := @Array.getElem?_eq_getElem
def Yg := @List.getElem?_append_left
def Yh := @List.all_eq_true
def Yi := @Array.getElem?_toList
def Yj := @List.mem_of_getElem?
def Yk := @List.getElem?_append_right
def Ym := @Array.getD_eq_getD_getElem?
def Yn := @Option.bind_some
def Yo := @Nat.lt_or_ge
def Yp := @Nat.add_assoc
def Yq := @List.mem_cons_of_mem
def Yr := @List.length_append
def Ys := @List.mem_cons
def Yt := @List.getD_eq_getElem?_getD
def Yu := @List.length_map
def Yv := @List.getElem?_map
def Yw := @List.mem_cons_self
def Yx := @List.getElem?_eq_none
def Yy := @List.mem_map
def Yz := @Nat.zero_add
def YB := @Nat.add_mul
def YC := @Option.map_some
def YD := @Array.getElem?_eq_some_iff
def YE := @List.map_cons
def YF := @List.mem_iff_getElem?
def YG := @List.getElem?_cons_zero
def YH := @List.any_eq_true
def YI := @Option.isSome_iff_exists
def YJ := @Nat.mul_le_mul_right
def YK := @List.getElem?_drop
def YL := @Array.getElem?_eq_none
def YM := @List.getElem?_take
def YN := @Bool.false_eq_true
def YO := @List.eq_nil_of_length_eq_zero
def YP := @Nat.lt_succ_self
def YQ := @Array.length_toList
def YR := @List.map_congr_left
def YS := @Array.ext'
def YT := @Option.map_eq_some_iff
def YU := @List.length_take
def YV := @Option.getD_some
def YW := @List.append_assoc
def YX := @List.mem_filter
def YY := @List.getElem?_cons_succ
def YZ := @List.length_cons
def Y0 := @List.take_succ_eq_append_getElem
def Y1 := @Array.getElem?_extract
def Y2 := @List.drop_eq_getElem_cons
def Y3 := @List.mem_singleton
def Y4 := @Nat.zero_le
def Y5 := @Array.getElem?_setIfInBounds
def Y6 := @List.mem_append_left
def Y7 := @Prod.mk.injEq
def Y8 := @List.getElem?_eq_none_iff
def Y9 := @Nat.le_trans
def Yaa := @Array.eq_empty_of_size_eq_zero
def Yab := @List.flatten_cons
def Yac := @Array.getElem?_push
def Yad := @List.length_drop
def Yae := @Nat.add_zero
def Yaf := @List.length_nil
def Yag := @List.nil_append
def Yah := @Nat.not_lt_zero
def Yai := @List.mem_append
def Yaj := @List.all_cons
def Yak := @Array.getElem?_append_left
def Yal := @List.findIdx?_eq_some_iff_getElem
def Yam := @List.map_map
def Yan := @List.getElem_mem
def Yao := @List.mem_map_of_mem
def Yap := @List.foldl_cons
def Yaq := @Nat.min_eq_left
def Yar := @List.append_nil
def Yas := @List.take_of_length_le
def Yat := @List.mem_range
def Yau := @Array.mem_append
def Yav := @List.mem_toArray
def Yaw := @Array.getElem?_map
def Yax := @List.mem_replicate
def Yay := @Nat.zero_mul
def Yaz := @List.pairwise_cons
def YaA := @List.eraseIdx_cons_succ
def YaB := @List.filter_cons_of_neg
def YaC := @Nat.lt_trichotomy
def YaD := @Bool.not_true
def YaE := @Bool.false_or
def YaF := @List.cons_append
def YaG := @List.mem_flatten
def YaH := @List.take_length
def YaI := @List.take_append_drop
def YaJ := @Array.getElem?_modify
def YaK := @Nat.succ.inj
def YaL := @Array.mem_toList_iff
def YaM := @Int.mul_le_mul_of_nonneg_right
def YaN := @List.map_append
def YaO := @List.replicate_succ
def YaP := @List.map_eq_nil_iff
def YaQ := @List.mapM_cons
def YaR := @Nat.one_mul
def YaS := @Int.le_refl
def YaT := @List.getElem_range
def YaU := @Nat.eq_zero_or_pos
def YaV := @List.filter_append
def YaW := @List.getElem?_set
def YaX := @Int.toNat_natCast
def YaY := @Nat.le_succ_of_le
def YaZ := @List.foldl_append
def Ya0 := @Array.mapM_eq_mapM_toList
def Ya1 := @List.findIdx?_eq_none_iff
def Ya2 := @List.mem_of_find?_eq_some
def Ya3 := @List.getElem_map
def Ya4 := @Nat.beq_refl
def Ya5 := @Array.setIfInBounds_comm
def Ya6 := @Nat.add_comm
def Ya7 := @List.drop_length
def Ya8 := @Sum.elim_inl
def Ya9 := @List.filter_cons
def Yba := @Option.bind_eq_some_iff
def Ybb := @List.filter_cons_of_pos
def Ybc := @List.length_eq_zero_iff
def Ybd := @List.nodup_cons
def Ybe := @Nat.mul_pos
def Ybf := @List.filter_eq_nil_iff
def Ybg := @Array.mem_of_getElem?
def Ybh := @List.getElem?_toArray
def Ybi := @List.drop_zero
def Ybj := @Nat.ble_eq_true_of_le
def Ybk := @List.length_replicate
def Ybl := @List.length_filter_le
def Ybm := @Bool.not_false
def Ybn := @List.map_nil
def Ybo := @Int.lt_or_le
abbrev Key := Nat × Nat
inductive D where
 | int (k : IntKind) (n : Int)
 | bool (b : Bool)
 | str (s : ByteArray)
 | list (es : List (List D))
 | map (a : Bool) (es : List (List D))
inductive EK where
 | t (e : TypeId)
 | m (a : Bool) (es : List (List D))
 | i (a : Bool) (es : List (List D)) (cur : Option (List D))
 | s (x : ByteArray) (p : Nat)
instance : Coe TypeId EK := ⟨.t⟩
instance (n : Nat) : OfNat EK n := ⟨.t n⟩
@[simp] def EK.ty : EK → TypeId
 | .t e => e
 | _ => 0
@[simp] def EK.isO : EK → Bool
 | .t _ => false
 | _ => true
inductive AV where
 | top
 | d (x : D)
 | e0
 | p (x : Value)
 | ref (k : Key) (g off n : Nat)
 | ptr (k : Key) (g off : Nat)
 | mp (k : Key) (g : Nat)
 | iptr (cs : List D) (off : Nat)
 | ifc (t : TypeId) (ds : List D) (a : Bool)
 | fn (f : Fn) (first caps : List AV)
 | agg (cs : List AV)
 | tup (vs : List AV)
structure Blk where
 g : Nat
 live : Bool
 e : EK
 sz : Nat
 cells : List AV
structure MB where
 b : Nat
 o : Nat
 cap : Nat
abbrev Hp := Key → Blk
abbrev Mu := Key → MB
def D.one : D → Bool := fun _ => true
def cOf (a : Bool) (ents : Array MapEntry) (i j : Nat) : Value :=
 match ents[i]?, j with
 | none, _ => .bool true
 | some x, 0 => x.key
 | some x, j + 1 => if a = true then x.val.cells.getD j (.bool true) else x.val
structure MSh (a : Bool) (es : List (List D)) (ents : Array MapEntry) (clock : Nat) : Prop where
 n : ents.size = es.length
 born : ∀ (i j : Nat) (x y : MapEntry), ents[i]? = some x → ents[j]? = some y → x.born = y.born → i = j
 clk : ∀ (i : Nat) (x : MapEntry), ents[i]? = some x → x.born < clock
 shp : ∀ (i : Nat) (e : List D) (x : MapEntry), es[i]? = some e → ents[i]? = some x → ∃ s ds, e = .str s :: ds ∧ ((a = true ∧ ∃ cs, x.val = .agg cs ∧ cs.size = ds.length) ∨ (a = false ∧ ∃ d, ds = [d]))
inductive RepD (w : World) (S : Nat → Prop) : D → Value → Prop
 | int (k : IntKind) (n : Int) : RepD w S (.int k n) (.int k n)
 | bool (b : Bool) : RepD w S (.bool b) (.bool b)
 | str (s : ByteArray) : RepD w S (.str s) (.string s)
 | nil : RepD w S (.list []) (.slice none 0 0)
 | list (es : List (List D)) (a : Addr) (sz cap : Nat) (c : Nat → Nat → Value) (hb : es ≠ [] → S a.block) (hcap : es.length ≤ cap)
   (hsz : ∀ e, e ∈ es → e.length = sz)
   (hc : ∀ (i j : Nat) (e : List D) (x : D), es[i]? = some e → e[j]? = some x → w.cell? (a.add (i * sz + j)) = some (c i j))
   (hr : ∀ (i j : Nat) (e : List D) (x : D), es[i]? = some e → e[j]? = some x → RepD w S x (c i j)) :
   RepD w S (.list es) (.slice (some a) es.length cap)
 | mnil (a : Bool) : RepD w S (.map a []) (.map none)
 | map (a : Bool) (es : List (List D)) (r : Nat) (ents : Array MapEntry) (clock : Nat) (hb : S r) (hh : w.heap[r]? = some (.map ents clock)) (hs : MSh a es ents clock)
   (hr : ∀ (i j : Nat) (e : List D) (x : D), es[i]? = some e → e[j]? = some x → RepD w S x (cOf a ents i j)) : RepD w S (.map a es) (.map (some r))
theorem block_add (a : Addr) (n : Nat) : (a.add n).block = a.block := by unfold Addr.add; split <;> rfl
theorem add_add (a : Addr) (i j : Nat) : (a.add i).add j = a.add (i + j) := by
 unfold Addr.add
 grind
theorem RepD.one {w : World} {S : Nat → Prop} {x : D} {v : Value} (h : RepD w S x v) : v.oneCell' = true := by
 cases h <;> rfl
theorem RepD.mono {w w' : World} {S S' : Nat → Prop} {x : D} {v : Value} (h : RepD w S x v) (hS : ∀ b, S b → S' b) (hb : ∀ b, S b → w'.heap[b]? = w.heap[b]?) : RepD w' S' x v := by
 induction h with
 | int k n => exact .int k n
 | bool b => exact .bool b
 | str s => exact .str s
 | nil => exact .nil
 | list es a sz cap c hb' hcap hsz hc hr ih =>
  refine .list es a sz cap c (fun h => hS _ (hb' h)) hcap hsz (fun i j e x hi hj => ?_) (fun i j e x hi hj => ih i j e x hi hj)
  exact (World.cell?_of_block (a := a.add (i * sz + j)) (by rw [block_add]; exact hb _ (hb' (by rintro rfl; simp at hi)))).trans (hc i j e x hi hj)
 | mnil a => exact .mnil a
 | map a es r ents clock hb' hh hs hr ih => exact .map a es r ents clock (hS _ hb') ((hb _ hb').trans hh) hs (fun i j e x hi hj => ih i j e x hi hj)
def VR (w : World) (S : Nat → Prop) (a : Bool) (ds : List D) (v : Value) : Prop :=
 (a = true ∧ ∃ cs, v = .agg cs ∧ cs.size = ds.length ∧ ∀ (j : Nat) (d : D) (u : Value), ds[j]? = some d → cs[j]? = some u → RepD w S d u) ∨ (a = false ∧ ∃ d, ds = [d] ∧ RepD w S d v)
inductive RepA (w : World) (S : Nat → Prop) (H : Hp) (m : Mu) (l : Nat) : AV → Value → Prop
 | top (v : Value) : RepA w S H m l .top v
 | d (x : D) (v : Value) (h : RepD w S x v) : RepA w S H m l (.d x) v
 | e0 (a : Option Addr) : RepA w S H m l .e0 (.slice a 0 0)
 | p (v : Value) (h : v.oneCell' = true) : RepA w S H m l (.p v) v
 | refL (k : Key) (off n : Nat) (a : Option Addr) (hk : k.1 ≤ l) (hl : (H k).live = true) (hn : off + n ≤ (m k).cap)
   (ha : off < (m k).cap → a = some ⟨(m k).b, (m k).o + off * (H k).sz, none⟩) : RepA w S H m l (.ref k (H k).g off n) (.slice a n ((m k).cap - off))
 | refD (k : Key) (g off n : Nat) (v : Value) (hk : k.1 ≤ l) (hg : g ≤ (H k).g) (hd : g = (H k).g → (H k).live = false) (h1 : v.oneCell' = true) : RepA w S H m l (.ref k g off n) v
 | ptrL (k : Key) (off : Nat) (hk : k.1 ≤ l) (hl : (H k).live = true) : RepA w S H m l (.ptr k (H k).g off) (.pointer (some ⟨(m k).b, (m k).o + off, none⟩))
 | ptrD (k : Key) (g off : Nat) (v : Value) (hk : k.1 ≤ l) (hg : g ≤ (H k).g) (hd : g = (H k).g → (H k).live = false) (h1 : v.oneCell' = true) : RepA w S H m l (.ptr k g off) v
 | mpL (k : Key) (hk : k.1 ≤ l) (hl : (H k).live = true) : RepA w S H m l (.mp k (H k).g) (.map (some (m k).b))
 | mpD (k : Key) (g : Nat) (v : Value) (hk : k.1 ≤ l) (hg : g ≤ (H k).g) (hd : g = (H k).g → (H k).live = false) (h1 : v.oneCell' = true) : RepA w S H m l (.mp k g) v
 | iptr (cs : List D) (off : Nat) (a : Addr) (c : Nat → Value) (hb : S a.block) (hc : ∀ (j : Nat) (x : D), cs[j]? = some x → w.cell? (a.add j) = some (c j))
   (hr : ∀ (j : Nat) (x : D), cs[j]? = some x → RepD w S x (c j)) : RepA w S H m l (.iptr cs off) (.pointer (some (a.add off)))
 | ifc (t : TypeId) (ds : List D) (a : Bool) (v : Value) (h : VR w S a ds v) : RepA w S H m l (.ifc t ds a) (.iface t v)
 | fn (f : Fn) (xs ys : List AV) (vs us : Array Value) (hx : xs.length = vs.size) (hy : ys.length = us.size)
   (h1 : ∀ (i : Nat) (x : AV) (v : Value), xs[i]? = some x → vs[i]? = some v → RepA w S H m l x v)
   (h2 : ∀ (i : Nat) (x : AV) (v : Value), ys[i]? = some x → us[i]? = some v → RepA w S H m l x v) : RepA w S H m l (.fn f xs ys) (.func f vs us)
 | agg (xs : List AV) (vs : Array Value) (hx : xs.length = vs.size) (h1 : ∀ (i : Nat) (v : Value), vs[i]? = some v → v.oneCell' = true)
   (h : ∀ (i : Nat) (x : AV) (v : Value), xs[i]? = some x → vs[i]? = some v → RepA w S H m l x v) : RepA w S H m l (.agg xs) (.agg vs)
 | tup (xs : List AV) (vs : Array Value) (hx : xs.length = vs.size)
   (h : ∀ (i : Nat) (x : AV) (v : Value), xs[i]? = some x → vs[i]? = some v → RepA w S H m l x v) : RepA w S H m l (.tup xs) (.tuple vs)
def ZHC (w : World) (S : Nat → Prop) (a : Bool) (e : List D) (x : MapEntry) : Prop := ∃ s ds, e = .str s :: ds ∧ x.key = .string s ∧ VR w S a ds x.val
structure MEnt (w : World) (S : Nat → Prop) (a : Bool) (es : List (List D)) (ents : Array MapEntry) (clock : Nat) : Prop where
 n : ents.size = es.length
 born : ∀ (i j : Nat) (x y : MapEntry), ents[i]? = some x → ents[j]? = some y → x.born = y.born → i = j
 clk : ∀ (i : Nat) (x : MapEntry), ents[i]? = some x → x.born < clock
 e : ∀ (i : Nat) (e : List D) (x : MapEntry), es[i]? = some e → ents[i]? = some x → ZHC w S a e x
def ZLZ (w : World) (S : Nat → Prop) (b : Nat) (a : Bool) (es : List (List D)) : Prop := ∃ ents clock, w.heap[b]? = some (.map ents clock) ∧ MEnt w S a es ents clock
theorem VR.mono {w w' : World} {S S' : Nat → Prop} {a : Bool} {ds : List D} {v : Value} (h : VR w S a ds v) (hS : ∀ b, S b → S' b) (hb : ∀ b, S b → w'.heap[b]? = w.heap[b]?) : VR w' S' a ds v := by
 rcases h with ⟨h1, cs, h2, h3, h4⟩ | ⟨h1, d, h2, h3⟩
 ·exact .inl ⟨h1, cs, h2, h3, fun j d u hd hu => (h4 j d u hd hu).mono hS hb⟩
 ·exact .inr ⟨h1, d, h2, h3.mono hS hb⟩
theorem MEnt.mono {w w' : World} {S S' : Nat → Prop} {a : Bool} {es : List (List D)} {ents : Array MapEntry} {clock : Nat} (h : MEnt w S a es ents clock) (hS : ∀ b, S b → S' b) (hb : ∀ b, S b → w'.heap[b]? = w.heap[b]?) : MEnt w' S' a es ents clock :=
 ⟨h.n, h.born, h.clk, fun i e x hi hx => by obtain ⟨s, ds, h1, h2, h3⟩ := h.e i e x hi hx; exact ⟨s, ds, h1, h2, h3.mono hS hb⟩⟩
theorem RepD.ofM {w : World} {S : Nat → Prop} {r : Nat} {a : Bool} {es : List (List D)} {ents : Array MapEntry} {clock : Nat} (hb : S r) (hh : w.heap[r]? = some (.map ents clock)) (h : MEnt w S a es ents clock) : RepD w S (.map a es) (.map (some r)) := by
 have key : ∀ (i : Nat) (e : List D), es[i]? = some e → ∃ x, ents[i]? = some x ∧ ZHC w S a e x := fun i e hi => by
  have hlt : i < ents.size := by rw [h.n]; exact (List.getElem?_eq_some_iff.1 hi).1
  exact ⟨_, Yf hlt, h.e i e _ hi (Yf hlt)⟩
 refine .map a es r ents clock hb hh ⟨h.n, h.born, h.clk, fun i e x hi hx => ?_⟩ (fun i j e d hi hj => ?_)
 ·obtain ⟨s, ds, h1, h2, h3⟩ := h.e i e x hi hx
  refine ⟨s, ds, h1, ?_⟩
  rcases h3 with ⟨q1, cs, q2, q3, _⟩ | ⟨q1, d, q2, _⟩
  ·grind
  grind
 ·obtain ⟨x, hx, s, ds, rfl, h2, h3⟩ := key i e hi
  cases j with
  | zero => cases hj; simp only [cOf, hx, h2]; exact .str s
  | succ j =>
   rw [YY] at hj
   simp only [cOf, hx]
   rcases h3 with ⟨q1, cs, q2, q3, q4⟩ | ⟨q1, d', q2, q3⟩
   ·have hlt : j < cs.size := by rw [q3]; exact (List.getElem?_eq_some_iff.1 hj).1
    have := q4 j d _ hj (Yf hlt)
    rw [if_pos q1, q2]
    simpa [Value.cells, Ym, hlt] using this
   grind
theorem RepD.toM {w : World} {S : Nat → Prop} {r : Nat} {a : Bool} {es : List (List D)} (h : RepD w S (.map a es) (.map (some r))) : S r ∧ ∃ ents clock, w.heap[r]? = some (.map ents clock) ∧ MEnt w S a es ents clock := by
 cases h with
 | map _ _ _ ents clock hb hh hs hr =>
  refine ⟨hb, ents, clock, hh, hs.n, hs.born, hs.clk, fun i e x hi hx => ?_⟩
  obtain ⟨s, ds, h1, h2⟩ := hs.shp i e x hi hx
  subst h1
  refine ⟨s, ds, rfl, ?_, ?_⟩
  ·have := hr i 0 _ (.str s) hi rfl
   simp only [cOf, hx] at this
   generalize x.key = v at this ⊢
   cases this; rfl
  ·rcases h2 with ⟨q1, cs, q2, q3⟩ | ⟨q1, d, q2⟩
   ·refine .inl ⟨q1, cs, q2, q3, fun j d u hd hu => ?_⟩
    have := hr i (j + 1) _ d hi (by simpa using hd)
    simp only [cOf, hx, if_pos q1, q2, Value.cells, Ym, hu, YV] at this
    exact this
   ·subst q2
    refine .inr ⟨q1, d, rfl, ?_⟩
    have := hr i 1 _ d hi rfl
    simp only [cOf, hx] at this
    grind
def ZKu (w : World) (S : Nat → Prop) (b : Nat) (a : Bool) (rest : List (List D)) (cur : Option (List D)) : Prop :=
 (rest = [] ∧ cur = none ∧ ∃ x y z, w.heap[b]? = some (.mapIter none x y z)) ∨
 ∃ r ents clock es seen, w.heap[b]? = some (.mapIter (some r) clock seen clock) ∧ S r ∧ w.heap[r]? = some (.map ents clock) ∧ MEnt w S a es ents clock ∧
  rest = ((ents.toList.zip es).filter (fun p => !seen.contains p.1.born)).map (·.2) ∧
  ∀ e, cur = some e → ∃ (i : Nat) (x : MapEntry), es[i]? = some e ∧ ents[i]? = some x ∧ seen.back? = some x.born
def ZuA (w : World) (S : Nat → Prop) (b : Nat) : EK → Prop
 | .t _ => True
 | .m a es => ZLZ w S b a es
 | .i a es cur => ZKu w S b a es cur
 | .s x p => w.heap[b]? = some (.stringIter x p)
structure MOk (l : Nat) (H : Hp) (m : Mu) (S : Nat → Prop) (w : World) : Prop where
 o : ∀ k : Key, k.1 ≤ l → (H k).live = true → ZuA w S (m k).b (H k).e
 c : ∀ k : Key, k.1 ≤ l → (H k).live = true → (H k).e.isO = true → ((m k).cap = 0 ∧ (m k).o = 0) ∧ ¬ S (m k).b
 i : ∀ k k' : Key, k.1 ≤ l → k'.1 ≤ l → (H k).live = true → (H k').live = true → (H k).e.isO = true → (H k').e.isO = true → (m k).b = (m k').b → k = k'
def Zeu : Obj → Bool
 | .cells _ _ _ => true
 | _ => false
theorem ZuA.mono {w w' : World} {S S' : Nat → Prop} {b b' : Nat} {e : EK} (h : ZuA w S b e) (hS : ∀ b, S b → S' b) (hb : ∀ b, S b → w'.heap[b]? = w.heap[b]?) (ho : e.isO = true → w'.heap[b']? = w.heap[b]?) : ZuA w' S' b' e := by
 cases e with
 | t => trivial
 | m a es =>
  obtain ⟨ents, clock, h1, h2⟩ := h
  exact ⟨ents, clock, (ho rfl).trans h1, h2.mono hS hb⟩
 | i a rest cur =>
  rcases h with ⟨h1, h2, x, y, z, h3⟩ | ⟨r, ents, clock, es, seen, h1, h2, h3, h4, h6, h7⟩
  ·exact .inl ⟨h1, h2, x, y, z, (ho rfl).trans h3⟩
  ·exact .inr ⟨r, ents, clock, es, seen, (ho rfl).trans h1, hS _ h2, (hb _ h2).trans h3, h4.mono hS hb, h6, h7⟩
 | s x p => exact (ho rfl).trans h
theorem ZuA.at {w : World} {S : Nat → Prop} {b : Nat} {e : EK} (h : ZuA w S b e) (he : e.isO = true) : ∃ o, w.heap[b]? = some o ∧ Zeu o = false := by
 cases e with
 | t => cases he
 | m a es => obtain ⟨ents, clock, h1, _⟩ := h; exact ⟨_, h1, rfl⟩
 | i a rest cur =>
  rcases h with ⟨_, _, x, y, z, h3⟩ | ⟨r, ents, clock, es, seen, h1, _⟩
  ·exact ⟨_, h3, rfl⟩
  ·exact ⟨_, h1, rfl⟩
 | s x p => exact ⟨_, h, rfl⟩
theorem MOk.stepL {l l' : Nat} {H H' : Hp} {m m' : Mu} {S S' : Nat → Prop} {w w' : World} (h : MOk l H m S w) (hH : ∀ k : Key, k.1 ≤ l' → (H' k).live = true → (H' k).e.isO = true → k.1 ≤ l ∧ (H k).live = true ∧ (H' k).e = (H k).e ∧ m' k = m k)
  (hS : ∀ b, S b → S' b) (hS' : ∀ b : Nat, S' b → S b ∨ w.heap.size ≤ b ∨ ∃ o, w.heap[b]? = some o ∧ Zeu o = true) (hb : ∀ b, S b → w'.heap[b]? = w.heap[b]?) (ho : ∀ (b : Nat) (o : Obj), w.heap[b]? = some o → Zeu o = false → w'.heap[b]? = some o) : MOk l' H' m' S' w' := by
 refine ⟨fun k hk hv => ?_, fun k hk hv he => ?_, fun k k' hk hk' hv hv' he he' hm => ?_⟩
 ·cases hO : (H' k).e.isO with
  | false => cases hq : (H' k).e with
   | t => trivial
   | _ => rw [hq] at hO; cases hO
  | true =>
   obtain ⟨a0, a1, a2, a3⟩ := hH k hk hv hO
   rw [a3, a2]
   refine (h.o k a0 a1).mono hS hb fun he => ?_
   obtain ⟨o, b1, b2⟩ := (h.o k a0 a1).at he
   grind
 ·obtain ⟨a0, a1, a2, a3⟩ := hH k hk hv he
  rw [a2] at he
  obtain ⟨b1, b2⟩ := h.c k a0 a1 he
  rw [a3]
  refine ⟨b1, fun hs => ?_⟩
  obtain ⟨o, c1, c2⟩ := (h.o k a0 a1).at he
  grind
 ·obtain ⟨a0, a1, a2, a3⟩ := hH k hk hv he
  obtain ⟨b0, b1, b2, b3⟩ := hH k' hk' hv' he'
  rw [a2] at he; rw [b2] at he'; rw [a3, b3] at hm
  exact h.i k k' a0 b0 a1 b1 he he' hm
theorem MOk.step {l l' : Nat} {H H' : Hp} {m m' : Mu} {S S' : Nat → Prop} {w w' : World} (h : MOk l H m S w) (hl : l' ≤ l) (hH : ∀ k : Key, k.1 ≤ l' → (H' k).live = true → (H' k).e.isO = true → (H k).live = true ∧ (H' k).e = (H k).e ∧ m' k = m k)
  (hS : ∀ b, S b → S' b) (hS' : ∀ b : Nat, S' b → S b ∨ w.heap.size ≤ b ∨ ∃ o, w.heap[b]? = some o ∧ Zeu o = true) (hb : ∀ b, S b → w'.heap[b]? = w.heap[b]?) (ho : ∀ (b : Nat) (o : Obj), w.heap[b]? = some o → Zeu o = false → w'.heap[b]? = some o) : MOk l' H' m' S' w' :=
 h.stepL (fun k hk hv hO => ⟨by omega, hH k hk hv hO⟩) hS hS' hb ho
structure Ok (l : Nat) (H : Hp) (m : Mu) (S : Nat → Prop) (w : World) : Prop where
 sub : ∀ b, S b → b < w.heap.size
 empty : ∀ k : Key, k.1 ≤ l → (H k).live = true → (m k).cap = 0 → (H k).cells = []
 fresh : ∀ k : Key, k.1 ≤ l → (H k).live = true → (m k).cap ≠ 0 → ¬ S (m k).b
 inj : ∀ k k' : Key, k.1 ≤ l → k'.1 ≤ l → (H k).live = true → (H k').live = true → (m k).cap ≠ 0 → (m k').cap ≠ 0 → (m k).b = (m k').b → k = k'
 blk : ∀ k : Key, k.1 ≤ l → (H k).live = true → (m k).cap ≠ 0 → ∃ C : Array Value, w.heap[(m k).b]? = some (.cells C (H k).e.ty (0, 0)) ∧ C.size = (m k).o + (m k).cap * (H k).sz ∧
  (H k).cells.length ≤ (m k).cap * (H k).sz ∧ ∀ (i : Nat) (x : AV) (v : Value), (H k).cells[i]? = some x → C[(m k).o + i]? = some v → v.oneCell' = true ∧ RepA w S H m k.1 x v
 mp : MOk l H m S w
structure Ext (l : Nat) (H : Hp) (m : Mu) (S : Nat → Prop) (w : World) (H' : Hp) (m' : Mu) (S' : Nat → Prop) (w' : World) : Prop where
 s : ∀ b, S b → S' b
 blk : ∀ b, S b → w'.heap[b]? = w.heap[b]?
 g : ∀ k : Key, k.1 ≤ l → (H k).g ≤ (H' k).g
 live : ∀ k : Key, k.1 ≤ l → (H' k).g = (H k).g → (H' k).live = true → (H k).live = true ∧ m' k = m k ∧ (H' k).sz = (H k).sz
 os : w'.os = w.os
 tape : w'.tape = w.tape
 output : w'.output = w.output
 size : w.heap.size ≤ w'.heap.size
section
variable {l l' : Nat} {H H' H'' : Hp} {m m' m'' : Mu} {S S' S'' : Nat → Prop} {w w' w'' : World}
theorem Ext.refl (l : Nat) (H : Hp) (m : Mu) (S : Nat → Prop) (w : World) : Ext l H m S w H m S w :=
 ⟨fun _ h => h, fun _ _ => rfl, fun _ _ => Yd _, fun _ _ _ h => ⟨h, rfl, rfl⟩, rfl, rfl, rfl, Yd _⟩
theorem Ext.trans (h : Ext l H m S w H' m' S' w') (k : Ext l H' m' S' w' H'' m'' S'' w'') : Ext l H m S w H'' m'' S'' w'' where
 s := fun b hb => k.s b (h.s b hb)
 blk := fun b hb => (k.blk b (h.s b hb)).trans (h.blk b hb)
 g := fun q hq => Y9 (h.g q hq) (k.g q hq)
 live := fun q hq hg hl => by
  have h1 := h.g q hq
  have h2 := k.g q hq
  obtain ⟨a, b, c⟩ := k.live q hq (by omega) hl
  obtain ⟨a', b', c'⟩ := h.live q hq (by omega) a
  grind
 os := k.os.trans h.os
 tape := k.tape.trans h.tape
 output := k.output.trans h.output
 size := Y9 h.size k.size
theorem Ext.mono (h : Ext l H m S w H' m' S' w') (hl : l' ≤ l) : Ext l' H m S w H' m' S' w' :=
 ⟨h.s, h.blk, fun k hk => h.g k (by omega), fun k hk => h.live k (by omega), h.os, h.tape, h.output, h.size⟩
theorem RepA.ext {x : AV} {v : Value} (hx : RepA w S H m l' x v) (h : Ext l H m S w H' m' S' w') (hl : l' ≤ l) : RepA w' S' H' m' l' x v := by
 induction hx with
 | top v => exact .top _
 | d x v hd => exact .d _ _ (hd.mono h.s h.blk)
 | e0 a => exact .e0 _
 | p v h1 => exact .p _ h1
 | refL k off n a hk hlv hn ha =>
  have hg := h.g k (by omega)
  by_cases hc : (H' k).g = (H k).g ∧ (H' k).live = true
  ·obtain ⟨_, e1, e2⟩ := h.live k (by omega) hc.1 hc.2
   rw [← hc.1, ← e1]
   exact .refL k off n a hk hc.2 (by rw [e1]; exact hn) (fun ho => by rw [e1, e2]; exact ha (by rw [← e1]; exact ho))
  ·exact .refD k _ off n _ hk hg (fun e => by
    cases hv : (H' k).live with
    | false => rfl
    | true => exact absurd ⟨e.symm, hv⟩ hc) rfl
 | refD k g off n v hk hg hd h1 =>
  have hg' := h.g k (by omega)
  refine .refD k g off n v hk (by omega) (fun e => ?_) h1
  cases hv : (H' k).live with
  | false => rfl
  | true =>
   obtain ⟨e1, _, _⟩ := h.live k (by omega) (by omega) hv
   rw [hd (by omega)] at e1
   cases e1
 | ptrL k off hk hlv =>
  have hg := h.g k (by omega)
  by_cases hc : (H' k).g = (H k).g ∧ (H' k).live = true
  ·obtain ⟨_, e1, _⟩ := h.live k (by omega) hc.1 hc.2
   rw [← hc.1, ← e1]
   exact .ptrL k off hk hc.2
  ·exact .ptrD k _ off _ hk hg (fun e => by
    cases hv : (H' k).live with
    | false => rfl
    | true => exact absurd ⟨e.symm, hv⟩ hc) rfl
 | ptrD k g off v hk hg hd h1 =>
  have hg' := h.g k (by omega)
  refine .ptrD k g off v hk (by omega) (fun e => ?_) h1
  cases hv : (H' k).live with
  | false => rfl
  | true =>
   obtain ⟨e1, _, _⟩ := h.live k (by omega) (by omega) hv
   rw [hd (by omega)] at e1
   cases e1
 | mpL k hk hlv =>
  have hg := h.g k (by omega)
  by_cases hc : (H' k).g = (H k).g ∧ (H' k).live = true
  ·obtain ⟨_, e1, _⟩ := h.live k (by omega) hc.1 hc.2
   rw [← hc.1, ← e1]
   exact .mpL k hk hc.2
  ·exact .mpD k _ _ hk hg (fun e => by
    cases hv : (H' k).live with
    | false => rfl
    | true => exact absurd ⟨e.symm, hv⟩ hc) rfl
 | mpD k g v hk hg hd h1 =>
  have hg' := h.g k (by omega)
  refine .mpD k g v hk (by omega) (fun e => ?_) h1
  cases hv : (H' k).live with
  | false => rfl
  | true =>
   obtain ⟨e1, _, _⟩ := h.live k (by omega) (by omega) hv
   rw [hd (by omega)] at e1
   cases e1
 | iptr cs off a c hb hc hr =>
  exact .iptr cs off a c (h.s _ hb) (fun j x hj => (World.cell?_of_block (a := a.add j) (by rw [block_add]; exact h.blk _ hb)).trans (hc j x hj)) (fun j x hj => (hr j x hj).mono h.s h.blk)
 | ifc t ds a v hv => exact .ifc t ds a v (hv.mono h.s h.blk)
 | fn f xs ys vs us hx hy h1 h2 ih1 ih2 => exact .fn f xs ys vs us hx hy (fun i x v a b => ih1 i x v a b) (fun i x v a b => ih2 i x v a b)
 | agg xs vs hx h1 h2 ih => exact .agg xs vs hx h1 (fun i x v a b => ih i x v a b)
 | tup xs vs hx h2 ih => exact .tup xs vs hx (fun i x v a b => ih i x v a b)
theorem RepA.lvl {x : AV} {v : Value} (hx : RepA w S H m l x v) (hl : l ≤ l') : RepA w S H m l' x v := by
 induction hx with
 | top v => exact .top _
 | d x v hd => exact .d _ _ hd
 | e0 a => exact .e0 _
 | p v h1 => exact .p _ h1
 | refL k off n a hk hlv hn ha => exact .refL k off n a (by omega) hlv hn ha
 | refD k g off n v hk hg hd h1 => exact .refD k g off n v (by omega) hg hd h1
 | ptrL k off hk hlv => exact .ptrL k off (by omega) hlv
 | ptrD k g off v hk hg hd h1 => exact .ptrD k g off v (by omega) hg hd h1
 | mpL k hk hl => exact .mpL k (by omega) hl
 | mpD k g v hk hg hd h1 => exact .mpD k g v (by omega) hg hd h1
 | iptr cs off a c hb hc hr => exact .iptr cs off a c hb hc hr
 | ifc t ds a v hv => exact .ifc t ds a v hv
 | fn f xs ys vs us hx hy h1 h2 ih1 ih2 => exact .fn f xs ys vs us hx hy (fun i x v a b => ih1 i x v a b) (fun i x v a b => ih2 i x v a b)
 | agg xs vs hx h1 h2 ih => exact .agg xs vs hx h1 (fun i x v a b => ih i x v a b)
 | tup xs vs hx h2 ih => exact .tup xs vs hx (fun i x v a b => ih i x v a b)
theorem RepA.agree {x : AV} {v : Value} (hx : RepA w S H m l x v) (hH : ∀ k : Key, k.1 ≤ l → H' k = H k) (hm : ∀ k : Key, k.1 ≤ l → m' k = m k) : RepA w S H' m' l x v := by
 induction hx with
 | top v => exact .top _
 | d x v hd => exact .d _ _ hd
 | e0 a => exact .e0 _
 | p v h1 => exact .p _ h1
 | refL k off n a hk hlv hn ha => rw [← hH k hk, ← hm k hk] at *; exact .refL k off n a hk hlv hn ha
 | refD k g off n v hk hg hd h1 => rw [← hH k hk] at *; exact .refD k g off n v hk hg hd h1
 | ptrL k off hk hlv => rw [← hH k hk, ← hm k hk] at *; exact .ptrL k off hk hlv
 | ptrD k g off v hk hg hd h1 => rw [← hH k hk] at *; exact .ptrD k g off v hk hg hd h1
 | mpL k hk hl => rw [← hH k hk, ← hm k hk] at *; exact .mpL k hk hl
 | mpD k g v hk hg hd h1 => rw [← hH k hk] at *; exact .mpD k g v hk hg hd h1
 | iptr cs off a c hb hc hr => exact .iptr cs off a c hb hc hr
 | ifc t ds a v hv => exact .ifc t ds a v hv
 | fn f xs ys vs us hx hy h1 h2 ih1 ih2 => exact .fn f xs ys vs us hx hy (fun i x v a b => ih1 i x v a b) (fun i x v a b => ih2 i x v a b)
 | agg xs vs hx h1 h2 ih => exact .agg xs vs hx h1 (fun i x v a b => ih i x v a b)
 | tup xs vs hx h2 ih => exact .tup xs vs hx (fun i x v a b => ih i x v a b)
def AV.one : AV → Bool
 | .top | .agg _ | .tup _ => false
 | _ => true
theorem RepA.e0_d {v : Value} (hx : RepA w S H m l .e0 v) : RepA w S H m l (.d (.list [])) v := by
 cases hx with
 | e0 a =>
  cases a with
  | none => exact .d _ _ .nil
  | some a => exact .d _ _ (.list [] a 0 0 (fun _ _ => .bool true) (fun h => absurd rfl h) (Yd _) (fun _ h => by cases h) (fun i j e x h => by simp at h) (fun i j e x h => by simp at h))
end
end Go.Eng
namespace Go.Eng
set_option linter.all false
open Go Go.RowKit
structure St where
 s : Nat → AV
 H : Hp
structure Base where
 H : Hp
 m : Mu
 S : Nat → Prop
 w : World
def upd (s : Nat → AV) (i : Nat) (x : AV) : Nat → AV := fun j => if j = i then x else s j
def updH (H : Hp) (k : Key) (b : Blk) : Hp := fun j => if j = k then b else H j
def ZcK (m : Mu) (k : Key) (b : MB) : Mu := fun j => if j = k then b else m j
theorem Zab (H : Hp) (k : Key) (b : Blk) : updH H k b k = b := by simp [updH]
theorem Zac (H : Hp) {k j : Key} (b : Blk) (h : j ≠ k) : updH H k b j = H j := by simp [updH, h]
theorem Zae (m : Mu) (k : Key) (b : MB) : ZcK m k b k = b := by simp [ZcK]
theorem Zal (m : Mu) {k j : Key} (b : MB) (h : j ≠ k) : ZcK m k b j = m j := by simp [ZcK, h]
theorem ZbC {α : Type} {l : Array α} {i : Nat} {x : α} (h : l[i]? = some x) : i < l.size := (YD.1 h).1
theorem MOk.upd {l l' : Nat} {H : Hp} {m m' : Mu} {S S' : Nat → Prop} {w w' : World} (h : MOk l H m S w) (hl : l' ≤ l) (k : Key) (b : Blk) (hb : b.e.isO = false) (hm : ∀ q, q ≠ k → m' q = m q)
  (hS : ∀ b, S b → S' b) (hS' : ∀ b : Nat, S' b → S b ∨ w.heap.size ≤ b ∨ ∃ o, w.heap[b]? = some o ∧ Zeu o = true) (hs : ∀ b, S b → w'.heap[b]? = w.heap[b]?) (ho : ∀ (b : Nat) (o : Obj), w.heap[b]? = some o → Zeu o = false → w'.heap[b]? = some o) : MOk l' (updH H k b) m' S' w' :=
 h.step hl (fun q _ hv hO => by
  by_cases e : q = k
  ·subst e; rw [Zab, hb] at hO; cases hO
  ·rw [Zac _ _ e] at hv ⊢; exact ⟨hv, rfl, hm q e⟩) hS hS' hs ho
def Zdf (l : Nat) (s : Nat → AV) (H : Hp) (m : Mu) (S : Nat → Prop) (a : Act) (w : World) : Prop := ∀ i, RepA w S H m l (s i) (a.tmps.getD i undef)
def R (l n : Nat) (B : Base) (σ : St) (a : Act) (w : World) : Prop :=
 ∃ m S, Ok (l + 1) σ.H m S w ∧ a.tmps.size = n ∧ a.defers = [] ∧ Zdf (l + 1) σ.s σ.H m S a w ∧ Ext l B.H B.m B.S B.w σ.H m S w
def cv : Value → AV
 | .int k n => .d (.int k n)
 | .bool b => .d (.bool b)
 | .string s => .d (.str s)
 | .slice none 0 0 => .e0
 | .agg _ => .top
 | .tuple _ => .top
 | v => .p v
def ev (s : Nat → AV) : Operand → AV
 | .tmp t => s t
 | .const v => cv v
 | .global g => .p (.pointer (some ⟨g, 0, none⟩))
 | .func f => .fn (.func f) [] []
section
variable {l l' n : Nat} {H H' : Hp} {m m' : Mu} {S S' : Nat → Prop} {w w' : World} {s : Nat → AV} {a : Act}
theorem ZqK (v : Value) : RepA w S H m l (cv v) v := by
 unfold cv
 split <;> first
  | exact .d _ _ (.int _ _)
  | exact .d _ _ (.bool _)
  | exact .d _ _ (.str _)
  | exact .e0 _
  | exact .top _
  | skip
 rename_i h5 h6
 refine .p _ ?_
 cases v <;> first | rfl | (exact (h5 _ rfl).elim) | (exact (h6 _ rfl).elim)
theorem Zbi (h : Zdf l s H m S a w) (x : Operand) : RepA w S H m l (ev s x) (a.eval x) := by
 cases x with
 | tmp t => exact h t
 | const v => exact ZqK v
 | global g => exact .p _ rfl
 | func f => exact .fn _ _ _ _ _ rfl rfl (fun i x v h => by simp at h) (fun i x v h => by simp at h)
theorem ZsI (a : Act) (d i : Nat) (v : Value) (hd : d < a.tmps.size) : (a.put (some d) v).tmps.getD i undef = if i = d then v else a.tmps.getD i undef := by
 simp only [Act.put, Ym, Y5]
 grind
theorem ZtZ (a : Act) (d : Option Nat) (v : Value) : (a.put d v).tmps.size = a.tmps.size := by cases d <;> simp [Act.put]
theorem ZlG (a : Act) (d : Option Nat) (v : Value) : (a.put d v).defers = a.defers := by cases d <;> simp [Act.put]
theorem Zdf.put (h : Zdf l s H m S a w) {d : Nat} (hd : d < a.tmps.size) {x : AV} {v : Value} (hx : RepA w S H m l x v) : Zdf l (upd s d x) H m S (a.put (some d) v) w := by
 intro i
 rw [ZsI a d i v hd]
 unfold upd
 by_cases e : i = d
 ·grind
 ·simp only [e, if_false]; exact h i
theorem Zdf.ext (h : Zdf l s H m S a w) (he : Ext l H m S w H' m' S' w') : Zdf l s H' m' S' a w' := fun i => (h i).ext he (Yd _)
theorem Ok.alloc (h : Ok l H m S w) (k : Key) (hk : k.1 ≤ l) (e : TypeId) (sz cap : Nat) (cells : List AV) (C : Array Value) (hcap : cap ≠ 0) (hC : C.size = cap * sz) (hlen : cells.length ≤ C.size)
  (hc : ∀ (i : Nat) (x : AV) (v : Value), cells[i]? = some x → C[i]? = some v → v.oneCell' = true ∧ RepA w S H m k.1 x v) (w' : World) (hw : w'.heap = w.heap.push (.cells C e (0, 0))) (h1 : w'.os = w.os) (h2 : w'.tape = w.tape) (h3 : w'.output = w.output) :
  Ok l (updH H k ⟨(H k).g + 1, true, e, sz, cells⟩) (ZcK m k ⟨w.heap.size, 0, cap⟩) S w' ∧ Ext l H m S w (updH H k ⟨(H k).g + 1, true, e, sz, cells⟩) (ZcK m k ⟨w.heap.size, 0, cap⟩) S w' := by
 have hold : ∀ b, b < w.heap.size → w'.heap[b]? = w.heap[b]? := fun b hb => by rw [hw, Yac, if_neg (by omega)]
 have hext : Ext l H m S w (updH H k ⟨(H k).g + 1, true, e, sz, cells⟩) (ZcK m k ⟨w.heap.size, 0, cap⟩) S w' := by
  refine ⟨fun _ h => h, fun b hb => hold b (h.sub b hb), fun q hq => ?_, fun q hq hg hl => ?_, h1, h2, h3, by rw [hw]; simp⟩
  ·by_cases e : q = k
   ·subst e; rw [Zab]; simp
   ·rw [Zac _ _ e]; exact Yd _
  ·by_cases e : q = k
   ·subst e; rw [Zab] at hg; simp at hg
   ·rw [Zac _ _ e] at hl ⊢; rw [Zal _ _ e]; exact ⟨hl, rfl, rfl⟩
 have hlt : ∀ q : Key, q.1 ≤ l → (H q).live = true → (m q).cap ≠ 0 → (m q).b < w.heap.size := fun q hq hl hc' => by
  obtain ⟨C, hb, _⟩ := h.blk q hq hl hc'
  grind
 refine ⟨⟨fun b hb => ?_, fun q hq hl hz => ?_, fun q hq hl hz => ?_, fun q q' hq hq' hl hl' hz hz' heq => ?_, fun q hq hl hz => ?_,
  h.mp.upd (Yd _) k _ rfl (fun q e => Zal _ _ e) (fun _ h => h) (fun _ h => .inl h) (fun b hb => hold b (h.sub b hb)) (fun b o ho _ => (hold b (ZbC ho)).trans ho)⟩, hext⟩
 ·have := h.sub b hb; rw [hw]; simp; omega
 ·by_cases e : q = k
  ·subst e; rw [Zae] at hz; exact absurd hz hcap
  ·rw [Zac _ _ e] at hl ⊢; rw [Zal _ _ e] at hz; exact h.empty q hq hl hz
 ·by_cases e : q = k
  ·subst e; rw [Zae]; intro hs; have := h.sub _ hs; simp at this
  ·rw [Zac _ _ e] at hl; rw [Zal _ _ e] at hz ⊢; exact h.fresh q hq hl hz
 ·by_cases e : q = k <;> by_cases e' : q' = k
  ·grind
  ·subst e
   rw [Zae, Zal _ _ e'] at heq
   rw [Zac _ _ e'] at hl'
   rw [Zal _ _ e'] at hz'
   grind
  ·subst e'
   rw [Zae, Zal _ _ e] at heq
   rw [Zac _ _ e] at hl
   rw [Zal _ _ e] at hz
   grind
  ·rw [Zal _ _ e, Zal _ _ e'] at heq
   rw [Zac _ _ e] at hl
   rw [Zac _ _ e'] at hl'
   rw [Zal _ _ e] at hz
   rw [Zal _ _ e'] at hz'
   exact h.inj q q' hq hq' hl hl' hz hz' heq
 ·by_cases e : q = k
  ·subst e
   rw [Zab, Zae]
   refine ⟨C, by rw [hw]; simp, by simp [hC], by rw [← hC]; exact hlen, fun i x v hi hv => ?_⟩
   rw [Yz] at hv
   obtain ⟨g1, g2⟩ := hc i x v hi hv
   exact ⟨g1, g2.ext hext hk⟩
  ·rw [Zac _ _ e] at hl ⊢
   rw [Zal _ _ e] at hz ⊢
   obtain ⟨C, hb, hs, hle, hx⟩ := h.blk q hq hl hz
   refine ⟨C, by rw [hold _ (hlt q hq hl hz)]; exact hb, hs, hle, fun i x v hi hv => ?_⟩
   obtain ⟨g1, g2⟩ := hx i x v hi hv
   exact ⟨g1, g2.ext hext hq⟩
theorem Ok.write (h : Ok l H m S w) (k : Key) (hk : k.1 ≤ l) (hl : (H k).live = true) (hcap : (m k).cap ≠ 0) (cells : List AV) (C' : Array Value)
  (hC : C'.size = (m k).o + (m k).cap * (H k).sz) (hlen : cells.length ≤ (m k).cap * (H k).sz) (w' : World)
  (hw : ∀ b, w'.heap[b]? = if b = (m k).b then some (.cells C' (H k).e.ty (0, 0)) else w.heap[b]?) (hsz : w'.heap.size = w.heap.size) (h1 : w'.os = w.os) (h2 : w'.tape = w.tape) (h3 : w'.output = w.output)
  (hc : ∀ (i : Nat) (x : AV) (v : Value), cells[i]? = some x → C'[(m k).o + i]? = some v → v.oneCell' = true ∧ RepA w S H m k.1 x v) :
  Ok l (updH H k { H k with cells := cells }) m S w' ∧ Ext l H m S w (updH H k { H k with cells := cells }) m S w' := by
 have hext : Ext l H m S w (updH H k { H k with cells := cells }) m S w' := by
  refine ⟨fun _ h => h, fun b hb => ?_, fun q hq => ?_, fun q hq hg hl' => ?_, h1, h2, h3, by omega⟩
  ·rw [hw, if_neg]
   intro e
   exact h.fresh k hk hl hcap (e ▸ hb)
  ·by_cases e : q = k
   ·subst e; rw [Zab]; exact Yd _
   ·rw [Zac _ _ e]; exact Yd _
  ·by_cases e : q = k
   ·subst e; rw [Zab] at hl' ⊢; exact ⟨hl', rfl, rfl⟩
   ·rw [Zac _ _ e] at hl' ⊢; exact ⟨hl', rfl, rfl⟩
 refine ⟨⟨fun b hb => ?_, fun q hq hl' hz => ?_, fun q hq hl' hz => ?_, fun q q' hq hq' hl' hl'' hz hz' heq => ?_, fun q hq hl' hz => ?_,
  h.mp.step (Yd _) (fun q hq hv hO => by
   by_cases e : q = k
   ·subst e; rw [Zab] at hv ⊢; exact ⟨hv, rfl, rfl⟩
   ·rw [Zac _ _ e] at hv ⊢; exact ⟨hv, rfl, rfl⟩) (fun _ h => h) (fun _ h => .inl h) hext.blk (fun b o ho hc' => by
   rw [hw]
   split
   ·rename_i e
    subst e
    obtain ⟨C, hb, _⟩ := h.blk k hk hl hcap
    rw [ho] at hb; cases hb; cases hc'
   ·exact ho)⟩, hext⟩
 ·rw [hsz]; exact h.sub b hb
 ·by_cases e : q = k
  ·subst e; exact absurd hz hcap
  ·rw [Zac _ _ e] at hl' ⊢; exact h.empty q hq hl' hz
 ·by_cases e : q = k
  ·subst e; exact h.fresh q hq hl hz
  ·rw [Zac _ _ e] at hl'; exact h.fresh q hq hl' hz
 ·have f : ∀ q : Key, (updH H k { H k with cells := cells } q).live = (H q).live := fun q => by
   by_cases e : q = k
   ·subst e; rw [Zab]
   ·rw [Zac _ _ e]
  rw [f] at hl' hl''
  exact h.inj q q' hq hq' hl' hl'' hz hz' heq
 ·by_cases e : q = k
  ·subst e
   rw [Zab]
   refine ⟨C', by rw [hw, if_pos rfl], hC, hlen, fun i x v hi hv => ?_⟩
   obtain ⟨g1, g2⟩ := hc i x v hi hv
   exact ⟨g1, g2.ext hext hk⟩
  ·rw [Zac _ _ e] at hl' ⊢
   obtain ⟨C, hb, hs, hle, hx⟩ := h.blk q hq hl' hz
   have hne : (m q).b ≠ (m k).b := fun e' => e (h.inj q k hq hk hl' hl hz hcap e')
   refine ⟨C, by rw [hw, if_neg hne]; exact hb, hs, hle, fun i x v hi hv => ?_⟩
   obtain ⟨g1, g2⟩ := hx i x v hi hv
   exact ⟨g1, g2.ext hext hq⟩
theorem Ok.drew (h : Ok l H m S w) (hw : w'.heap = w.heap) (h1 : w'.os = w.os) (h2 : w'.tape = w.tape) (h3 : w'.output = w.output) : Ok l H m S w' ∧ Ext l H m S w H m S w' := by
 have hext : Ext l H m S w H m S w' := ⟨fun _ h => h, fun b _ => by rw [hw], fun _ _ => Yd _, fun _ _ _ h => ⟨h, rfl, rfl⟩, h1, h2, h3, by rw [hw]; exact Yd _⟩
 refine ⟨⟨fun b hb => by rw [hw]; exact h.sub b hb, h.empty, h.fresh, h.inj, fun q hq hl hz => ?_, h.mp.step (Yd _) (fun _ _ hv _ => ⟨hv, rfl, rfl⟩) (fun _ h => h) (fun _ h => .inl h) hext.blk (fun b o ho _ => by rw [hw]; exact ho)⟩, hext⟩
 obtain ⟨C, hb, hs, hle, hx⟩ := h.blk q hq hl hz
 exact ⟨C, by rw [hw]; exact hb, hs, hle, fun i x v hi hv => ⟨(hx i x v hi hv).1, (hx i x v hi hv).2.ext hext hq⟩⟩
theorem Ok.kill (h : Ok l H m S w) (k : Key) (hk : k.1 ≤ l) (hl : (H k).live = true) :
  Ok l (updH H k { H k with live := false }) m (fun b => S b ∨ (b = (m k).b ∧ (m k).cap ≠ 0)) w ∧ Ext l H m S w (updH H k { H k with live := false }) m (fun b => S b ∨ (b = (m k).b ∧ (m k).cap ≠ 0)) w := by
 have hext : Ext l H m S w (updH H k { H k with live := false }) m (fun b => S b ∨ (b = (m k).b ∧ (m k).cap ≠ 0)) w := by
  refine ⟨fun _ h => .inl h, fun _ _ => rfl, fun q hq => ?_, fun q hq hg hl' => ?_, rfl, rfl, rfl, Yd _⟩
  ·by_cases e : q = k
   ·subst e; rw [Zab]; exact Yd _
   ·rw [Zac _ _ e]; exact Yd _
  ·by_cases e : q = k
   ·subst e; rw [Zab] at hl'; cases hl'
   ·rw [Zac _ _ e] at hl' ⊢; exact ⟨hl', rfl, rfl⟩
 have hne : ∀ q : Key, (updH H k { H k with live := false } q).live = true → q ≠ k ∧ (H q).live = true ∧ updH H k { H k with live := false } q = H q := fun q hq => by
  by_cases e : q = k
  ·subst e; rw [Zab] at hq; cases hq
  ·rw [Zac _ _ e] at hq; exact ⟨e, hq, Zac _ _ e⟩
 refine ⟨⟨fun b hb => ?_, fun q hq hl' hz => ?_, fun q hq hl' hz => ?_, fun q q' hq hq' hl' hl'' hz hz' heq => ?_, fun q hq hl' hz => ?_,
  h.mp.step (Yd _) (fun q hq hv _ => by obtain ⟨_, h1, h2⟩ := hne q hv; exact ⟨h1, by rw [h2], rfl⟩) (fun _ h => .inl h) (fun b hb => by
   rcases hb with hb | ⟨rfl, hc⟩
   ·grind
   ·obtain ⟨C, hb, _⟩ := h.blk k hk hl hc
    exact .inr (.inr ⟨_, hb, rfl⟩)) (fun _ _ => rfl) (fun _ _ ho _ => ho)⟩, hext⟩
 ·rcases hb with hb | ⟨rfl, hc⟩
  ·exact h.sub b hb
  ·obtain ⟨C, hb, _⟩ := h.blk k hk hl hc
   grind
 ·obtain ⟨e, h1, h2⟩ := hne q hl'
  rw [h2]; exact h.empty q hq h1 hz
 ·obtain ⟨e, h1, h2⟩ := hne q hl'
  rintro (hs | ⟨hb, hc⟩)
  ·exact h.fresh q hq h1 hz hs
  ·exact e (h.inj q k hq hk h1 hl hz hc hb)
 ·obtain ⟨e, h1, h2⟩ := hne q hl'
  obtain ⟨e', h1', h2'⟩ := hne q' hl''
  exact h.inj q q' hq hq' h1 h1' hz hz' heq
 ·obtain ⟨e, h1, h2⟩ := hne q hl'
  rw [h2]
  obtain ⟨C, hb, hs, hle, hx⟩ := h.blk q hq h1 hz
  exact ⟨C, hb, hs, hle, fun i x v hi hv => ⟨(hx i x v hi hv).1, (hx i x v hi hv).2.ext hext hq⟩⟩
end
def ZBG : TypeDesc → Bool | .struct _ | .array _ _ => true | _ => false
def Zjh (P : Program) (t : TypeId) : Option Bool := (P.underlying t).map ZBG
def fld (P : Program) (t : TypeId) (i : Nat) : Option (Nat × Nat) := match P.underlying t with | some (.struct fs) => (fs[i]?).map fun f => (f.offset, P.cellsOf f.type) | _ => none
def elm (P : Program) (t : TypeId) : Option (TypeId × Nat) := match P.underlying t with | some (.slice e) => some (e, P.cellsOf e) | _ => none
def zer (P : Program) (t : TypeId) : Option (List AV) := (P.info? t).bind fun i => i.zero.bind fun z => if z.cells.toList.all (·.oneCell') = true ∧ z.cells.size = i.size then some (z.cells.toList.map cv) else none
def kin (P : Program) (t : TypeId) : Nat := match P.underlying t with | some .bool => 1 | some .string => 2 | some (.int _) => 3 | some (.slice _) => 4 | _ => 0
def sLt (a b : ByteArray) : Bool := Op.bytesLess a.toList b.toList
def ZeC (P : Program) (H : Hp) (t : TypeId) (x : AV) (K : AV → Prop) : Prop :=
  match x with
  | .iptr cs off => match Zjh P t with
    | some true => P.cellsOf t ≠ 0 ∧ off + P.cellsOf t ≤ cs.length ∧ K (.agg (((cs.drop off).take (P.cellsOf t)).map .d))
    | some false => match cs[off]? with | some c => K (.d c) | none => False
    | none => False
  | .ptr k g off => g = (H k).g ∧ (H k).live = true ∧ match Zjh P t with
    | some true => P.cellsOf t ≠ 0 ∧ off + P.cellsOf t ≤ (H k).cells.length ∧ K (.agg (((H k).cells.drop off).take (P.cellsOf t)))
    | some false => match (H k).cells[off]? with | some c => K c | none => False
    | none => False
  | _ => False
def ZaR (P : Program) (H : Hp) (t : TypeId) (i : Nat) (x : AV) (K : AV → Prop) : Prop :=
  match x, fld P t i with
  | .iptr cs off, some (o, n) => n ≠ 0 ∧ K (.iptr cs (off + o))
  | .ptr k g off, some (o, n) => n ≠ 0 ∧ g = (H k).g ∧ (H k).live = true ∧ K (.ptr k g (off + o))
  | _, _ => False
def Zds (P : Program) (t : TypeId) (i : Nat) (x : AV) (K : AV → Prop) : Prop :=
  match x, P.underlying t with
  | .agg cs, some (.struct fs) => match fs[i]? with
    | some f => match Zjh P f.type with
      | some true => P.cellsOf f.type ≠ 0 ∧ K (.agg ((cs.drop f.offset).take (P.cellsOf f.type)))
      | some false => match cs[f.offset]? with | some c => K c | none => False
      | none => False
    | none => False
  | _, _ => False
def ZaJ (P : Program) (H : Hp) (t : TypeId) (x i : AV) (K : AV → Prop) : Prop :=
  match x, i, elm P t with
  | .d (.list es), .d (.int _ n), some (_, sz) => 0 ≤ n ∧ match es[n.toNat]? with | some e => e.length = sz ∧ sz ≠ 0 ∧ K (.iptr e 0) | none => False
  | .ref k g off len, .d (.int _ n), some (_, sz) => 0 ≤ n ∧ n < len ∧ g = (H k).g ∧ (H k).live = true ∧ (H k).sz = sz ∧ sz ≠ 0 ∧ K (.ptr k g ((off + n.toNat) * sz))
  | _, _, _ => False
def ZdP (P : Program) (t : TypeId) (x i : AV) (K : AV → Prop) : Prop :=
  match x, i with
  | .d (.str s), .d (.int _ n) => kin P t = 2 ∧ 0 ≤ n ∧ match s.data.toList[n.toNat]? with | some b => K (.d (.int .u8 b.toNat)) | none => False
  | _, _ => False
def ZG9 (k : IntKind) (x y : Int) : Int := k.wrap ((BitVec.ofInt k.bits x &&& BitVec.ofInt k.bits y).toNat : Int)
def orI (k : IntKind) (x y : Int) : Int := k.wrap ((BitVec.ofInt k.bits x ||| BitVec.ofInt k.bits y).toNat : Int)
def ZGl (k : IntKind) (x y : Int) : Int := k.wrap ((BitVec.ofInt k.bits x ^^^ BitVec.ofInt k.bits y).toNat : Int)
def ZK7 (k : IntKind) (n : Int) : Int := ZGl k (if k.signed then -1 else k.max) n
def Znn (op : BinOp) (k : IntKind) (a b : Int) (K : AV → Prop) : Prop :=
  match op with
  | .add => K (.d (.int k (k.wrap (a + b))))
  | .sub => K (.d (.int k (k.wrap (a - b))))
  | .mul => K (.d (.int k (k.wrap (a * b))))
  | .eql => K (.d (.bool (decide (a = b))))
  | .neq => K (.d (.bool (!decide (a = b))))
  | .lss => K (.d (.bool (decide (a < b))))
  | .leq => K (.d (.bool (decide (a ≤ b))))
  | .gtr => K (.d (.bool (decide (b < a))))
  | .geq => K (.d (.bool (decide (b ≤ a))))
  | .quo => b ≠ 0 ∧ K (.d (.int k (k.wrap (a.tdiv b))))
  | .rem => b ≠ 0 ∧ K (.d (.int k (a.tmod b)))
  | .shr => 0 ≤ b ∧ K (.d (.int k (a.fdiv (2 ^ (min b.toNat k.bits)))))
  | .shl => 0 ≤ b ∧ K (.d (.int k (k.wrap (a * 2 ^ (min b.toNat k.bits)))))
  | .and => K (.d (.int k (ZG9 k a b)))
  | .or => K (.d (.int k (orI k a b)))
  | .xor => K (.d (.int k (ZGl k a b)))
  | _ => False
def Zqh (op : BinOp) (a b : ByteArray) (K : AV → Prop) : Prop :=
  match op with
  | .add => a.size + b.size ≤ 9223372036854775807 ∧ K (.d (.str (a ++ b)))
  | .eql => K (.d (.bool (decide (a = b))))
  | .neq => K (.d (.bool (!decide (a = b))))
  | .lss => K (.d (.bool (sLt a b)))
  | .leq => K (.d (.bool (sLt a b || decide (a = b))))
  | .gtr => K (.d (.bool (!(sLt a b || decide (a = b)))))
  | .geq => K (.d (.bool (!sLt a b)))
  | _ => False
def Zjm (H : Hp) (neg : Bool) (x : AV) (K : AV → Prop) : Prop :=
  match x with
  | .d (.list []) | .e0 => ∀ b, K (.d (.bool b))
  | .d (.list (_ :: _)) => K (.d (.bool neg))
  | .ref k g _ n => (g = (H k).g ∧ (H k).live = true) ∧ ((n ≠ 0 → K (.d (.bool neg))) ∧ (n = 0 → ∀ b, K (.d (.bool b))))
  | _ => False
def eqD : Nat → D → D → Option Bool
  | 3, .int k a, .int k' b => if k = k' then some (decide (a = b)) else none
  | 2, .str a, .str b => some (decide (a = b))
  | 1, .bool a, .bool b => some (decide (a = b))
  | _, _, _ => none
def ZeL : List Nat → List AV → List AV → Option Bool
  | [], [], [] => some true
  | k :: ks, .d x :: xs, .d y :: ys => match eqD k x y, ZeL ks xs ys with
    | some a, some b => some (a && b)
    | _, _ => none
  | _, _, _ => none
def eqF (P : Program) : Nat → List Field → Option (List Nat)
  | _, [] => some []
  | k, f :: fs => if f.name = "_" ∨ f.offset ≠ k then none else (eqF P (k + 1) fs).map (kin P f.type :: ·)
def eqT (P : Program) (t : TypeId) : Option (List Nat) :=
  match P.underlying t with
  | some (.struct fs) => if (!P.stoodInHeld t && !P.eqGuardType P.depth t) = true then eqF P 0 fs.toList else none
  | _ => none
def ZrG (P : Program) (op : BinOp) (t : TypeId) (xs ys : List AV) (K : AV → Prop) : Prop :=
  match eqT P t with
  | some ks => (match ZeL ks xs ys with
    | some b => (match op with
      | .eql => K (.d (.bool b))
      | .neq => K (.d (.bool (!b)))
      | _ => False)
    | none => False)
  | none => False
def Zgw (P : Program) (H : Hp) (op : BinOp) (t : TypeId) (ny : Bool) (x y : AV) (K : AV → Prop) : Prop :=
  match x, y with
  | .d (.int k a), .d (.int k' b) => k = k' ∧ Znn op k a b K
  | .d (.str a), .d (.str b) => Zqh op a b K
  | .d (.bool a), .d (.bool b) => kin P t = 1 ∧ match op with
    | .eql => K (.d (.bool (a == b)))
    | .neq => K (.d (.bool (!(a == b))))
    | _ => False
  | .agg xs, .agg ys => ZrG P op t xs ys K
  | x, .e0 => ny = true ∧ kin P t = 4 ∧ match op with
    | .eql => Zjm H false x K
    | .neq => Zjm H true x K
    | _ => False
  | _, _ => False
def vUn (op : UnOp) (x : AV) (K : AV → Prop) : Prop :=
  match op, x with
  | .not, .d (.bool b) => K (.d (.bool (!b)))
  | .neg, .d (.int k n) => K (.d (.int k (k.wrap (0 - n))))
  | .xor, .d (.int k n) => K (.d (.int k (ZK7 k n)))
  | _, _ => False
def ZeZ (P : Program) (s d : TypeId) (x : AV) (K : AV → Prop) : Prop :=
  match P.underlying s, P.underlying d, x with
  | some _, some (.int k), .d (.int _ n) => K (.d (.int k (k.wrap n)))
  | some .string, some .string, .d (.str s) => K (.d (.str s))
  | _, _, _ => False
def bnd (dflt : Nat) : Option AV → Option Nat
  | none => some dflt
  | some (.d (.int _ n)) => if 0 ≤ n then some n.toNat else none
  | _ => none
def Zc3 (P : Program) (H : Hp) (t : TypeId) (x : AV) (lo hi : Option AV) (mx : Bool) (K : AV → Prop) : Prop :=
  match x with
  | .d (.str s) => kin P t = 2 ∧ mx = false ∧ match bnd 0 lo, bnd s.size hi with
    | some l, some h => l ≤ h ∧ h ≤ s.size ∧ K (.d (.str (s.extract l h)))
    | _, _ => False
  | .d (.list es) => mx = false ∧ match elm P t, bnd 0 lo, bnd es.length hi with
    | some (_, sz), some l, some h => sz ≠ 0 ∧ (∀ e, e ∈ es → e.length = sz) ∧ l ≤ h ∧ h ≤ es.length ∧ K (.d (.list ((es.drop l).take (h - l))))
    | _, _, _ => False
  | .ref k g off n => mx = false ∧ g = (H k).g ∧ (H k).live = true ∧ match elm P t, bnd 0 lo, bnd n hi with
    | some (_, sz), some l, some h => sz ≠ 0 ∧ (H k).sz = sz ∧ l ≤ h ∧ h ≤ n ∧ K (.ref k g (off + l) (h - l))
    | _, _, _ => False
  | _ => False
def Zjp (P : Program) (H : Hp) (t : TypeId) (x : AV) (K : AV → Prop) : Prop :=
  match x with
  | .d (.str s) => kin P t = 2 ∧ K (.d (.int .i64 s.size))
  | .d (.list es) => kin P t = 4 ∧ K (.d (.int .i64 es.length))
  | .e0 => kin P t = 4 ∧ K (.d (.int .i64 0))
  | .ref k g _ n => kin P t = 4 ∧ g = (H k).g ∧ (H k).live = true ∧ K (.d (.int .i64 n))
  | _ => False
def Zbh : AV → Option (List AV)
  | .agg xs => some xs
  | .top | .tup _ => none
  | x => some [x]
def ZcP (place : Nat → Option (Nat × Nat)) (cells : List AV) : List (Nat × AV) → Option (List AV)
  | [] => some cells
  | (i, v) :: rest => match place i, Zbh v with
    | some (off, size), some vs => if vs.length ≠ size ∨ off + vs.length > cells.length then none else ZcP place (cells.take off ++ vs ++ cells.drop (off + vs.length)) rest
    | _, _ => none
section
variable {P : Program} {l n : Nat} {H : Hp} {m : Mu} {S : Nat → Prop} {w : World} {s : Nat → AV} {a : Act}
theorem ZlQ {t : TypeId} {i : TypeInfo} (h : P.info? t = some i) (w : World) : (sizeOf t).run P w = .ok (P.cellsOf t) w := by
  simp [sizeOf, typeInfo, h, Program.cellsOf]
theorem Zcv {t : TypeId} {b : Bool} (h : Zjh P t = some b) (w : World) : (isAgg t).run P w = .ok b w := by
  unfold Zjh at h
  unfold isAgg underlying
  cases hu : P.underlying t with
  | none => rw [hu] at h; cases h
  | some d =>
    rw [hu] at h
    simp only [YC, Ye] at h
    subst h
    cases d <;> simp [hu, ZBG]
theorem Zmr {t : TypeId} (h : P.cellsOf t ≠ 0) : ∃ i, P.info? t = some i := by
  unfold Program.cellsOf at h
  cases hi : P.info? t with
  | none => rw [hi] at h; simp at h
  | some i => exact ⟨i, rfl⟩
theorem ZbQ {t : TypeId} (h : P.cellsOf t ≠ 0) (w : World) : (sizeOf t).run P w = .ok (P.cellsOf t) w := by
  obtain ⟨i, hi⟩ := Zmr h
  exact ZlQ hi w
theorem Ze6 {w : World} (ad : Addr) (vs : List Value) (k : Nat) (hk : vs.length = k) (h : ∀ (j : Nat) (v : Value), vs[j]? = some v → w.cell? (ad.add j) = some v) :
    (loadCells ad k).run P w = .ok vs.toArray w := by subst hk; exact run_loadCells_list w ad vs h
theorem Ok.row (hO : Ok (l + 1) H m S w) {k : Key} (hk : k.1 ≤ l + 1) (hl : (H k).live = true) (hne : (H k).cells ≠ []) :
    (m k).cap ≠ 0 ∧ ∃ C : Array Value, w.heap[(m k).b]? = some (.cells C (H k).e.ty (0, 0)) ∧ C.size = (m k).o + (m k).cap * (H k).sz ∧ (H k).cells.length ≤ (m k).cap * (H k).sz ∧
      ∀ (i : Nat) (x : AV), (H k).cells[i]? = some x → ∃ v, C[(m k).o + i]? = some v ∧ v.oneCell' = true ∧ RepA w S H m (l + 1) x v := by
  have hc : (m k).cap ≠ 0 := fun e => hne (hO.empty k hk hl e)
  obtain ⟨C, h1, h2, h3, h4⟩ := hO.blk k hk hl hc
  refine ⟨hc, C, h1, h2, h3, fun i x hi => ?_⟩
  have hlt : i < (H k).cells.length := by
    grind
  have hv : C[(m k).o + i]? = some (C[(m k).o + i]'(by omega)) := Yf (by omega)
  obtain ⟨g1, g2⟩ := h4 i x _ hi hv
  exact ⟨_, hv, g1, g2.lvl hk⟩
theorem Zc5 {b : Nat} {C : Array Value} {e : TypeId} {f : Nat × Nat} (h : w.heap[b]? = some (.cells C e f)) (i : Nat) : w.cell? ⟨b, i, none⟩ = C[i]? := by
  simp [World.cell?, h]
theorem Zf9 {t : TypeId} {x : AV} {v : Value} {K : AV → Prop} (h : ZeC P H t x K) (hx : RepA w S H m (l + 1) x v) (hO : Ok (l + 1) H m S w) :
    ∃ v' x', (Instr.loadAt t v).run P w = .ok v' w ∧ RepA w S H m (l + 1) x' v' ∧ K x' := by
  unfold ZeC at h
  cases hx <;> simp only at h <;> try exact h.elim
  case iptr cs off a c hb hc hr =>
    split at h
    · rename_i hag
      obtain ⟨hz, hlen, hK⟩ := h
      refine ⟨.agg ((List.range (P.cellsOf t)).map fun j => c (off + j)).toArray, _, ?_, ?_, hK⟩
      · simp only [Instr.loadAt, Instr.sureAddr, loadVar, Sem.run_bind, Sem.run_pure, Result.andThen_ok, Zcv hag, ZbQ hz, if_true]
        rw [Ze6 (P := P) (a.add off) ((List.range (P.cellsOf t)).map fun j => c (off + j)) (P.cellsOf t) (by simp)]
        · rfl
        · intro j v hj
          simp only [Yv] at hj
          have hlt : j < P.cellsOf t := by
            rcases Yo j (P.cellsOf t) with h | h
            · exact h
            · rw [Yx (by simpa using h)] at hj; cases hj
          have : v = c (off + j) := by
            rw [Yb (by simpa using hlt)] at hj
            simpa using hj.symm
          subst this
          rw [add_add]
          exact hc (off + j) _ (Yb (by omega))
      · refine .agg _ _ (by simp; omega) (fun i v hv => ?_) (fun i x v hi hv => ?_)
        · have : i < P.cellsOf t := by
            rcases Yo i (P.cellsOf t) with h | h
            · exact h
            · rw [YL (by simpa using h)] at hv; cases hv
          have e : v = c (off + i) := by simpa [this] using hv.symm
          subst e
          exact (hr (off + i) _ (Yb (by omega))).one
        · have : i < P.cellsOf t := by
            rcases Yo i (P.cellsOf t) with h | h
            · exact h
            · rw [YL (by simpa using h)] at hv; cases hv
          have e : v = c (off + i) := by simpa [this] using hv.symm
          subst e
          have e2 : cs[off + i]? = some (cs[off + i]'(by omega)) := Yb (by omega)
          have e3 : x = .d (cs[off + i]'(by omega)) := by
            simp only [Yv, YM, this, if_true, YK, e2, YC, Ye] at hi
            exact hi.symm
          subst e3
          exact .d _ _ (hr _ _ e2)
    · rename_i hag
      split at h
      · rename_i c' hc'
        refine ⟨c off, .d c', ?_, .d _ _ (hr off c' hc'), h⟩
        simp [Instr.loadAt, Instr.sureAddr, loadVar, Zcv hag, hc off c' hc']
      · exact h.elim
    · exact h.elim
  case ptrL k off hk hl =>
    obtain ⟨_, _, h⟩ := h
    split at h
    · rename_i hag
      obtain ⟨hz, hlen, hK⟩ := h
      obtain ⟨hc, C, h1, h2, h3, h4⟩ := hO.row hk hl (by intro e; rw [e] at hlen; simp at hlen; omega)
      refine ⟨.agg (C.extract ((m k).o + off) ((m k).o + off + P.cellsOf t)), _, ?_, ?_, hK⟩
      · simp only [Instr.loadAt, Instr.sureAddr, loadVar, Sem.run_bind, Sem.run_pure, Result.andThen_ok, Zcv hag, ZbQ hz, if_true]
        rw [Ze6 (P := P) ⟨(m k).b, (m k).o + off, none⟩ (C.extract ((m k).o + off) ((m k).o + off + P.cellsOf t)).toList (P.cellsOf t) (by simp; omega)]
        · rw [Array.toArray_toList]; rfl
        · intro j v hj
          have hj' : (C.extract ((m k).o + off) ((m k).o + off + P.cellsOf t))[j]? = some v := by rw [Yi] at hj; exact hj
          rw [Addr.add_lit, Zc5 h1]
          rw [Y1] at hj'
          split at hj' <;> simp_all
      · refine .agg _ _ (by simp; omega) (fun i v hv => ?_) (fun i x v hi hv => ?_)
        all_goals
          rw [Y1] at hv
          split at hv
          · rename_i hlt
            have hlt' : off + i < (H k).cells.length := by omega
            obtain ⟨v', e1, e2, e3⟩ := h4 (off + i) _ (Yb hlt')
            rw [Yp, e1] at hv
            simp only [Ye] at hv
            subst hv
            first
              | exact e2
              | (have e4 : x = (H k).cells[off + i] := by
                   rw [YM] at hi
                   split at hi
                   · rw [YK, Yb hlt'] at hi
                     simpa using hi.symm
                   · cases hi
                 subst e4
                 exact e3)
          · cases hv
    · rename_i hag
      split at h
      · rename_i c' hc'
        obtain ⟨hc, C, h1, h2, h3, h4⟩ := hO.row hk hl (by intro e; rw [e] at hc'; simp at hc')
        obtain ⟨v', e1, e2, e3⟩ := h4 off c' hc'
        refine ⟨v', c', ?_, e3, h⟩
        simp [Instr.loadAt, Instr.sureAddr, loadVar, Zcv hag, Zc5 h1, e1]
      · exact h.elim
    · exact h.elim
  case ptrD k g off hk hg hd h1 =>
    obtain ⟨e, e2, _⟩ := h
    rw [hd e] at e2; cases e2
end
end Go.Eng
