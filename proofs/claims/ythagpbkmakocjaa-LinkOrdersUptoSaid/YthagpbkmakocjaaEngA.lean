/-
  The abstract state of a walk, part A: pure data, abstract values, what they stand for in a world, and that this stays so while the world grows. No program in sight.
-/
import Derived.Calls
import Derived.Below
import Derived.Tactics
import Derived.Laws.Sem
import Derived.Laws.World
import Derived.Laws.Rows
import Derived.Laws.AppendOwn
namespace Go.Eng
set_option linter.all false
open Go Go.RowKit

abbrev Key := Nat × Nat

/-- Pure data: what one cell holds, to the bottom. A slice is the list of its elements, each the list of its cells. -/
inductive D where
  | int (k : IntKind) (n : Int)
  | bool (b : Bool)
  | str (s : ByteArray)
  | list (es : List (List D))

/-- Abstract values. -/
inductive AV where
  | top
  | d (x : D)
  | e0
  | p (x : Value)
  | ref (k : Key) (g off n : Nat)
  | ptr (k : Key) (g off : Nat)
  | iptr (cs : List D) (off : Nat)
  | fn (f : Fn) (first caps : List AV)
  | agg (cs : List AV)
  | tup (vs : List AV)

/-- An abstract block: its generation, whether it is live, the element type, an element's cells, what it holds. -/
structure Blk where
  g : Nat
  live : Bool
  e : TypeId
  sz : Nat
  cells : List AV

/-- Where a block lies (the block, the first cell's offset), and for how many elements there is room. -/
structure MB where
  b : Nat
  o : Nat
  cap : Nat

abbrev Hp := Key → Blk
abbrev Mu := Key → MB

def D.one : D → Bool := fun _ => true

/-- Pure data in the frozen blocks of a world. -/
inductive RepD (w : World) (S : Nat → Prop) : D → Value → Prop
  | int (k : IntKind) (n : Int) : RepD w S (.int k n) (.int k n)
  | bool (b : Bool) : RepD w S (.bool b) (.bool b)
  | str (s : ByteArray) : RepD w S (.str s) (.string s)
  | nil : RepD w S (.list []) (.slice none 0 0)
  | list (es : List (List D)) (a : Addr) (sz cap : Nat) (c : Nat → Nat → Value) (hb : es ≠ [] → S a.block) (hcap : es.length ≤ cap)
      (hsz : ∀ e, e ∈ es → e.length = sz)
      (hc : ∀ (i j : Nat) (e : List D) (x : D), es[i]? = some e → e[j]? = some x → w.cell? (a.add (i * sz + j)) = some (c i j))
      (hr : ∀ (i j : Nat) (e : List D) (x : D), es[i]? = some e → e[j]? = some x → RepD w S x (c i j)) :
      RepD w S (.list es) (.slice (some a) es.length cap)

theorem block_add (a : Addr) (n : Nat) : (a.add n).block = a.block := by unfold Addr.add; split <;> rfl
theorem add_add (a : Addr) (i j : Nat) : (a.add i).add j = a.add (i + j) := by
  unfold Addr.add
  by_cases hi : i = 0 <;> by_cases hj : j = 0 <;> simp [hi, hj, Nat.add_assoc]

theorem RepD.one {w : World} {S : Nat → Prop} {x : D} {v : Value} (h : RepD w S x v) : v.oneCell' = true := by
  cases h <;> rfl

theorem RepD.mono {w w' : World} {S S' : Nat → Prop} {x : D} {v : Value} (h : RepD w S x v) (hS : ∀ b, S b → S' b) (hb : ∀ b, S b → w'.heap[b]? = w.heap[b]?) : RepD w' S' x v := by
  induction h with
  | int k n => exact .int k n
  | bool b => exact .bool b
  | str s => exact .str s
  | nil => exact .nil
  | list es a sz cap c hb' hcap hsz hc hr ih =>
    refine .list es a sz cap c (fun h => hS _ (hb' h)) hcap hsz (fun i j e x hi hj => ?_) (fun i j e x hi hj => ih i j e x hi hj)
    exact (World.cell?_of_block (a := a.add (i * sz + j)) (by rw [block_add]; exact hb _ (hb' (by rintro rfl; simp at hi)))).trans (hc i j e x hi hj)

/-- Abstract values in a world: 'l' the highest level of a key that may occur. -/
inductive RepA (w : World) (S : Nat → Prop) (H : Hp) (m : Mu) (l : Nat) : AV → Value → Prop
  | top (v : Value) : RepA w S H m l .top v
  | d (x : D) (v : Value) (h : RepD w S x v) : RepA w S H m l (.d x) v
  | e0 (a : Option Addr) : RepA w S H m l .e0 (.slice a 0 0)
  | p (v : Value) (h : v.oneCell' = true) : RepA w S H m l (.p v) v
  | refL (k : Key) (off n : Nat) (a : Option Addr) (hk : k.1 ≤ l) (hl : (H k).live = true) (hn : off + n ≤ (m k).cap)
      (ha : off < (m k).cap → a = some ⟨(m k).b, (m k).o + off * (H k).sz, none⟩) : RepA w S H m l (.ref k (H k).g off n) (.slice a n ((m k).cap - off))
  | refD (k : Key) (g off n : Nat) (v : Value) (hk : k.1 ≤ l) (hg : g ≤ (H k).g) (hd : g = (H k).g → (H k).live = false) (h1 : v.oneCell' = true) : RepA w S H m l (.ref k g off n) v
  | ptrL (k : Key) (off : Nat) (hk : k.1 ≤ l) (hl : (H k).live = true) : RepA w S H m l (.ptr k (H k).g off) (.pointer (some ⟨(m k).b, (m k).o + off, none⟩))
  | ptrD (k : Key) (g off : Nat) (v : Value) (hk : k.1 ≤ l) (hg : g ≤ (H k).g) (hd : g = (H k).g → (H k).live = false) (h1 : v.oneCell' = true) : RepA w S H m l (.ptr k g off) v
  | iptr (cs : List D) (off : Nat) (a : Addr) (c : Nat → Value) (hb : S a.block) (hc : ∀ (j : Nat) (x : D), cs[j]? = some x → w.cell? (a.add j) = some (c j))
      (hr : ∀ (j : Nat) (x : D), cs[j]? = some x → RepD w S x (c j)) : RepA w S H m l (.iptr cs off) (.pointer (some (a.add off)))
  | fn (f : Fn) (xs ys : List AV) (vs us : Array Value) (hx : xs.length = vs.size) (hy : ys.length = us.size)
      (h1 : ∀ (i : Nat) (x : AV) (v : Value), xs[i]? = some x → vs[i]? = some v → RepA w S H m l x v)
      (h2 : ∀ (i : Nat) (x : AV) (v : Value), ys[i]? = some x → us[i]? = some v → RepA w S H m l x v) : RepA w S H m l (.fn f xs ys) (.func f vs us)
  | agg (xs : List AV) (vs : Array Value) (hx : xs.length = vs.size) (h1 : ∀ (i : Nat) (v : Value), vs[i]? = some v → v.oneCell' = true)
      (h : ∀ (i : Nat) (x : AV) (v : Value), xs[i]? = some x → vs[i]? = some v → RepA w S H m l x v) : RepA w S H m l (.agg xs) (.agg vs)
  | tup (xs : List AV) (vs : Array Value) (hx : xs.length = vs.size)
      (h : ∀ (i : Nat) (x : AV) (v : Value), xs[i]? = some x → vs[i]? = some v → RepA w S H m l x v) : RepA w S H m l (.tup xs) (.tuple vs)

/-- The abstract heap, up to level l, in a world. -/
structure Ok (l : Nat) (H : Hp) (m : Mu) (S : Nat → Prop) (w : World) : Prop where
  sub : ∀ b, S b → b < w.heap.size
  empty : ∀ k : Key, k.1 ≤ l → (H k).live = true → (m k).cap = 0 → (H k).cells = []
  fresh : ∀ k : Key, k.1 ≤ l → (H k).live = true → (m k).cap ≠ 0 → ¬ S (m k).b
  inj : ∀ k k' : Key, k.1 ≤ l → k'.1 ≤ l → (H k).live = true → (H k').live = true → (m k).cap ≠ 0 → (m k').cap ≠ 0 → (m k).b = (m k').b → k = k'
  blk : ∀ k : Key, k.1 ≤ l → (H k).live = true → (m k).cap ≠ 0 → ∃ C : Array Value, w.heap[(m k).b]? = some (.cells C (H k).e (0, 0)) ∧ C.size = (m k).o + (m k).cap * (H k).sz ∧
    (H k).cells.length ≤ (m k).cap * (H k).sz ∧ ∀ (i : Nat) (x : AV) (v : Value), (H k).cells[i]? = some x → C[(m k).o + i]? = some v → v.oneCell' = true ∧ RepA w S H m k.1 x v

/-- How a heap goes on, seen from level l: frozen blocks stay as they are, what is live has been so. -/
structure Ext (l : Nat) (H : Hp) (m : Mu) (S : Nat → Prop) (w : World) (H' : Hp) (m' : Mu) (S' : Nat → Prop) (w' : World) : Prop where
  s : ∀ b, S b → S' b
  blk : ∀ b, S b → w'.heap[b]? = w.heap[b]?
  g : ∀ k : Key, k.1 ≤ l → (H k).g ≤ (H' k).g
  live : ∀ k : Key, k.1 ≤ l → (H' k).g = (H k).g → (H' k).live = true → (H k).live = true ∧ m' k = m k ∧ (H' k).sz = (H k).sz
  os : w'.os = w.os
  tape : w'.tape = w.tape
  output : w'.output = w.output
  size : w.heap.size ≤ w'.heap.size

section
variable {l l' : Nat} {H H' H'' : Hp} {m m' m'' : Mu} {S S' S'' : Nat → Prop} {w w' w'' : World}

theorem Ext.refl (l : Nat) (H : Hp) (m : Mu) (S : Nat → Prop) (w : World) : Ext l H m S w H m S w :=
  ⟨fun _ h => h, fun _ _ => rfl, fun _ _ => Nat.le_refl _, fun _ _ _ h => ⟨h, rfl, rfl⟩, rfl, rfl, rfl, Nat.le_refl _⟩

theorem Ext.trans (h : Ext l H m S w H' m' S' w') (k : Ext l H' m' S' w' H'' m'' S'' w'') : Ext l H m S w H'' m'' S'' w'' where
  s := fun b hb => k.s b (h.s b hb)
  blk := fun b hb => (k.blk b (h.s b hb)).trans (h.blk b hb)
  g := fun q hq => Nat.le_trans (h.g q hq) (k.g q hq)
  live := fun q hq hg hl => by
    have h1 := h.g q hq
    have h2 := k.g q hq
    obtain ⟨a, b, c⟩ := k.live q hq (by omega) hl
    obtain ⟨a', b', c'⟩ := h.live q hq (by omega) a
    exact ⟨a', b.trans b', c.trans c'⟩
  os := k.os.trans h.os
  tape := k.tape.trans h.tape
  output := k.output.trans h.output
  size := Nat.le_trans h.size k.size

theorem Ext.mono (h : Ext l H m S w H' m' S' w') (hl : l' ≤ l) : Ext l' H m S w H' m' S' w' :=
  ⟨h.s, h.blk, fun k hk => h.g k (by omega), fun k hk => h.live k (by omega), h.os, h.tape, h.output, h.size⟩

theorem RepA.ext {x : AV} {v : Value} (hx : RepA w S H m l' x v) (h : Ext l H m S w H' m' S' w') (hl : l' ≤ l) : RepA w' S' H' m' l' x v := by
  induction hx with
  | top v => exact .top _
  | d x v hd => exact .d _ _ (hd.mono h.s h.blk)
  | e0 a => exact .e0 _
  | p v h1 => exact .p _ h1
  | refL k off n a hk hlv hn ha =>
    have hg := h.g k (by omega)
    by_cases hc : (H' k).g = (H k).g ∧ (H' k).live = true
    · obtain ⟨_, e1, e2⟩ := h.live k (by omega) hc.1 hc.2
      rw [← hc.1, ← e1]
      exact .refL k off n a hk hc.2 (by rw [e1]; exact hn) (fun ho => by rw [e1, e2]; exact ha (by rw [← e1]; exact ho))
    · exact .refD k _ off n _ hk hg (fun e => by
        cases hv : (H' k).live with
        | false => rfl
        | true => exact absurd ⟨e.symm, hv⟩ hc) rfl
  | refD k g off n v hk hg hd h1 =>
    have hg' := h.g k (by omega)
    refine .refD k g off n v hk (by omega) (fun e => ?_) h1
    cases hv : (H' k).live with
    | false => rfl
    | true =>
      obtain ⟨e1, _, _⟩ := h.live k (by omega) (by omega) hv
      rw [hd (by omega)] at e1
      cases e1
  | ptrL k off hk hlv =>
    have hg := h.g k (by omega)
    by_cases hc : (H' k).g = (H k).g ∧ (H' k).live = true
    · obtain ⟨_, e1, _⟩ := h.live k (by omega) hc.1 hc.2
      rw [← hc.1, ← e1]
      exact .ptrL k off hk hc.2
    · exact .ptrD k _ off _ hk hg (fun e => by
        cases hv : (H' k).live with
        | false => rfl
        | true => exact absurd ⟨e.symm, hv⟩ hc) rfl
  | ptrD k g off v hk hg hd h1 =>
    have hg' := h.g k (by omega)
    refine .ptrD k g off v hk (by omega) (fun e => ?_) h1
    cases hv : (H' k).live with
    | false => rfl
    | true =>
      obtain ⟨e1, _, _⟩ := h.live k (by omega) (by omega) hv
      rw [hd (by omega)] at e1
      cases e1
  | iptr cs off a c hb hc hr =>
    exact .iptr cs off a c (h.s _ hb) (fun j x hj => (World.cell?_of_block (a := a.add j) (by rw [block_add]; exact h.blk _ hb)).trans (hc j x hj)) (fun j x hj => (hr j x hj).mono h.s h.blk)
  | fn f xs ys vs us hx hy h1 h2 ih1 ih2 => exact .fn f xs ys vs us hx hy (fun i x v a b => ih1 i x v a b) (fun i x v a b => ih2 i x v a b)
  | agg xs vs hx h1 h2 ih => exact .agg xs vs hx h1 (fun i x v a b => ih i x v a b)
  | tup xs vs hx h2 ih => exact .tup xs vs hx (fun i x v a b => ih i x v a b)

theorem RepA.lvl {x : AV} {v : Value} (hx : RepA w S H m l x v) (hl : l ≤ l') : RepA w S H m l' x v := by
  induction hx with
  | top v => exact .top _
  | d x v hd => exact .d _ _ hd
  | e0 a => exact .e0 _
  | p v h1 => exact .p _ h1
  | refL k off n a hk hlv hn ha => exact .refL k off n a (by omega) hlv hn ha
  | refD k g off n v hk hg hd h1 => exact .refD k g off n v (by omega) hg hd h1
  | ptrL k off hk hlv => exact .ptrL k off (by omega) hlv
  | ptrD k g off v hk hg hd h1 => exact .ptrD k g off v (by omega) hg hd h1
  | iptr cs off a c hb hc hr => exact .iptr cs off a c hb hc hr
  | fn f xs ys vs us hx hy h1 h2 ih1 ih2 => exact .fn f xs ys vs us hx hy (fun i x v a b => ih1 i x v a b) (fun i x v a b => ih2 i x v a b)
  | agg xs vs hx h1 h2 ih => exact .agg xs vs hx h1 (fun i x v a b => ih i x v a b)
  | tup xs vs hx h2 ih => exact .tup xs vs hx (fun i x v a b => ih i x v a b)

/-- The heap's part of 'RepA' looks at the keys up to the level alone. -/
theorem RepA.agree {x : AV} {v : Value} (hx : RepA w S H m l x v) (hH : ∀ k : Key, k.1 ≤ l → H' k = H k) (hm : ∀ k : Key, k.1 ≤ l → m' k = m k) : RepA w S H' m' l x v := by
  induction hx with
  | top v => exact .top _
  | d x v hd => exact .d _ _ hd
  | e0 a => exact .e0 _
  | p v h1 => exact .p _ h1
  | refL k off n a hk hlv hn ha => rw [← hH k hk, ← hm k hk] at *; exact .refL k off n a hk hlv hn ha
  | refD k g off n v hk hg hd h1 => rw [← hH k hk] at *; exact .refD k g off n v hk hg hd h1
  | ptrL k off hk hlv => rw [← hH k hk, ← hm k hk] at *; exact .ptrL k off hk hlv
  | ptrD k g off v hk hg hd h1 => rw [← hH k hk] at *; exact .ptrD k g off v hk hg hd h1
  | iptr cs off a c hb hc hr => exact .iptr cs off a c hb hc hr
  | fn f xs ys vs us hx hy h1 h2 ih1 ih2 => exact .fn f xs ys vs us hx hy (fun i x v a b => ih1 i x v a b) (fun i x v a b => ih2 i x v a b)
  | agg xs vs hx h1 h2 ih => exact .agg xs vs hx h1 (fun i x v a b => ih i x v a b)
  | tup xs vs hx h2 ih => exact .tup xs vs hx (fun i x v a b => ih i x v a b)

/-- One cell. -/
def AV.one : AV → Bool
  | .top | .agg _ | .tup _ => false
  | _ => true
theorem RepA.oneCell {x : AV} {v : Value} (hx : RepA w S H m l x v) (h : x.one = true) : v.oneCell' = true := by
  cases hx with
  | top => cases h
  | d x v hd => exact hd.one
  | e0 => rfl
  | p v h1 => exact h1
  | refL => rfl
  | refD k g off n v hk hg hd h1 => exact h1
  | ptrL => rfl
  | ptrD k g off v hk hg hd h1 => exact h1
  | iptr => rfl
  | fn => rfl
  | agg => cases h
  | tup => cases h

/-- Empty slices: what is known to have no room may be forgotten. -/
theorem RepA.e0_d {v : Value} (hx : RepA w S H m l .e0 v) : RepA w S H m l (.d (.list [])) v := by
  cases hx with
  | e0 a =>
    cases a with
    | none => exact .d _ _ .nil
    | some a => exact .d _ _ (.list [] a 0 0 (fun _ _ => .bool true) (fun h => absurd rfl h) (Nat.le_refl _) (fun _ h => by cases h) (fun i j e x h => by simp at h) (fun i j e x h => by simp at h))
end
end Go.Eng
