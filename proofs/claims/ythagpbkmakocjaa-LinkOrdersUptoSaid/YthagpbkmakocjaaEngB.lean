/-
  The abstract state of a walk, part B: states, what they stand for in a frame and a world, new blocks, stores, frozen blocks.
-/
import Derived.Test.YthagpbkmakocjaaEngA
namespace Go.Eng
set_option linter.all false
open Go Go.RowKit

structure St where
  s : Nat → AV
  H : Hp

structure Base where
  H : Hp
  m : Mu
  S : Nat → Prop
  w : World

def upd (s : Nat → AV) (i : Nat) (x : AV) : Nat → AV := fun j => if j = i then x else s j
def updH (H : Hp) (k : Key) (b : Blk) : Hp := fun j => if j = k then b else H j
def updM (m : Mu) (k : Key) (b : MB) : Mu := fun j => if j = k then b else m j

theorem updH_same (H : Hp) (k : Key) (b : Blk) : updH H k b k = b := by simp [updH]
theorem updH_ne (H : Hp) {k j : Key} (b : Blk) (h : j ≠ k) : updH H k b j = H j := by simp [updH, h]
theorem updM_same (m : Mu) (k : Key) (b : MB) : updM m k b k = b := by simp [updM]
theorem updM_ne (m : Mu) {k j : Key} (b : MB) (h : j ≠ k) : updM m k b j = m j := by simp [updM, h]

/-- The frame's slots stand for what the abstract slots say. -/
def Slots (l : Nat) (s : Nat → AV) (H : Hp) (m : Mu) (S : Nat → Prop) (a : Act) (w : World) : Prop := ∀ i, RepA w S H m l (s i) (a.tmps.getD i undef)

/-- The relation that a walk keeps: the frame and the world stand for the abstract state; seen from the caller's level all goes on from the base. -/
def R (l n : Nat) (B : Base) (σ : St) (a : Act) (w : World) : Prop :=
  ∃ m S, Ok (l + 1) σ.H m S w ∧ a.tmps.size = n ∧ a.defers = [] ∧ Slots (l + 1) σ.s σ.H m S a w ∧ Ext l B.H B.m B.S B.w σ.H m S w

def cv : Value → AV
  | .int k n => .d (.int k n)
  | .bool b => .d (.bool b)
  | .string s => .d (.str s)
  | .slice none 0 0 => .e0
  | .agg _ => .top
  | .tuple _ => .top
  | v => .p v

def ev (s : Nat → AV) : Operand → AV
  | .tmp t => s t
  | .const v => cv v
  | .global g => .p (.pointer (some ⟨g, 0, none⟩))
  | .func f => .fn (.func f) [] []

section
variable {l l' n : Nat} {H H' : Hp} {m m' : Mu} {S S' : Nat → Prop} {w w' : World} {s : Nat → AV} {a : Act}

theorem cv_rep (v : Value) : RepA w S H m l (cv v) v := by
  unfold cv
  split <;> first
    | exact .d _ _ (.int _ _)
    | exact .d _ _ (.bool _)
    | exact .d _ _ (.str _)
    | exact .e0 _
    | exact .top _
    | skip
  rename_i h5 h6
  refine .p _ ?_
  cases v <;> first | rfl | (exact (h5 _ rfl).elim) | (exact (h6 _ rfl).elim)

theorem ev_rep (h : Slots l s H m S a w) (x : Operand) : RepA w S H m l (ev s x) (a.eval x) := by
  cases x with
  | tmp t => exact h t
  | const v => exact cv_rep v
  | global g => exact .p _ rfl
  | func f => exact .fn _ _ _ _ _ rfl rfl (fun i x v h => by simp at h) (fun i x v h => by simp at h)

theorem put_getD (a : Act) (d i : Nat) (v : Value) (hd : d < a.tmps.size) : (a.put (some d) v).tmps.getD i undef = if i = d then v else a.tmps.getD i undef := by
  simp only [Act.put, Array.getD_eq_getD_getElem?, Array.getElem?_setIfInBounds]
  by_cases h : d = i
  · subst h; simp [hd]
  · rw [if_neg h, if_neg (fun e => h e.symm)]
theorem put_size (a : Act) (d : Option Nat) (v : Value) : (a.put d v).tmps.size = a.tmps.size := by cases d <;> simp [Act.put]
theorem put_defers (a : Act) (d : Option Nat) (v : Value) : (a.put d v).defers = a.defers := by cases d <;> simp [Act.put]

theorem Slots.put (h : Slots l s H m S a w) {d : Nat} (hd : d < a.tmps.size) {x : AV} {v : Value} (hx : RepA w S H m l x v) : Slots l (upd s d x) H m S (a.put (some d) v) w := by
  intro i
  rw [put_getD a d i v hd]
  unfold upd
  by_cases e : i = d
  · simp only [e, if_true]; exact hx
  · simp only [e, if_false]; exact h i

theorem Slots.ext (h : Slots l s H m S a w) (he : Ext l H m S w H' m' S' w') : Slots l s H' m' S' a w' := fun i => (h i).ext he (Nat.le_refl _)

/-- A new block. -/
theorem Ok.alloc (h : Ok l H m S w) (k : Key) (hk : k.1 ≤ l) (e : TypeId) (sz cap : Nat) (cells : List AV) (C : Array Value) (hcap : cap ≠ 0) (hC : C.size = cap * sz) (hlen : cells.length ≤ C.size)
    (hc : ∀ (i : Nat) (x : AV) (v : Value), cells[i]? = some x → C[i]? = some v → v.oneCell' = true ∧ RepA w S H m k.1 x v) (w' : World) (hw : w'.heap = w.heap.push (.cells C e (0, 0))) (h1 : w'.os = w.os) (h2 : w'.tape = w.tape) (h3 : w'.output = w.output) :
    Ok l (updH H k ⟨(H k).g + 1, true, e, sz, cells⟩) (updM m k ⟨w.heap.size, 0, cap⟩) S w' ∧ Ext l H m S w (updH H k ⟨(H k).g + 1, true, e, sz, cells⟩) (updM m k ⟨w.heap.size, 0, cap⟩) S w' := by
  have hold : ∀ b, b < w.heap.size → w'.heap[b]? = w.heap[b]? := fun b hb => by rw [hw, Array.getElem?_push, if_neg (by omega)]
  have hext : Ext l H m S w (updH H k ⟨(H k).g + 1, true, e, sz, cells⟩) (updM m k ⟨w.heap.size, 0, cap⟩) S w' := by
    refine ⟨fun _ h => h, fun b hb => hold b (h.sub b hb), fun q hq => ?_, fun q hq hg hl => ?_, h1, h2, h3, by rw [hw]; simp⟩
    · by_cases e : q = k
      · subst e; rw [updH_same]; simp
      · rw [updH_ne _ _ e]; exact Nat.le_refl _
    · by_cases e : q = k
      · subst e; rw [updH_same] at hg; simp at hg
      · rw [updH_ne _ _ e] at hl ⊢; rw [updM_ne _ _ e]; exact ⟨hl, rfl, rfl⟩
  have hlt : ∀ q : Key, q.1 ≤ l → (H q).live = true → (m q).cap ≠ 0 → (m q).b < w.heap.size := fun q hq hl hc' => by
    obtain ⟨C, hb, _⟩ := h.blk q hq hl hc'
    rcases Nat.lt_or_ge (m q).b w.heap.size with hlt | hge
    · exact hlt
    · rw [Array.getElem?_eq_none hge] at hb; cases hb
  refine ⟨⟨fun b hb => ?_, fun q hq hl hz => ?_, fun q hq hl hz => ?_, fun q q' hq hq' hl hl' hz hz' heq => ?_, fun q hq hl hz => ?_⟩, hext⟩
  · have := h.sub b hb; rw [hw]; simp; omega
  · by_cases e : q = k
    · subst e; rw [updM_same] at hz; exact absurd hz hcap
    · rw [updH_ne _ _ e] at hl ⊢; rw [updM_ne _ _ e] at hz; exact h.empty q hq hl hz
  · by_cases e : q = k
    · subst e; rw [updM_same]; intro hs; have := h.sub _ hs; simp at this
    · rw [updH_ne _ _ e] at hl; rw [updM_ne _ _ e] at hz ⊢; exact h.fresh q hq hl hz
  · by_cases e : q = k <;> by_cases e' : q' = k
    · rw [e, e']
    · subst e
      rw [updM_same, updM_ne _ _ e'] at heq
      rw [updH_ne _ _ e'] at hl'
      rw [updM_ne _ _ e'] at hz'
      have := hlt q' hq' hl' hz'
      simp only at heq
      omega
    · subst e'
      rw [updM_same, updM_ne _ _ e] at heq
      rw [updH_ne _ _ e] at hl
      rw [updM_ne _ _ e] at hz
      have := hlt q hq hl hz
      simp only at heq
      omega
    · rw [updM_ne _ _ e, updM_ne _ _ e'] at heq
      rw [updH_ne _ _ e] at hl
      rw [updH_ne _ _ e'] at hl'
      rw [updM_ne _ _ e] at hz
      rw [updM_ne _ _ e'] at hz'
      exact h.inj q q' hq hq' hl hl' hz hz' heq
  · by_cases e : q = k
    · subst e
      rw [updH_same, updM_same]
      refine ⟨C, by rw [hw]; simp, by simp [hC], by rw [← hC]; exact hlen, fun i x v hi hv => ?_⟩
      rw [Nat.zero_add] at hv
      obtain ⟨g1, g2⟩ := hc i x v hi hv
      exact ⟨g1, g2.ext hext hk⟩
    · rw [updH_ne _ _ e] at hl ⊢
      rw [updM_ne _ _ e] at hz ⊢
      obtain ⟨C, hb, hs, hle, hx⟩ := h.blk q hq hl hz
      refine ⟨C, by rw [hold _ (hlt q hq hl hz)]; exact hb, hs, hle, fun i x v hi hv => ?_⟩
      obtain ⟨g1, g2⟩ := hx i x v hi hv
      exact ⟨g1, g2.ext hext hq⟩

/-- Cells of one live block written anew. -/
theorem Ok.write (h : Ok l H m S w) (k : Key) (hk : k.1 ≤ l) (hl : (H k).live = true) (hcap : (m k).cap ≠ 0) (cells : List AV) (C' : Array Value)
    (hC : C'.size = (m k).o + (m k).cap * (H k).sz) (hlen : cells.length ≤ (m k).cap * (H k).sz) (w' : World)
    (hw : ∀ b, w'.heap[b]? = if b = (m k).b then some (.cells C' (H k).e (0, 0)) else w.heap[b]?) (hsz : w'.heap.size = w.heap.size) (h1 : w'.os = w.os) (h2 : w'.tape = w.tape) (h3 : w'.output = w.output)
    (hc : ∀ (i : Nat) (x : AV) (v : Value), cells[i]? = some x → C'[(m k).o + i]? = some v → v.oneCell' = true ∧ RepA w S H m k.1 x v) :
    Ok l (updH H k { H k with cells := cells }) m S w' ∧ Ext l H m S w (updH H k { H k with cells := cells }) m S w' := by
  have hext : Ext l H m S w (updH H k { H k with cells := cells }) m S w' := by
    refine ⟨fun _ h => h, fun b hb => ?_, fun q hq => ?_, fun q hq hg hl' => ?_, h1, h2, h3, by omega⟩
    · rw [hw, if_neg]
      intro e
      exact h.fresh k hk hl hcap (e ▸ hb)
    · by_cases e : q = k
      · subst e; rw [updH_same]; exact Nat.le_refl _
      · rw [updH_ne _ _ e]; exact Nat.le_refl _
    · by_cases e : q = k
      · subst e; rw [updH_same] at hl' ⊢; exact ⟨hl', rfl, rfl⟩
      · rw [updH_ne _ _ e] at hl' ⊢; exact ⟨hl', rfl, rfl⟩
  refine ⟨⟨fun b hb => ?_, fun q hq hl' hz => ?_, fun q hq hl' hz => ?_, fun q q' hq hq' hl' hl'' hz hz' heq => ?_, fun q hq hl' hz => ?_⟩, hext⟩
  · rw [hsz]; exact h.sub b hb
  · by_cases e : q = k
    · subst e; exact absurd hz hcap
    · rw [updH_ne _ _ e] at hl' ⊢; exact h.empty q hq hl' hz
  · by_cases e : q = k
    · subst e; exact h.fresh q hq hl hz
    · rw [updH_ne _ _ e] at hl'; exact h.fresh q hq hl' hz
  · have f : ∀ q : Key, (updH H k { H k with cells := cells } q).live = (H q).live := fun q => by
      by_cases e : q = k
      · subst e; rw [updH_same]
      · rw [updH_ne _ _ e]
    rw [f] at hl' hl''
    exact h.inj q q' hq hq' hl' hl'' hz hz' heq
  · by_cases e : q = k
    · subst e
      rw [updH_same]
      refine ⟨C', by rw [hw, if_pos rfl], hC, hlen, fun i x v hi hv => ?_⟩
      obtain ⟨g1, g2⟩ := hc i x v hi hv
      exact ⟨g1, g2.ext hext hk⟩
    · rw [updH_ne _ _ e] at hl' ⊢
      obtain ⟨C, hb, hs, hle, hx⟩ := h.blk q hq hl' hz
      have hne : (m q).b ≠ (m k).b := fun e' => e (h.inj q k hq hk hl' hl hz hcap e')
      refine ⟨C, by rw [hw, if_neg hne]; exact hb, hs, hle, fun i x v hi hv => ?_⟩
      obtain ⟨g1, g2⟩ := hx i x v hi hv
      exact ⟨g1, g2.ext hext hq⟩

/-- A world that differs in draws alone. -/
theorem Ok.drew (h : Ok l H m S w) (hw : w'.heap = w.heap) (h1 : w'.os = w.os) (h2 : w'.tape = w.tape) (h3 : w'.output = w.output) : Ok l H m S w' ∧ Ext l H m S w H m S w' := by
  have hext : Ext l H m S w H m S w' := ⟨fun _ h => h, fun b _ => by rw [hw], fun _ _ => Nat.le_refl _, fun _ _ _ h => ⟨h, rfl, rfl⟩, h1, h2, h3, by rw [hw]; exact Nat.le_refl _⟩
  refine ⟨⟨fun b hb => by rw [hw]; exact h.sub b hb, h.empty, h.fresh, h.inj, fun q hq hl hz => ?_⟩, hext⟩
  obtain ⟨C, hb, hs, hle, hx⟩ := h.blk q hq hl hz
  exact ⟨C, by rw [hw]; exact hb, hs, hle, fun i x v hi hv => ⟨(hx i x v hi hv).1, (hx i x v hi hv).2.ext hext hq⟩⟩

/-- A live block is let go of: its slice is pure data from now on. -/
theorem Ok.kill (h : Ok l H m S w) (k : Key) (hk : k.1 ≤ l) (hl : (H k).live = true) :
    Ok l (updH H k { H k with live := false }) m (fun b => S b ∨ (b = (m k).b ∧ (m k).cap ≠ 0)) w ∧ Ext l H m S w (updH H k { H k with live := false }) m (fun b => S b ∨ (b = (m k).b ∧ (m k).cap ≠ 0)) w := by
  have hext : Ext l H m S w (updH H k { H k with live := false }) m (fun b => S b ∨ (b = (m k).b ∧ (m k).cap ≠ 0)) w := by
    refine ⟨fun _ h => .inl h, fun _ _ => rfl, fun q hq => ?_, fun q hq hg hl' => ?_, rfl, rfl, rfl, Nat.le_refl _⟩
    · by_cases e : q = k
      · subst e; rw [updH_same]; exact Nat.le_refl _
      · rw [updH_ne _ _ e]; exact Nat.le_refl _
    · by_cases e : q = k
      · subst e; rw [updH_same] at hl'; cases hl'
      · rw [updH_ne _ _ e] at hl' ⊢; exact ⟨hl', rfl, rfl⟩
  have hne : ∀ q : Key, (updH H k { H k with live := false } q).live = true → q ≠ k ∧ (H q).live = true ∧ updH H k { H k with live := false } q = H q := fun q hq => by
    by_cases e : q = k
    · subst e; rw [updH_same] at hq; cases hq
    · rw [updH_ne _ _ e] at hq; exact ⟨e, hq, updH_ne _ _ e⟩
  refine ⟨⟨fun b hb => ?_, fun q hq hl' hz => ?_, fun q hq hl' hz => ?_, fun q q' hq hq' hl' hl'' hz hz' heq => ?_, fun q hq hl' hz => ?_⟩, hext⟩
  · rcases hb with hb | ⟨rfl, hc⟩
    · exact h.sub b hb
    · obtain ⟨C, hb, _⟩ := h.blk k hk hl hc
      rcases Nat.lt_or_ge (m k).b w.heap.size with hlt | hge
      · exact hlt
      · rw [Array.getElem?_eq_none hge] at hb; cases hb
  · obtain ⟨e, h1, h2⟩ := hne q hl'
    rw [h2]; exact h.empty q hq h1 hz
  · obtain ⟨e, h1, h2⟩ := hne q hl'
    rintro (hs | ⟨hb, hc⟩)
    · exact h.fresh q hq h1 hz hs
    · exact e (h.inj q k hq hk h1 hl hz hc hb)
  · obtain ⟨e, h1, h2⟩ := hne q hl'
    obtain ⟨e', h1', h2'⟩ := hne q' hl''
    exact h.inj q q' hq hq' h1 h1' hz hz' heq
  · obtain ⟨e, h1, h2⟩ := hne q hl'
    rw [h2]
    obtain ⟨C, hb, hs, hle, hx⟩ := h.blk q hq h1 hz
    exact ⟨C, hb, hs, hle, fun i x v hi hv => ⟨(hx i x v hi hv).1, (hx i x v hi hv).2.ext hext hq⟩⟩
end
end Go.Eng
