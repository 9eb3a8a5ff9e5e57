import Derived.Test.YthagpbkmakocjaaGreatCy01
import Derived.Maps.RangeRun
import Derived.Test.YthagpbkmakocjaaGreatCy03
import Derived.Test.YthagpbkmakocjaaGreatCy05
namespace Go.Eng
set_option linter.all false
open Go Go.RowKit
section
variable {P : Program} {l n : Nat} {H : Hp} {m : Mu} {S : Nat → Prop} {w w' : World} {s : Nat → AV} {a : Act}
theorem Ok.allocO (h : Ok l H m S w) (k : Key) (hk : k.1 ≤ l) (b : Blk) (hbe : b.e.isO = true) (hbc : b.cells = []) (hg : (H k).g < b.g) (o : Obj) (hw : w'.heap = w.heap.push o)
  (hE : Zv1 w' S w.heap.size b.e) (h1 : w'.os = w.os) (h2 : w'.tape = w.tape) (h3 : w'.output = w.output) :
  Ok l (updH H k b) (ZdC m k ⟨w.heap.size, 0, 0⟩) S w' ∧ Ext l H m S w (updH H k b) (ZdC m k ⟨w.heap.size, 0, 0⟩) S w' := by
 have hold : ∀ i, i < w.heap.size → w'.heap[i]? = w.heap[i]? := fun i hi => by rw [hw, Array.getElem?_push, if_neg (by omega)]
 have hext : Ext l H m S w (updH H k b) (ZdC m k ⟨w.heap.size, 0, 0⟩) S w' := by
  refine ⟨fun _ h => h, fun i hi => hold i (h.sub i hi), fun q hq => ?_, fun q hq hgq hl => ?_, h1, h2, h3, by rw [hw]; simp⟩
  ·by_cases e : q = k
   ·subst e; rw [Zab]; omega
   ·rw [Zae _ _ e]; exact Nat.le_refl _
  ·by_cases e : q = k
   ·subst e; rw [Zab] at hgq; omega
   ·rw [Zae _ _ e] at hl ⊢; rw [Zao _ _ e]; exact ⟨hl, rfl, rfl⟩
 have hlt : ∀ q : Key, q.1 ≤ l → (H q).live = true → (m q).cap ≠ 0 → (m q).b < w.heap.size := fun q hq hl hc' => by
  obtain ⟨C, hb, _⟩ := h.blk q hq hl hc'
  exact ZaT hb
 have hlo : ∀ q : Key, q.1 ≤ l → (H q).live = true → (H q).e.isO = true → (m q).b < w.heap.size := fun q hq hl hc' => by
  obtain ⟨C, hb, _⟩ := (h.mp.o q hq hl).at hc'
  exact ZaT hb
 refine ⟨⟨fun i hi => ?_, fun q hq hl hz => ?_, fun q hq hl hz => ?_, fun q q' hq hq' hl hl' hz hz' heq => ?_, fun q hq hl hz => ?_,
  ⟨fun q hq hl => ?_, fun q hq hl he => ?_, fun q q' hq hq' hl hl' he he' heq => ?_⟩⟩, hext⟩
 ·have := h.sub i hi; rw [hw]; simp; omega
 ·by_cases e : q = k
  ·subst e; rw [Zab]; exact hbc
  ·rw [Zae _ _ e] at hl ⊢; rw [Zao _ _ e] at hz; exact h.empty q hq hl hz
 ·by_cases e : q = k
  ·subst e; rw [Zah] at hz; exact absurd rfl hz
  ·rw [Zae _ _ e] at hl; rw [Zao _ _ e] at hz ⊢; exact h.fresh q hq hl hz
 ·by_cases e : q = k
  ·subst e; rw [Zah] at hz; exact absurd rfl hz
  ·by_cases e' : q' = k
   ·subst e'; rw [Zah] at hz'; exact absurd rfl hz'
   ·rw [Zao _ _ e, Zao _ _ e'] at heq
    rw [Zae _ _ e] at hl; rw [Zae _ _ e'] at hl'
    rw [Zao _ _ e] at hz; rw [Zao _ _ e'] at hz'
    exact h.inj q q' hq hq' hl hl' hz hz' heq
 ·by_cases e : q = k
  ·subst e; rw [Zah] at hz; exact absurd rfl hz
  ·rw [Zae _ _ e] at hl ⊢
   rw [Zao _ _ e] at hz ⊢
   obtain ⟨C, hb, hs, hle, hx⟩ := h.blk q hq hl hz
   refine ⟨C, by rw [hold _ (hlt q hq hl hz)]; exact hb, hs, hle, fun i x v hi hv => ?_⟩
   obtain ⟨g1, g2⟩ := hx i x v hi hv
   exact ⟨g1, g2.ext hext hq⟩
 ·by_cases e : q = k
  ·subst e; rw [Zab, Zah]; exact hE
  ·rw [Zae _ _ e] at hl ⊢; rw [Zao _ _ e]
   exact (h.mp.o q hq hl).mono (fun _ h => h) (fun i hi => hold i (h.sub i hi)) (fun ho => hold _ (hlo q hq hl ho))
 ·by_cases e : q = k
  ·subst e; rw [Zah]; exact ⟨⟨rfl, rfl⟩, fun hs => by have := h.sub _ hs; simp at this⟩
  ·rw [Zae _ _ e] at hl he; rw [Zao _ _ e]; exact h.mp.c q hq hl he
 ·by_cases e : q = k <;> by_cases e' : q' = k
  ·rw [e, e']
  ·subst e
   rw [Zah, Zao _ _ e'] at heq
   rw [Zae _ _ e'] at hl' he'
   have := hlo q' hq' hl' he'
   simp only at heq; omega
  ·subst e'
   rw [Zah, Zao _ _ e] at heq
   rw [Zae _ _ e] at hl he
   have := hlo q hq hl he
   simp only at heq; omega
  ·rw [Zao _ _ e, Zao _ _ e'] at heq
   rw [Zae _ _ e] at hl he; rw [Zae _ _ e'] at hl' he'
   exact h.mp.i q q' hq hq' hl hl' he he' heq
theorem Ok.writeO (h : Ok l H m S w) (k : Key) (hk : k.1 ≤ l) (hl : (H k).live = true) (hO : (H k).e.isO = true) (e' : EK) (he' : e'.isO = true) (o : Obj)
  (hw : ∀ b, w'.heap[b]? = if b = (m k).b then some o else w.heap[b]?) (hsz : w'.heap.size = w.heap.size) (hE : Zv1 w' S (m k).b e') (h1 : w'.os = w.os) (h2 : w'.tape = w.tape) (h3 : w'.output = w.output) :
  Ok l (updH H k { H k with e := e' }) m S w' ∧ Ext l H m S w (updH H k { H k with e := e' }) m S w' := by
 obtain ⟨c1, c2⟩ := h.mp.c k hk hl hO
 have hext : Ext l H m S w (updH H k { H k with e := e' }) m S w' := by
  refine ⟨fun _ h => h, fun b hb => ?_, fun q hq => ?_, fun q hq hg hl' => ?_, h1, h2, h3, by omega⟩
  ·rw [hw, if_neg]; rintro rfl; exact c2 hb
  ·by_cases e : q = k
   ·subst e; rw [Zab]; exact Nat.le_refl _
   ·rw [Zae _ _ e]; exact Nat.le_refl _
  ·by_cases e : q = k
   ·subst e; rw [Zab] at hl' ⊢; exact ⟨hl', rfl, rfl⟩
   ·rw [Zae _ _ e] at hl' ⊢; exact ⟨hl', rfl, rfl⟩
 have f : ∀ q : Key, (updH H k { H k with e := e' } q).live = (H q).live := fun q => by
  by_cases e : q = k
  ·subst e; rw [Zab]
  ·rw [Zae _ _ e]
 have g : ∀ q : Key, (H q).e.isO = (updH H k { H k with e := e' } q).e.isO := fun q => by
  by_cases e : q = k
  ·subst e; rw [Zab]; exact hO.trans he'.symm
  ·rw [Zae _ _ e]
 refine ⟨⟨fun b hb => ?_, fun q hq hl' hz => ?_, fun q hq hl' hz => ?_, fun q q' hq hq' hl' hl'' hz hz' heq => ?_, fun q hq hl' hz => ?_,
  ⟨fun q hq hl' => ?_, fun q hq hl' he => ?_, fun q q' hq hq' hl' hl'' he he' heq => ?_⟩⟩, hext⟩
 ·rw [hsz]; exact h.sub b hb
 ·rw [f] at hl'
  have := h.empty q hq hl' hz
  by_cases e : q = k
  ·subst e; rw [Zab]; exact this
  ·rw [Zae _ _ e]; exact this
 ·rw [f] at hl'; exact h.fresh q hq hl' hz
 ·rw [f] at hl' hl''; exact h.inj q q' hq hq' hl' hl'' hz hz' heq
 ·rw [f] at hl'
  by_cases e : q = k
  ·subst e; exact absurd c1.1 hz
  ·rw [Zae _ _ e]
   obtain ⟨C, hb, hs, hle, hx⟩ := h.blk q hq hl' hz
   have hne : (m q).b ≠ (m k).b := fun e2 => by
    obtain ⟨o', p1, p2⟩ := (h.mp.o k hk hl).at hO
    rw [e2, p1] at hb; cases hb; cases p2
   refine ⟨C, by rw [hw, if_neg hne]; exact hb, hs, hle, fun i x v hi hv => ?_⟩
   obtain ⟨g1, g2⟩ := hx i x v hi hv
   exact ⟨g1, g2.ext hext hq⟩
 ·rw [f] at hl'
  by_cases e : q = k
  ·subst e; rw [Zab]; exact hE
  ·rw [Zae _ _ e]
   refine (h.mp.o q hq hl').mono (fun _ h => h) hext.blk (fun ho => ?_)
   rw [hw, if_neg (fun e2 => e (h.mp.i q k hq hk hl' hl ho hO e2))]
 ·rw [f] at hl'; rw [← g] at he; exact h.mp.c q hq hl' he
 ·rw [f] at hl' hl''; rw [← g] at he he'; exact h.mp.i q q' hq hq' hl' hl'' he he' heq
theorem MEnt.mod {q : Bool} {es : List (List D)} {ents : Array MapEntry} {clock j : Nat} {s : ByteArray} {ds : List D} {x : MapEntry} {v : Value} (h : MEnt w S q es ents clock) (hx : ents[j]? = some x) (hv : VR w S q ds v) :
  MEnt w S q (es.set j (.str s :: ds)) (ents.modify j fun e => { e with key := .string s, val := v }) clock := by
 have at_ : ∀ (i : Nat) (y : MapEntry), (ents.modify j fun e => { e with key := .string s, val := v })[i]? = some y → ∃ z, ents[i]? = some z ∧ y = if j = i then { z with key := .string s, val := v } else z := fun i y hy => by
  rw [Array.getElem?_modify] at hy
  by_cases e : j = i
  ·rw [if_pos e] at hy
   obtain ⟨z, h1, h2⟩ := Option.map_eq_some_iff.1 hy
   exact ⟨z, h1, by rw [if_pos e]; exact h2.symm⟩
  ·rw [if_neg e] at hy; exact ⟨y, hy, by rw [if_neg e]⟩
 have brn : ∀ (i : Nat) (z : MapEntry), (if j = i then ({ z with key := .string s, val := v } : MapEntry) else z).born = z.born := fun i z => by split <;> rfl
 refine ⟨by simp [h.n], fun i k y z hy hz e => ?_, fun i y hy => ?_, fun i e y hi hy => ?_⟩
 ·obtain ⟨y', a1, rfl⟩ := at_ i y hy
  obtain ⟨z', b1, rfl⟩ := at_ k z hz
  rw [brn, brn] at e
  exact h.born i k _ _ a1 b1 e
 ·obtain ⟨y', a1, rfl⟩ := at_ i y hy
  rw [brn]; exact h.clk i _ a1
 ·obtain ⟨y', a1, rfl⟩ := at_ i y hy
  by_cases e2 : j = i
  ·subst e2
   rw [if_pos rfl]
   have hlt : j < es.length := by rw [← h.n]; exact ZaT a1
   rw [List.getElem?_set, if_pos rfl, if_pos hlt] at hi
   cases hi
   exact ⟨s, ds, rfl, rfl, hv⟩
  ·rw [if_neg e2]
   rw [List.getElem?_set, if_neg e2] at hi
   exact h.e i e _ hi a1
theorem MEnt.push {q : Bool} {es : List (List D)} {ents : Array MapEntry} {clock : Nat} {s : ByteArray} {ds : List D} {v : Value} (h : MEnt w S q es ents clock) (hv : VR w S q ds v) :
  MEnt w S q (es ++ [.str s :: ds]) (ents.push { key := .string s, val := v, born := clock }) (clock + 1) := by
 have at_ : ∀ (i : Nat) (y : MapEntry), (ents.push { key := .string s, val := v, born := clock })[i]? = some y → (i = ents.size ∧ y = { key := .string s, val := v, born := clock }) ∨ (i ≠ ents.size ∧ ents[i]? = some y) := fun i y hy => by
  rw [Array.getElem?_push] at hy
  by_cases e : i = ents.size
  ·rw [if_pos e] at hy; cases hy; exact .inl ⟨e, rfl⟩
  ·rw [if_neg e] at hy; exact .inr ⟨e, hy⟩
 refine ⟨by simp [h.n], fun i k y z hy hz e => ?_, fun i y hy => ?_, fun i e y hi hy => ?_⟩
 ·rcases at_ i y hy with ⟨rfl, rfl⟩ | ⟨a1, a2⟩ <;> rcases at_ k z hz with ⟨rfl, rfl⟩ | ⟨b1, b2⟩
  ·rfl
  ·have := h.clk k z b2; simp only at e; omega
  ·have := h.clk i y a2; simp only at e; omega
  ·exact h.born i k y z a2 b2 e
 ·rcases at_ i y hy with ⟨rfl, rfl⟩ | ⟨a1, a2⟩
  ·exact Nat.lt_succ_self _
  ·exact Nat.lt_succ_of_lt (h.clk i y a2)
 ·rcases at_ i y hy with ⟨rfl, rfl⟩ | ⟨a1, a2⟩
  ·rw [h.n, List.getElem?_append_right (Nat.le_refl _), Nat.sub_self] at hi
   cases hi
   exact ⟨s, ds, rfl, rfl, hv⟩
  ·have hlt : i < es.length := by rw [← h.n]; exact ZaT a2
   rw [List.getElem?_append_left hlt] at hi
   exact h.e i e y hi a2
theorem MEnt.del {q : Bool} {es : List (List D)} {ents : Array MapEntry} {clock j : Nat} (h : MEnt w S q es ents clock) (hj : j < ents.size) : MEnt w S q (es.eraseIdx j) (ents.eraseIdxIfInBounds j) clock := by
 have hto : (ents.eraseIdxIfInBounds j).toList = ents.toList.eraseIdx j := by
  unfold Array.eraseIdxIfInBounds
  rw [dif_pos hj, Array.toList_eraseIdx]
 have at_ : ∀ (i : Nat) (y : MapEntry), (ents.eraseIdxIfInBounds j)[i]? = some y → ents[if i < j then i else i + 1]? = some y := fun i y hy => by
  rw [← Array.getElem?_toList, hto, List.getElem?_eraseIdx] at hy
  split <;> simp_all
 have inj_ : ∀ i k : Nat, (if i < j then i else i + 1) = (if k < j then k else k + 1) → i = k := fun i k => by split <;> split <;> omega
 refine ⟨?_, fun i k y z hy hz e => inj_ i k (h.born _ _ _ _ (at_ i y hy) (at_ k z hz) e), fun i y hy => h.clk _ _ (at_ i y hy), fun i e y hi hy => ?_⟩
 ·have := congrArg List.length hto
  rw [Array.length_toList, List.length_eraseIdx, Array.length_toList, if_pos hj] at this
  rw [this, List.length_eraseIdx, if_pos (by rw [← h.n]; exact hj), h.n]
 ·refine h.e _ e y ?_ (at_ i y hy)
  rw [List.getElem?_eraseIdx] at hi
  split <;> simp_all
theorem Zd3 {α : Type} (f : α → Nat) (g : α → Bool) : ∀ (L : List α), (∀ (i j : Nat) (x y : α), L[i]? = some x → L[j]? = some y → f x = f y → i = j) → ∀ (i : Nat) (x : α), (L.filter g)[i]? = some x → L.filter (fun y => g y && !(f y == f x)) = (L.filter g).eraseIdx i
 | [], _, i, x, h => by simp at h
 | y :: L, hd, i, x, h => by
  have hd' : ∀ (i j : Nat) (x y : α), L[i]? = some x → L[j]? = some y → f x = f y → i = j := fun i j x z hi hj e => Nat.succ.inj (hd (i + 1) (j + 1) x z (by simpa using hi) (by simpa using hj) e)
  have hy : ∀ z ∈ L, f y ≠ f z := fun z hz e => by
   obtain ⟨j, hj⟩ := List.mem_iff_getElem?.1 hz
   have := hd 0 (j + 1) y z rfl (by simpa using hj) e
   omega
  by_cases hg : g y = true
  ·rw [List.filter_cons_of_pos hg] at h ⊢
   cases i with
   | zero =>
    simp only [List.getElem?_cons_zero, Option.some.injEq] at h
    subst h
    rw [List.filter_cons_of_neg (by simp), List.eraseIdx_cons_zero]
    apply List.filter_congr
    intro z hz
    have : f z ≠ f y := fun e => hy z hz e.symm
    simp [this]
   | succ i =>
    rw [List.getElem?_cons_succ] at h
    have hx : x ∈ L := (List.mem_filter.1 (List.mem_of_getElem? h)).1
    rw [List.filter_cons_of_pos (by simp [hg, hy x hx]), List.eraseIdx_cons_succ, Zd3 f g L hd' i x h]
  ·rw [List.filter_cons_of_neg hg] at h ⊢
   rw [List.filter_cons_of_neg (by simp [hg])]
   exact Zd3 f g L hd' i x h
end
end Go.Eng
namespace Go.Eng
set_option linter.all false
open Go Go.RowKit
section
variable {P : Program} {l n : Nat} {B : Base} {H H' : Hp} {m m' : Mu} {S S' : Nat → Prop} {w w' : World} {s : Nat → AV} {a : Act} {K : St → Prop} {o : Oper}
def ZzW : Bool → AV → Option (List D)
 | true, .agg xs => Zdf xs
 | false, x => (Zer x).map fun d => [d]
 | _, _ => none
theorem Zma {x : AV} {d : D} {v : Value} (h : Zer x = some d) (hx : RepA w S H m l x v) : RepD w S d v := by
 cases x <;> simp only [Zer] at h <;> try (cases h; done)
 case d x => cases h; cases hx with | d _ _ hd => exact hd
 case e0 => cases h; cases hx.e0_d with | d _ _ hd => exact hd
theorem Zja : ∀ (xs : List AV) (ds : List D) (vs : List Value), Zdf xs = some ds → xs.length = vs.length → (∀ (i : Nat) (x : AV) (v : Value), xs[i]? = some x → vs[i]? = some v → RepA w S H m l x v) → ds.length = vs.length ∧ ∀ (i : Nat) (d : D) (v : Value), ds[i]? = some d → vs[i]? = some v → RepD w S d v
 | [], ds, [], h, _, _ => by simp only [Zdf, Option.some.injEq] at h; subst h; exact ⟨rfl, fun i d v hi => by simp at hi⟩
 | x :: xs, ds, v :: vs, h, hl, hr => by
  simp only [Zdf] at h
  split at h
  ·rename_i d ds' h1 h2
   cases h
   obtain ⟨a1, a2⟩ := Zja xs ds' vs h2 (Nat.succ.inj hl) (fun i x v hx hv => hr (i + 1) x v (by simpa using hx) (by simpa using hv))
   refine ⟨by simp [a1], fun i d' u hi hu => ?_⟩
   cases i with
   | zero => cases hi; cases hu; exact Zma h1 (hr 0 x _ rfl rfl)
   | succ i => exact a2 i d' u (by simpa using hi) (by simpa using hu)
  ·cases h
 | [], _, _ :: _, _, h, _ => by cases h
 | _ :: _, _, [], _, h, _ => by cases h
theorem ZtD {q : Bool} {x : AV} {ds : List D} {v : Value} (h : ZzW q x = some ds) (hx : RepA w S H m l x v) : VR w S q ds v := by
 cases q with
 | true =>
  cases x <;> simp only [ZzW] at h <;> try (cases h; done)
  case agg xs =>
   cases hx with
   | agg _ vs hl h1 h2 =>
    obtain ⟨a1, a2⟩ := Zja xs ds vs.toList h (by simpa using hl) (fun i x v hx hv => h2 i x v hx (by simpa using hv))
    exact .inl ⟨rfl, vs, rfl, by simpa using a1.symm, fun j d u hd hu => a2 j d u hd (by simpa using hu)⟩
 | false =>
  have h : (Zer x).map (fun d => [d]) = some ds := by cases x <;> exact h
  obtain ⟨d, h1, rfl⟩ := Option.map_eq_some_iff.1 h
  exact .inr ⟨rfl, d, rfl, Zma h1 hx⟩
def ZKK (l n d : Nat) (e : EK) (x : Nat → AV) (K : St → Prop) (σ : St) : Prop :=
 d < n ∧ K ⟨upd σ.s d (x ((σ.H (l + 1, d)).g + 1)), updH σ.H (l + 1, d) ⟨(σ.H (l + 1, d)).g + 1, true, e, 0, []⟩⟩
theorem Zkn {t : TypeId} {rs : Option Operand} {d : Nat} {q : Bool} (ho : o.op = .makeMap t rs) (hd : o.dst = some d) (hu : ∃ k e, P.underlying t = some (.map k e)) (hr : ∀ x, rs = some x → ∃ k i, ev s x = .d (.int k i))
  (hK : ZKK l n d (.m q []) (fun g => .mp (l + 1, d) g) K ⟨s, H⟩) : AOp P l n B o K ⟨s, H⟩ := by
 intro a w hR Q
 obtain ⟨m, S, hO, hn, hdf, hS, he⟩ := hR.un
 obtain ⟨kt, et, hu⟩ := hu
 have hrun : (execOp a.eval o).run P w = .ok (.value (.map (some w.heap.size))) (w.alloc (.map #[] 0)) := by
  simp only [execOp, ho]
  cases rs with
  | none => simp [Instr.makeMap]
  | some x =>
   obtain ⟨k, i, hx⟩ := hr x rfl
   have hx' := ZbH hS x
   rw [hx] at hx'
   have hx2 : a.eval x = .int k i := by
    generalize a.eval x = v at hx'
    cases hx' with | d _ _ hd => cases hd; rfl
   simp [Instr.makeMap, run_underlying hu, asInt, asIntOf, hx2]
 obtain ⟨k1, k2⟩ := hO.allocO (l + 1, d) (Nat.le_refl _) ⟨(H (l + 1, d)).g + 1, true, .m q [], 0, []⟩ rfl rfl (Nat.lt_succ_self _) (.map #[] 0) (w' := w.alloc (.map #[] 0)) rfl
  ⟨#[], 0, by rw [ZeC, if_pos rfl], ⟨rfl, fun i j x y h => by simp at h, fun i x h => by simp at h, fun i e x h => by simp at h⟩⟩ rfl rfl rfl
 refine ZaO hrun ?_
 rw [hd]
 refine ⟨_, hK.2, R.step k1 hn hdf hS he k2 hK.1 ?_⟩
 have := RepA.mpL (w := w.alloc (.map #[] 0)) (S := S) (H := updH H (l + 1, d) ⟨(H (l + 1, d)).g + 1, true, .m q [], 0, []⟩) (m := ZdC m (l + 1, d) ⟨w.heap.size, 0, 0⟩) (l := l + 1) (l + 1, d) (Nat.le_refl _) (by rw [Zab])
 rw [Zab, Zah] at this
 exact this
theorem Zb3 {w : World} {r : Nat} {es0 : Array MapEntry} {c0 : Nat} (h : w.heap[r]? = some (.map es0 c0)) (o' : Obj) : (setObj r o').run P w = .ok () (ChangeMaps.setBlock w r o') := by
 simp [setObj, Sem.run, h, ChangeMaps.setBlock]
theorem Zbm {w : World} {r : Nat} {o1 : Obj} (h : w.heap[r]? = some o1) (o' : Obj) (b : Nat) : (ChangeMaps.setBlock w r o').heap[b]? = if b = r then some o' else w.heap[b]? := by
 have hlt := ZaT h
 simp only [ChangeMaps.setBlock, Array.getElem?_setIfInBounds]
 by_cases e : b = r
 ·subst e; simp [hlt]
 ·rw [if_neg e, if_neg (fun e2 => e e2.symm)]
theorem Zjn (a b : ByteArray) (h : a = b) : (Instr.keyThatStays (.string a) (.string b)).run P w = .ok (.string b) w := by
 subst h
 have : Instr.sameBits 10000 (.string a) (.string a) = true := by simp only [Instr.sameBits, ZkD, decide_true]
 simp [Instr.keyThatStays, this]
theorem Zq8 {t : TypeId} {q : Bool} {z : List D} {k : Key} {es : List (List D)} {sk : ByteArray} {ds : List D} {v : Value} (hT : ZuY P t = some (q, z)) (hO : Ok (l + 1) H m S w) (hk : k.1 ≤ l + 1) (hl : (H k).live = true) (he : (H k).e = .m q es) (hv : VR w S q ds v) :
  ∃ w', (Instr.mapUpdate t (.map (some (m k).b)) (.string sk) v).run P w = .ok () w' ∧ Ok (l + 1) (updH H k { H k with e := .m q (ZiQ sk ds es) }) m S w' ∧ Ext (l + 1) H m S w (updH H k { H k with e := .m q (ZiQ sk ds es) }) m S w' := by
 obtain ⟨kt, et, hu, hkt, _, _⟩ := Zg9 hT
 have ho := hO.mp.o k hk hl
 rw [he] at ho
 obtain ⟨ents, clock, h1, h2⟩ := ho
 have hIs : (H k).e.isO = true := by rw [he]; rfl
 obtain ⟨hc1, hc2⟩ := hO.mp.c k hk hl hIs
 have fin : ∀ (ents' : Array MapEntry) (clock' : Nat), MEnt w S q (ZiQ sk ds es) ents' clock' → Ok (l + 1) (updH H k { H k with e := .m q (ZiQ sk ds es) }) m S (ChangeMaps.setBlock w (m k).b (.map ents' clock')) ∧ Ext (l + 1) H m S w (updH H k { H k with e := .m q (ZiQ sk ds es) }) m S (ChangeMaps.setBlock w (m k).b (.map ents' clock')) := fun ents' clock' hm =>
  hO.writeO k hk hl hIs (.m q (ZiQ sk ds es)) rfl (.map ents' clock') (Zbm h1 _) (by simp [ChangeMaps.setBlock])
   ⟨ents', clock', by rw [Zbm h1]; simp, hm.mono (fun _ h => h) (fun b hb => by rw [Zbm h1, if_neg]; rintro rfl; exact hc2 hb)⟩ rfl rfl rfl
 rcases ZlL (w := w) (S := S) (q := q) (s := sk) es ents.toList 0 (by simp [h2.n]) (fun i e x hi hx => h2.e i e x hi (by simpa using hx)) with ⟨a1, a2, a3, _⟩ | ⟨j, x', ds', a1, a2, a3, a4, a5, a6, a7, a8⟩
 ·refine ⟨ChangeMaps.setBlock w (m k).b (.map (ents.push { key := .string sk, val := v, born := clock }) (clock + 1)), ?_, ?_⟩
  ·simp [Instr.mapUpdate, run_underlying hu, MapKept.run_getObj_map h1, MapKept.run_checkKey hkt (show MapKept.IsKey .string (.string sk) from trivial), MapKept.run_findKey hkt a2, Zb3 h1]
  ·rw [a3 ds] at fin ⊢
   exact fin _ _ (h2.push hv)
 ·have hj : ents[0 + j]? = some x' := by simpa using a2
  refine ⟨ChangeMaps.setBlock w (m k).b (.map (ents.modify (0 + j) fun e => { e with key := .string sk, val := v }) clock), ?_, ?_⟩
  ·simp [Instr.mapUpdate, run_underlying hu, MapKept.run_getObj_map h1, MapKept.run_checkKey hkt (show MapKept.IsKey .string (.string sk) from trivial), MapKept.run_findKey hkt a1, hj, a3, Zjn, Zb3 h1]
   simp only [Nat.zero_add] at hj
   simp [hj, a3, Zjn, Zb3 h1]
  ·rw [a6 ds] at fin ⊢
   simp only [Nat.zero_add] at hj ⊢
   exact fin _ _ (h2.mod hj hv)
theorem Zh6 {k : Key} {g : Nat} {v : Value} (h : RepA w S H m l (.mp k g) v) (hg : g = (H k).g) (hl : (H k).live = true) : k.1 ≤ l ∧ v = .map (some (m k).b) := by
 cases h with
 | mpL _ hk _ => exact ⟨hk, rfl⟩
 | mpD _ _ _ _ _ hd _ => rw [hd hg] at hl; cases hl
theorem Zj7 {t : TypeId} {mo ko xo : Operand} {k : Key} {g : Nat} {q : Bool} {z : List D} {es : List (List D)} {sk : ByteArray} {ds : List D} (ho : o.op = .mapUpdate t mo ko xo ∨ o.op = .insert t mo ko xo) (hd : o.dst = none) (hT : ZuY P t = some (q, z))
  (hm : ev s mo = .mp k g) (hg : g = (H k).g) (hl : (H k).live = true) (he : (H k).e = .m q es) (hk : ev s ko = .d (.str sk)) (hx : ZzW q (ev s xo) = some ds)
  (hK : K ⟨s, updH H k { H k with e := .m q (ZiQ sk ds es) }⟩) : AOp P l n B o K ⟨s, H⟩ := by
 intro a w hR Q
 obtain ⟨m, S, hO, hn, hdf, hS, hex⟩ := hR.un
 have hm' := ZbH hS mo
 rw [hm] at hm'
 obtain ⟨m1, m2⟩ := Zh6 hm' hg hl
 have hk' := ZbH hS ko
 rw [hk] at hk'
 have hk2 : a.eval ko = .string sk := by
  generalize a.eval ko = v at hk'
  cases hk' with | d _ _ hd => cases hd; rfl
 obtain ⟨w', r1, r2, r3⟩ := Zq8 (sk := sk) hT hO m1 hl he (ZtD hx (ZbH hS xo))
 have hrun : (execOp a.eval o).run P w = .ok .skip w' := by
  rcases ho with ho | ho <;> simp [execOp, ho, m2, hk2, r1]
 unfold Oper.wp
 rw [hrun]
 simp only [Oper.upon, hd, Act.put]
 exact ⟨_, hK, R.keep r2 hn hdf hS hex r3⟩
theorem Znn {t t' : TypeId} {mo ko : Operand} {k : Key} {g : Nat} {q : Bool} {z : List D} {es : List (List D)} {sk : ByteArray} (ho : o.op = .call ⟨.builtin .delete, #[mo, ko], #[t, t']⟩) (hd : o.dst = none) (hT : ZuY P t = some (q, z))
  (hm : ev s mo = .mp k g) (hg : g = (H k).g) (hl : (H k).live = true) (he : (H k).e = .m q es) (hk : ev s ko = .d (.str sk))
  (hK : K ⟨s, updH H k { H k with e := .m q (ZiR sk es) }⟩) : AOp P l n B o K ⟨s, H⟩ := by
 intro a w hR Q
 obtain ⟨m, S, hO, hn, hdf, hS, hex⟩ := hR.un
 have hm' := ZbH hS mo
 rw [hm] at hm'
 obtain ⟨m1, m2⟩ := Zh6 hm' hg hl
 have hk' := ZbH hS ko
 rw [hk] at hk'
 have hk2 : a.eval ko = .string sk := by
  generalize a.eval ko = v at hk'
  cases hk' with | d _ _ hd => cases hd; rfl
 obtain ⟨kt, et, hu, hkt, _, _⟩ := Zg9 hT
 have hob := hO.mp.o k m1 hl
 rw [he] at hob
 obtain ⟨ents, clock, h1, h2⟩ := hob
 have hIs : (H k).e.isO = true := by rw [he]; rfl
 obtain ⟨hc1, hc2⟩ := hO.mp.c k m1 hl hIs
 have fin : ∀ (ents' : Array MapEntry) (clock' : Nat), MEnt w S q (ZiR sk es) ents' clock' → Ok (l + 1) (updH H k { H k with e := .m q (ZiR sk es) }) m S (ChangeMaps.setBlock w (m k).b (.map ents' clock')) ∧ Ext (l + 1) H m S w (updH H k { H k with e := .m q (ZiR sk es) }) m S (ChangeMaps.setBlock w (m k).b (.map ents' clock')) := fun ents' clock' hm =>
  hO.writeO k m1 hl hIs (.m q (ZiR sk es)) rfl (.map ents' clock') (Zbm h1 _) (by simp [ChangeMaps.setBlock])
   ⟨ents', clock', by rw [Zbm h1]; simp, hm.mono (fun _ h => h) (fun b hb => by rw [Zbm h1, if_neg]; rintro rfl; exact hc2 hb)⟩ rfl rfl rfl
 have key : ∃ w', (execOp a.eval o).run P w = .ok (.value (.tuple #[])) w' ∧ Ok (l + 1) (updH H k { H k with e := .m q (ZiR sk es) }) m S w' ∧ Ext (l + 1) H m S w (updH H k { H k with e := .m q (ZiR sk es) }) m S w' := by
  rcases ZlL (w := w) (S := S) (q := q) (s := sk) es ents.toList 0 (by simp [h2.n]) (fun i e x hi hx => h2.e i e x hi (by simpa using hx)) with ⟨a1, a2, _, a4⟩ | ⟨j, x', ds', a1, a2, a3, a4, a5, a6, a7, a8⟩
  ·refine ⟨ChangeMaps.setBlock w (m k).b (.map ents clock), ?_, ?_⟩
   ·simp [execOp, ho, resolve, invoke, Go.builtin, m2, hk2, Builtin.delete_, run_underlying hu, MapKept.run_getObj_map h1, MapKept.run_checkKey hkt (show MapKept.IsKey .string (.string sk) from trivial), MapKept.run_findKey hkt a2, Zb3 h1]
   ·rw [a4] at fin ⊢
    exact fin _ _ h2
  ·have hj : j < ents.size := by
    rw [Array.getElem?_toList] at a2; exact ZaT a2
   refine ⟨ChangeMaps.setBlock w (m k).b (.map (ents.eraseIdxIfInBounds (0 + j)) clock), ?_, ?_⟩
   ·simp [execOp, ho, resolve, invoke, Go.builtin, m2, hk2, Builtin.delete_, run_underlying hu, MapKept.run_getObj_map h1, MapKept.run_checkKey hkt (show MapKept.IsKey .string (.string sk) from trivial), MapKept.run_findKey hkt a1, Zb3 h1]
   ·rw [a7] at fin ⊢
    simp only [Nat.zero_add]
    exact fin _ _ (h2.del hj)
 obtain ⟨w', r1, r2, r3⟩ := key
 refine ZaO r1 ?_
 rw [hd]
 exact ⟨_, hK, R.keep r2 hn hdf hS hex r3⟩
theorem ZoK {t : TypeId} {x : Operand} {d : Nat} {q : Bool} {es : List (List D)} (ho : o.op = .range t x) (hd : o.dst = some d) (hu : ∃ k e, P.underlying t = some (.map k e)) (hx : ev s x = .d (.map q es))
  (hK : ZKK l n d (.i q es none) (fun g => .ptr (l + 1, d) g 0) K ⟨s, H⟩) : AOp P l n B o K ⟨s, H⟩ := by
 intro a w hR Q
 obtain ⟨m, S, hO, hn, hdf, hS, he⟩ := hR.un
 obtain ⟨kt, et, hu⟩ := hu
 have hx' := ZbH hS x
 rw [hx] at hx'
 have key : ∃ ob, (execOp a.eval o).run P w = .ok (.value (.pointer (some ⟨w.heap.size, 0, none⟩))) (w.alloc ob) ∧ ZL7 (w.alloc ob) S w.heap.size q es none := by
  generalize hv : a.eval x = v at hx'
  cases hx' with
  | d _ _ hd =>
   cases v with
   | map r =>
    cases r with
    | none =>
     cases hd
     refine ⟨.mapIter none 0 #[] 0, ?_, .inl ⟨rfl, rfl, 0, #[], 0, by rw [ZeC, if_pos rfl]⟩⟩
     simp [execOp, ho, hv, Instr.range, run_underlying hu]
    | some r =>
     obtain ⟨hs, ents, clock, h1, h2⟩ := hd.toM
     refine ⟨.mapIter (some r) clock #[] clock, ?_, .inr ⟨r, ents, clock, es, #[], by rw [ZeC, if_pos rfl], hs, ?_, ?_, ?_, fun e h => by cases h⟩⟩
     ·simp [execOp, ho, hv, Instr.range, run_underlying hu, MapKept.run_getObj_map h1]
     ·rw [ZeC, if_neg (by have := ZaT h1; omega)]; exact h1
     ·exact h2.mono (fun _ h => h) (fun b hb => by rw [ZeC, if_neg (by have := hO.sub b hb; omega)])
     ·have : ((ents.toList.zip es).filter (fun p => !(#[] : Array Nat).contains p.1.born)) = ents.toList.zip es := by
       rw [List.filter_eq_self]; intro p _; simp
      rw [this, List.map_snd_zip]
      simp [h2.n]
   | _ => cases hd
 obtain ⟨ob, hrun, hI⟩ := key
 obtain ⟨k1, k2⟩ := hO.allocO (l + 1, d) (Nat.le_refl _) ⟨(H (l + 1, d)).g + 1, true, .i q es none, 0, []⟩ rfl rfl (Nat.lt_succ_self _) ob (w' := w.alloc ob) rfl hI rfl rfl rfl
 refine ZaO hrun ?_
 rw [hd]
 refine ⟨_, hK.2, R.step k1 hn hdf hS he k2 hK.1 ?_⟩
 have := RepA.ptrL (w := w.alloc ob) (S := S) (H := updH H (l + 1, d) ⟨(H (l + 1, d)).g + 1, true, .i q es none, 0, []⟩) (m := ZdC m (l + 1, d) ⟨w.heap.size, 0, 0⟩) (l := l + 1) (l + 1, d) 0 (Nat.le_refl _) (by rw [Zab])
 rw [Zab, Zah] at this
 exact this
def nxV (q : Bool) : List D → AV
 | .str k :: ds => .tup [.d (.bool true), .d (.str k), meA q ds]
 | _ => .top
theorem Zj2 {α β : Type} (f : α → β) : ∀ (L : List α) (i : Nat), (L.eraseIdx i).map f = (L.map f).eraseIdx i
 | [], i => by simp
 | x :: L, 0 => rfl
 | x :: L, i + 1 => by simp only [List.eraseIdx_cons_succ, List.map_cons, Zj2 f L i]
theorem Zk3 {α β : Type} {xs : List α} {ys : List β} {i : Nat} {p : α × β} (h : (xs.zip ys)[i]? = some p) : xs[i]? = some p.1 ∧ ys[i]? = some p.2 := by
 rw [List.getElem?_zip_eq_some] at h; exact h
theorem Ztb {x : Operand} {d : Nat} {k : Key} {g : Nat} {q : Bool} {rest : List (List D)} {cur : Option (List D)} (ho : o.op = .next x false) (hd : o.dst = some d) (hx : ev s x = .ptr k g 0) (hg : g = (H k).g) (hl : (H k).live = true) (he : (H k).e = .i q rest cur) (hdn : d < n)
  (h0 : rest = [] → K ⟨upd s d (.tup [.d (.bool false)]), H⟩)
  (h1 : ∀ (i : Nat) (e : List D), rest[i]? = some e → K ⟨upd s d (nxV q e), updH H k { H k with e := .i q (rest.eraseIdx i) (some e) }⟩) : AOp P l n B o K ⟨s, H⟩ := by
 intro a w hR Q
 obtain ⟨m, S, hO, hn, hdf, hS, hex⟩ := hR.un
 have hx' := ZbH hS x
 rw [hx] at hx'
 have hk : k.1 ≤ l + 1 ∧ a.eval x = .pointer (some ⟨(m k).b, (m k).o, none⟩) := by
  generalize a.eval x = v at hx'
  cases hx' with
  | ptrL _ _ hk _ => exact ⟨hk, by simp⟩
  | ptrD _ _ _ _ _ _ hd _ => rw [hd hg] at hl; cases hl
 obtain ⟨hk, hev⟩ := hk
 have hIs : (H k).e.isO = true := by rw [he]; rfl
 obtain ⟨⟨hc0, hc1⟩, hc2⟩ := hO.mp.c k hk hl hIs
 rw [hc1] at hev
 have hob := hO.mp.o k hk hl
 rw [he] at hob
 rcases hob with ⟨e1, e2, u1, u2, u3, e3⟩ | ⟨r, ents, clock, es, seen, b1, b2, b3, b4, b5, b6⟩
 ·refine ZaO (v := .tuple #[.bool false]) (w' := w) ?_ ?_
  ·simp [execOp, ho, hev, Instr.next, getObj, Sem.run, e3]
  ·rw [hd]
   exact ⟨_, h0 e1, R.step hO hn hdf hS hex (Ext.refl _ _ _ _ _) hdn (.tup _ _ rfl (fun i x v hx hv => by
    match i with
    | 0 => cases hx; cases hv; exact .d _ _ (.bool _)
    | i + 1 => simp at hx))⟩
 ·have hborn : ∀ (i j : Nat) (x y : MapEntry × List D), (ents.toList.zip es)[i]? = some x → (ents.toList.zip es)[j]? = some y → x.1.born = y.1.born → i = j := fun i j x y hx hy e =>
   b4.born i j x.1 y.1 (by simpa using (Zk3 hx).1) (by simpa using (Zk3 hy).1) e
  have hleft : ∀ e : MapEntry, e ∈ (leftOf ents seen).toList → ∃ (i : Nat) (d : List D), ((ents.toList.zip es).filter (fun p => !seen.contains p.1.born))[i]? = some (e, d) := fun e hm => by
   have hm : e ∈ ents.toList ∧ (!seen.contains e.born) = true := by simpa [leftOf] using hm
   obtain ⟨j, hj⟩ := List.mem_iff_getElem?.1 hm.1
   have hlt : j < es.length := by rw [← b4.n]; rw [Array.getElem?_toList] at hj; exact ZaT hj
   have hz : (e, es[j]) ∈ ents.toList.zip es := List.mem_iff_getElem?.2 ⟨j, List.getElem?_zip_eq_some.2 ⟨hj, List.getElem?_eq_getElem hlt⟩⟩
   obtain ⟨i, hi⟩ := List.mem_iff_getElem?.1 ((List.mem_filter (p := fun p : MapEntry × List D => !seen.contains p.1.born)).2 ⟨hz, hm.2⟩)
   exact ⟨i, _, hi⟩
  rcases run_next_at (P := P) w o.type (m k).b r clock clock seen ents clock b1 b3 (fun x hx => by
    obtain ⟨i, hi⟩ := List.mem_iff_getElem?.1 hx
    exact b4.clk i x (by simpa using hi)) (Nat.le_refl _) with ⟨c1, c2⟩ | ⟨e, c1, w1, c2, c3⟩
  ·have hrest : rest = [] := by
    rw [b5, List.map_eq_nil_iff, List.filter_eq_nil_iff]
    intro p hp hb
    obtain ⟨i, hi⟩ := List.mem_iff_getElem?.1 hp
    have : p.1 ∈ (leftOf ents seen).toList := by
     simp only [leftOf, Array.toList_filter, List.mem_filter]
     exact ⟨List.mem_of_getElem? (Zk3 hi).1, by simpa using hb⟩
    rw [Array.mem_toList_iff] at this
    rw [Array.eq_empty_of_size_eq_zero c1] at this
    simp at this
   refine ZaO (v := .tuple #[.bool false]) (w' := w) ?_ ?_
   ·simp [execOp, ho, hev, c2]
   ·rw [hd]
    exact ⟨_, h0 hrest, R.step hO hn hdf hS hex (Ext.refl _ _ _ _ _) hdn (.tup _ _ rfl (fun i x v hx hv => by
     match i with
     | 0 => cases hx; cases hv; exact .d _ _ (.bool _)
     | i + 1 => simp at hx))⟩
  ·obtain ⟨i, d', hi⟩ := hleft e c1
   have hzip := List.mem_filter.1 (List.mem_of_getElem? hi)
   obtain ⟨j, hj⟩ := List.mem_iff_getElem?.1 hzip.1
   obtain ⟨hj1, hj2⟩ := Zk3 hj
   simp only [Array.getElem?_toList] at hj1 hj2
   obtain ⟨sk, ds, q1, q2, q3⟩ := b4.e j _ _ hj2 hj1
   subst q1
   have hri : rest[i]? = some (.str sk :: ds) := by rw [b5, List.getElem?_map, hi]; rfl
   have hre : rest.eraseIdx i = ((ents.toList.zip es).filter (fun p => !(seen.push e.born).contains p.1.born)).map (·.2) := by
    rw [b5]
    have := Zd3 (fun p : MapEntry × List D => p.1.born) (fun p => !seen.contains p.1.born) (ents.toList.zip es) hborn i _ hi
    rw [← Zj2, ← this]
    congr 1
    apply List.filter_congr
    intro p _
    simp only [Array.contains_push, Bool.not_or]
   have hw1 : w1.heap = w.heap ∧ w1.os = w.os ∧ w1.tape = w.tape ∧ w1.output = w.output := by rcases c2 with rfl | rfl <;> exact ⟨rfl, rfl, rfl, rfl⟩
   have hO1 := hO.drew (w' := w1) hw1.1 hw1.2.1 hw1.2.2.1 hw1.2.2.2
   have b1' : w1.heap[(m k).b]? = some (.mapIter (some r) clock seen clock) := by rw [hw1.1]; exact b1
   obtain ⟨k1, k2⟩ := hO1.1.writeO k hk hl hIs (.i q (rest.eraseIdx i) (some (.str sk :: ds))) rfl (.mapIter (some r) clock (seen.push e.born) clock) (w' := ChangeMaps.setBlock w1 (m k).b (.mapIter (some r) clock (seen.push e.born) clock))
    (Zbm b1' _) (by simp [ChangeMaps.setBlock]) (.inr ⟨r, ents, clock, es, seen.push e.born, by rw [Zbm b1']; simp, b2, by rw [Zbm b1', if_neg (by rintro rfl; exact hc2 b2), hw1.1]; exact b3,
     b4.mono (fun _ h => h) (fun b hb => by rw [Zbm b1', if_neg (by rintro rfl; exact hc2 hb), hw1.1]), hre, fun e' he' => by cases he'; exact ⟨j, e, hj2, hj1, by simp⟩⟩) rfl rfl rfl
   have hext := hO1.2.trans k2
   refine ZaO (v := .tuple #[.bool true, e.key, e.val]) (w' := ChangeMaps.setBlock w1 (m k).b (.mapIter (some r) clock (seen.push e.born) clock)) ?_ ?_
   ·simp [execOp, ho, hev, c3]
   ·rw [hd]
    refine ⟨_, h1 i _ hri, R.step k1 hn hdf hS hex hext hdn ?_⟩
    simp only [nxV]
    refine .tup _ _ rfl (fun i x v hx hv => ?_)
    match i with
    | 0 => cases hx; cases hv; exact .d _ _ (.bool _)
    | 1 => cases hx; cases hv; rw [q2]; exact .d _ _ (.str _)
    | 2 => cases hx; cases hv; exact Zh5 (q3.mono hext.s hext.blk)
    | i + 3 => simp at hx
theorem ZpU {x : Operand} {d : Nat} {k : Key} {g : Nat} {q : Bool} {rest : List (List D)} {sk : ByteArray} {ds : List D} (ho : o.op = .entry x) (hd : o.dst = some d) (hx : ev s x = .ptr k g 0) (hg : g = (H k).g) (hl : (H k).live = true) (he : (H k).e = .i q rest (some (.str sk :: ds))) (hdn : d < n)
  (hK : K ⟨upd s d (.tup [.d (.str sk), meA q ds]), updH H k { H k with e := .i q rest none }⟩) : AOp P l n B o K ⟨s, H⟩ := by
 intro a w hR Q
 obtain ⟨m, S, hO, hn, hdf, hS, hex⟩ := hR.un
 have hx' := ZbH hS x
 rw [hx] at hx'
 have hk : k.1 ≤ l + 1 ∧ a.eval x = .pointer (some ⟨(m k).b, (m k).o, none⟩) := by
  generalize a.eval x = v at hx'
  cases hx' with
  | ptrL _ _ hk _ => exact ⟨hk, by simp⟩
  | ptrD _ _ _ _ _ _ hd _ => rw [hd hg] at hl; cases hl
 obtain ⟨hk, hev⟩ := hk
 have hIs : (H k).e.isO = true := by rw [he]; rfl
 obtain ⟨⟨hc0, hc1⟩, hc2⟩ := hO.mp.c k hk hl hIs
 rw [hc1] at hev
 have hob := hO.mp.o k hk hl
 rw [he] at hob
 rcases hob with ⟨e1, e2, _⟩ | ⟨r, ents, clock, es, seen, b1, b2, b3, b4, b5, b6⟩
 ·cases e2
 ·obtain ⟨i, x', c1, c2, c3⟩ := b6 _ rfl
  obtain ⟨sk', ds', q1, q2, q3⟩ := b4.e i _ _ c1 c2
  cases q1
  have hfind : ents.find? (fun y => y.born == x'.born) = some x' := by
   rw [← Array.find?_toList]
   refine find_born x' ents.toList ?_ (by rw [← Array.getElem?_toList] at c2; exact List.mem_of_getElem? c2)
   rw [List.nodup_iff_pairwise_ne, List.pairwise_iff_getElem]
   intro i j hi hj hij e
   rw [List.length_map] at hi hj
   have hu := List.getElem?_eq_getElem hi
   have hv := List.getElem?_eq_getElem hj
   rw [Array.getElem?_toList] at hu hv
   have := b4.born i j _ _ hu hv (by simpa using e)
   omega
  have hsame : ∀ b, w.heap[b]? = if b = (m k).b then some (.mapIter (some r) clock seen clock) else w.heap[b]? := fun b => by
   split
   ·rename_i e; rw [e]; exact b1
   ·rfl
  obtain ⟨k1, k2⟩ := hO.writeO k hk hl hIs (.i q rest none) rfl (.mapIter (some r) clock seen clock) (w' := w) hsame rfl (.inr ⟨r, ents, clock, es, seen, b1, b2, b3, b4, b5, fun e' he' => by cases he'⟩) rfl rfl rfl
  refine ZaO (v := .tuple #[x'.key, x'.val]) (w' := w) ?_ ?_
  ·simp [execOp, ho, hev, Instr.entry, getObj, Sem.run, b1, b3, c3, hfind]
  ·rw [hd]
   refine ⟨_, hK, R.step k1 hn hdf hS hex k2 hdn (.tup _ _ rfl (fun i x v hx hv => ?_))⟩
   match i with
   | 0 => cases hx; cases hv; rw [q2]; exact .d _ _ (.str _)
   | 1 => cases hx; cases hv; exact Zh5 (q3.mono k2.s k2.blk)
   | i + 2 => simp at hx
end
end Go.Eng
namespace Go.Eng
set_option linter.all false
open Go Go.RowKit
def ZK6 (x : EK) (e : Nat) : Bool :=
 match x with
 | .t e' => Nat.beq e' e
 | _ => false
theorem ZAa {x : EK} {e : Nat} (h : ZK6 x e = true) : x = .t e := by
 cases x with
 | t e' => rw [Nat.eq_of_beq_eq_true (show Nat.beq e' e = true from h)]
 | _ => cases h
def Zeu (a b : Key) : Bool := Nat.beq a.1 b.1 && Nat.beq a.2 b.2
def AV.onef : AV → Bool
 | .top | .agg _ | .tup _ | .fn _ _ _ => false
 | _ => true
def Zof (sz : Nat) (C : List AV) (y : AV) (c : Nat) (news : List AV) : Prop :=
 news.all AV.onef = true ∧ match y with
 | .e0 => c = 0 ∧ news = []
 | .d (.list es) => (∀ e ∈ es, e.length = sz) ∧ c = es.length ∧ news = es.flatten.map .d
 | .ref _ _ off n => c = n ∧ (off + n) * sz ≤ C.length ∧ news = (C.drop (off * sz)).take (n * sz)
 | _ => False
def ZCk (C : List AV) (off c' c sz byt : Nat) (news C' : List AV) (n' : Nat) : Prop := (off + c') * sz = C.length ∧ C.drop (off * sz) ++ news = C' ∧ c' + c = n' ∧ n' * byt ≤ 140737488355328
def ZCT (c byt : Nat) : Prop := c * byt ≤ 140737488355328
def WrS (r : Ren) (k : Key) : Prop := k.1 = 0 ∧ r.no (r.κ k)
def ZG7 (r : Ren) (k : Key) (vs : List AV) : Prop := (Zas r vs).all (AV.low (r.κ k).1) = true
def wrK (r : Ren) (k : Key) (vs : List AV) (A : Prop) : Prop :=
 match Nat.beq k.1 1 with
 | true => A
 | false => WrS r k ∧ ZG7 r k vs ∧ A
def StS (C : List AV) (off : Nat) (vs C' : List AV) : Prop := off + vs.length ≤ C.length ∧ C.take off ++ vs ++ C.drop (off + vs.length) = C'
def Zu3 (n d : Nat) (e : TypeId) (sz : Nat) (cells : List AV) (x : Nat → AV) (K : St → AT → Prop) (τ : St) (a : AT) : Prop :=
 match Nat.ble (d + 1) n with
 | true => K ⟨upd τ.s d (x ((τ.H (1, d)).g + 1)), updH τ.H (1, d) ⟨(τ.H (1, d)).g + 1, true, e, sz, cells⟩⟩ a
 | false => False
def cellsOf (H : Hp) : AV → List AV
 | .ref k g _ _ => match ZbZ H k g with | true => (H k).cells | false => []
 | _ => []
def ZuV (H : Hp) (sz : Nat) : AV → Bool
 | .ref k g _ _ => ZbZ H k g && Nat.beq (H k).sz sz
 | _ => true
def ZJH (T : Nat → Option TI) (r : Ren) (n d : Nat) (t : TypeId) (x y : AV) (a : AT) (K : St → AT → Prop) (τ : St) : Prop :=
 match T t with
 | some i => match i.elm with
  | some (e, sz) => match T e, Nat.ble 1 sz, ZuV τ.H sz y with
   | some j, true, true => (match j.byt, j.zer, x, a with
    | some byt, some _, .e0, .nat c (.cs news b) => Zof sz (cellsOf τ.H y) y c news ∧ ZCT c byt ∧ Zu3 n d e sz news (fun g => .ref (1, d) g 0 c) K τ b
    | some byt, some _, .ref k q off c', .nat c (.cs news (.cs C' (.nat n' b))) => (match ZbZ τ.H k q, Nat.beq (τ.H k).sz sz, ZK6 (τ.H k).e e, Nat.ble (d + 1) n with
     | true, true, true, true => Zof sz (cellsOf τ.H y) y c news ∧ ZCk (τ.H k).cells off c' c sz byt news C' n' ∧ wrK r k news (K ⟨upd τ.s d (.ref k (q + 1) 0 n'), updH τ.H k ⟨q + 1, true, e, sz, C'⟩⟩ b)
     | _, _, _, _ => False)
    | _, _, _, _ => False)
   | _, _, _ => False
  | none => False
 | none => False
def Zi7 (r : Ren) (n : Nat) (i : TI) (x : AV) (vs : Option (List AV)) (a : AT) (K : St → AT → Prop) (τ : St) : Prop :=
 match x, vs with
 | .ptr k q off, some vs => match ZbZ τ.H k q, Nat.beq vs.length i.siz, Nat.ble 1 vs.length with
  | true, true, true => (match a with
   | .go b => (match Nat.ble (off + vs.length) (τ.H k).cells.length with
    | true => wrK r k vs (K ⟨τ.s, updH τ.H k ⟨q, true, (τ.H k).e, (τ.H k).sz, (τ.H k).cells.take off ++ vs ++ (τ.H k).cells.drop (off + vs.length)⟩⟩ b)
    | false => False)
   | .cs C' b => StS (τ.H k).cells off vs C' ∧ wrK r k vs (K ⟨τ.s, updH τ.H k ⟨q, true, (τ.H k).e, (τ.H k).sz, C'⟩⟩ b)
   | _ => False)
  | _, _, _ => False
 | _, _ => False
def MkS (c c' : Int) (byt m : Nat) (z C : List AV) : Prop := c = (m : Int) ∧ c ≤ c' ∧ (byt : Int) * c' ≤ 140737488355328 ∧ (List.replicate m z).flatten = C
def ZBz (P : Program) (T : Nat → Option TI) (l n : Nat) (r : Ren) (o : Oper) (a : AT) (K : St → AT → Prop) (τ : St) : Prop :=
 match o.op with
 | .alloc t => match o.dst, T t with
  | some d, some i => (match i.zer with | some (z :: zs) => Zu3 n d t (zs.length + 1) (z :: zs) (fun g => .ptr (1, d) g 0) K τ a | _ => False)
  | _, _ => False
 | .box t x => match o.dst, Zbs (ev τ.s x), ZCu (ev τ.s x) with
  | some d, some (z :: zs), true => Zu3 n d t (zs.length + 1) (z :: zs) (fun g => .ptr (1, d) g 0) K τ a
  | _, _, _ => False
 | .store t p x => match o.dst, T t, ZCu (ev τ.s x) with
  | none, some i, true => Zi7 r n i (ev τ.s p) (Zbs (ev τ.s x)) a K τ
  | _, _, _ => False
 | .buildSlice t len parts => match o.dst, T t with
  | some d, some i => (match i.elm with
   | some (e, sz) => (match Nat.ble 1 sz, len with
    | true, 0 => (match parts.toList with | [] => Zoo n d K τ .e0 a | _ => False)
    | true, len + 1 => (match T e, Nat.ble ((len + 1) * sz) 16777216 with
     | some j, true => (match j.zer with
      | some z => (match Nat.beq z.length sz, ZqN sz 0 (parts.toList.map fun p => (p.1, ev τ.s p.2)) with
       | true, some es => (match Nat.beq es.length (len + 1) with | true => Zoo n d K τ (.d (.list es)) a | false => False)
       | _, _ => False)
      | none => False)
     | _, _ => False)
    | _, _ => False)
   | none => False)
  | _, _ => False
 | .makeSlice t x y => match o.dst, T t, ev τ.s x, ev τ.s y, a with
  | some d, some i, .d (.int _ c), .d (.int _ c'), .nat m (.cs C b) => (match i.elm with
   | some (e, sz) => (match T e, Nat.ble 1 sz with
    | some j, true => (match j.zer, j.byt with
     | some z, some byt => (match Nat.beq z.length sz with
      | true => MkS c c' byt m z C ∧ Zu3 n d e sz C (fun g => .ref (1, d) g 0 m) K τ b
      | false => False)
     | _, _ => False)
    | _, _ => False)
   | none => False)
  | _, _, _, _, _ => False
 | .call c => match c.callee with
  | .builtin .append => (match o.dst, c.args.toList, c.argTypes.toList with
   | some d, [x, y], [t, t'] => (match Nat.beq t t' with | true => ZJH T r n d t (ev τ.s x) (ev τ.s y) a K τ | false => False)
   | _, _, _ => False)
  | _ => (match o.dst with | some d => pV P T l r τ o.op none a (Zoo n d K τ) | none => False)
 | _ => match o.dst with | some d => pV P T l r τ o.op none a (Zoo n d K τ) | none => False
def ZIN (n : Nat) (K : St → AT → Prop) (s : Nat → AV) (H : Hp) (v : AV) (b : AT) : Option Nat → Prop
 | some d => match Nat.ble (d + 1) n with | true => K ⟨upd s d v, H⟩ b | false => False
 | none => K ⟨s, H⟩ b
def ZEA (T : Nat → Option TI) (r : Ren) (n : Nat) (dst : Option Nat) (t t' : Nat) (x y : AV) (a : AT) (K : St → AT → Prop) (τ : St) : Prop :=
 match T t, T t' with
 | some i, some i' => match i.elm, i'.elm with
  | some (e, sz), some (e', sz') => match Nat.beq e e', Nat.beq sz sz', T e, Nat.ble 1 sz, ZuV τ.H sz y with
   | true, true, some j, true, true => (match j.zer, x, a with
    | some _, .ref k q off cn, .nat c (.cs news (.cs C' b)) => (match ZbZ τ.H k q, Nat.beq (τ.H k).sz sz with
     | true, true => Zof sz (cellsOf τ.H y) y c news ∧ c ≤ cn ∧ StS (τ.H k).cells (off * sz) news C' ∧ wrK r k news (ZIN n K τ.s (updH τ.H k ⟨q, true, (τ.H k).e, (τ.H k).sz, C'⟩) (.d (.int .i64 c)) b dst)
     | _, _ => False)
    | _, _, _ => False)
   | _, _, _, _, _ => False
  | _, _ => False
 | _, _ => False
def ZKo (C : List AV) (off cn sz : Nat) (z C' : List AV) : Prop := (off + cn) * sz ≤ C.length ∧ C.take (off * sz) ++ (List.replicate cn z).flatten ++ C.drop ((off + cn) * sz) = C'
def ZvH (T : Nat → Option TI) (r : Ren) (t : Nat) (x : AV) (a : AT) (K : St → AT → Prop) (τ : St) : Prop :=
 match T t with
 | some i => match i.elm with
  | some (e, sz) => match T e, Nat.ble 1 sz with
   | some j, true => (match j.zer, x, a with
    | some z, .ref k q off cn, .cs C' b => (match ZbZ τ.H k q, Nat.beq (τ.H k).sz sz, Nat.beq z.length sz with
     | true, true, true => ZKo (τ.H k).cells off cn sz z C' ∧ wrK r k z (K ⟨τ.s, updH τ.H k ⟨q, true, (τ.H k).e, (τ.H k).sz, C'⟩⟩ b)
     | _, _, _ => False)
    | _, _, _ => False)
   | _, _ => False
  | none => False
 | none => False
def Zvl (P : Program) (T : Nat → Option TI) (l n : Nat) (r : Ren) (o : Oper) (a : AT) (K : St → AT → Prop) (τ : St) : Prop :=
 match o.op with
 | .call c => (match c.callee with
  | .builtin .copy => (match c.args.toList, c.argTypes.toList with | [x, y], [t, t'] => ZEA T r n o.dst t t' (ev τ.s x) (ev τ.s y) a K τ | _, _ => False)
  | .builtin .clear => (match c.args.toList, c.argTypes.toList, o.dst with | [x], [t], none => ZvH T r t (ev τ.s x) a K τ | _, _, _ => False)
  | _ => ZBz P T l n r o a K τ)
 | _ => ZBz P T l n r o a K τ
def Zwn (T : Nat → Option TI) (n : Nat) (dst : Option Nat) (t len : Nat) (vs : List (Nat × AV)) (a : AT) (K : St → AT → Prop) (τ : St) : Prop :=
 match dst, T t with
 | some d, some i => (match i.elm with
  | some (e, sz) => (match T e, Nat.ble 1 sz, Nat.ble ((len + 1) * sz) 16777216 with
   | some j, true, true => (match j.zer with
    | some z => (match Nat.beq z.length sz, ZdV (fun i => some (i * sz, sz)) (List.replicate (len + 1) z).flatten vs, vs.all (fun p => p.2.flat) with
     | true, some cs, true => (match cs.all AV.flat with | true => Zu3 n d e sz cs (fun g => .ref (1, d) g 0 (len + 1)) K τ a | false => False)
     | _, _, _ => False)
    | none => False)
   | _, _, _ => False)
  | none => False)
 | _, _ => False
def Zvr (P : Program) (T : Nat → Option TI) (l n : Nat) (r : Ren) (o : Oper) (a : AT) (K : St → AT → Prop) (τ : St) : Prop :=
 match o.op with
 | .buildSlice t (len + 1) parts => (match a with
  | .go b => Zwn T n o.dst t len (parts.toList.map fun p => (p.1, ev τ.s p.2)) b K τ
  | .sep b => Zvl P T l n r o b K τ
  | a => Zvl P T l n r o a K τ)
 | _ => Zvl P T l n r o a K τ
def ZrE (n d : Nat) (e : EK) (x : Nat → AV) (K : St → AT → Prop) (τ : St) (a : AT) : Prop :=
 match Nat.ble (d + 1) n with
 | true => K ⟨upd τ.s d (x ((τ.H (1, d)).g + 1)), updH τ.H (1, d) ⟨(τ.H (1, d)).g + 1, true, e, 0, []⟩⟩ a
 | false => False
def ZMw (s : Nat → AV) : Option Operand → Bool
 | none => true
 | some x => match ev s x with | .d (.int _ _) => true | _ => false
def ZMp (s : ByteArray) (ds : List D) (es es' : List (List D)) : Prop := ZiQ s ds es = es'
def ZLu (s : ByteArray) (es es' : List (List D)) : Prop := ZiR s es = es'
def ZOj (rest : List (List D)) (i : Nat) (e : List D) (es : List (List D)) : Prop := rest[i]? = some e ∧ rest.eraseIdx i = es
def pMs (T : Nat → Option TI) (r : Ren) (dst : Option Nat) (t : Nat) (x y z : AV) (a : AT) (K : St → AT → Prop) (τ : St) : Prop :=
 match dst, T t, x, y with
 | none, some i, .mp k g, .d (.str s) => (match i.mp, ZbZ τ.H k g, (τ.H k).e with
  | some (q, _), true, .m q' es => (match bqB q q', ZzW q z, a with
   | true, some ds, .ents es' b => ZMp s ds es es' ∧ wrK r k [] (K ⟨τ.s, updH τ.H k ⟨g, true, .m q es', (τ.H k).sz, (τ.H k).cells⟩⟩ b)
   | _, _, _ => False)
  | _, _, _ => False)
 | _, _, _, _ => False
def pMd (T : Nat → Option TI) (r : Ren) (dst : Option Nat) (t : Nat) (x y : AV) (a : AT) (K : St → AT → Prop) (τ : St) : Prop :=
 match dst, T t, x, y with
 | none, some i, .mp k g, .d (.str s) => (match i.mp, ZbZ τ.H k g, (τ.H k).e with
  | some (q, _), true, .m q' es => (match bqB q q', a with
   | true, .ents es' b => ZLu s es es' ∧ wrK r k [] (K ⟨τ.s, updH τ.H k ⟨g, true, .m q es', (τ.H k).sz, (τ.H k).cells⟩⟩ b)
   | _, _ => False)
  | _, _, _ => False)
 | _, _, _, _ => False
def pNx (n d : Nat) (k : Key) (g : Nat) (q : Bool) (rest : List (List D)) (a : AT) (K : St → AT → Prop) (τ : St) : Prop :=
 match Nat.ble (d + 1) n, a with
 | true, .all a0 f => (rest = [] → K ⟨upd τ.s d (.tup [.d (.bool false)]), τ.H⟩ a0) ∧ ∀ i, i < rest.length → (match f i with
  | .ds (.str s :: ds) (.ents es b) => ZOj rest i (.str s :: ds) es ∧ K ⟨upd τ.s d (.tup [.d (.bool true), .d (.str s), meA q ds]), updH τ.H k ⟨g, true, .i q es (some (.str s :: ds)), (τ.H k).sz, (τ.H k).cells⟩⟩ b
  | _ => False)
 | _, _ => False
def Zzc (P : Program) (T : Nat → Option TI) (l n : Nat) (r : Ren) (o : Oper) (a : AT) (K : St → AT → Prop) (τ : St) : Prop :=
 match o.op with
 | .makeMap t rs => (match o.dst, T t, ZMw τ.s rs with
  | some d, some i, true => (match i.mp with | some (q, _) => ZrE n d (.m q []) (fun g => .mp (1, d) g) K τ a | none => False)
  | _, _, _ => False)
 | .mapUpdate t x y z => pMs T r o.dst t (ev τ.s x) (ev τ.s y) (ev τ.s z) a K τ
 | .insert t x y z => pMs T r o.dst t (ev τ.s x) (ev τ.s y) (ev τ.s z) a K τ
 | .range t x => (match o.dst, T t, ev τ.s x with
  | some d, some i, .d (.map q es) => (match i.mp with | some _ => ZrE n d (.i q es none) (fun g => .ptr (1, d) g 0) K τ a | none => False)
  | _, _, _ => False)
 | .next x false => (match o.dst, ev τ.s x with
  | some d, .ptr k g 0 => (match Nat.beq k.1 1, ZbZ τ.H k g, (τ.H k).e with
   | true, true, .i q rest _ => pNx n d k g q rest a K τ
   | _, _, _ => False)
  | _, _ => False)
 | .entry x => (match o.dst, ev τ.s x with
  | some d, .ptr k g 0 => (match Nat.beq k.1 1, ZbZ τ.H k g, (τ.H k).e, Nat.ble (d + 1) n with
   | true, true, .i q rest (some (.str s :: ds)), true => K ⟨upd τ.s d (.tup [.d (.str s), meA q ds]), updH τ.H k ⟨g, true, .i q rest none, (τ.H k).sz, (τ.H k).cells⟩⟩ a
   | _, _, _, _ => False)
  | _, _ => False)
 | .call c => (match c.callee with
  | .builtin .delete => (match c.args.toList, c.argTypes.toList with | [x, y], [t, _] => pMd T r o.dst t (ev τ.s x) (ev τ.s y) a K τ | _, _ => False)
  | _ => Zvr P T l n r o a K τ)
 | _ => Zvr P T l n r o a K τ
def Zes (env : Env) : Option Nat → Env
 | some d => (d, []) :: env
 | none => env
def ZdW (env : Env) : Option Nat → Bool
 | some d => fresh d env
 | none => true
def Zkd (P : Program) (T : Nat → Option TI) (l n : Nat) (r : Ren) (ds : List (Option Nat)) : List Oper → Env → AT → (St → Env → AT → Prop) → St → Prop
 | [], env, a, K, τ => K τ env a
 | o :: rest, env, a, K, τ => match o.guard with
  | none => (match ZcH env [] o.op, ZdW env o.dst with
   | true, true => Zzc P T l n r o a (fun τ' a' => Zkd P T l n r ds rest (Zes env o.dst) a' K τ') τ
   | _, _ => False)
  | some (i, b) => (match nth ds i, o.dst with
   | some (some d), some e => (match ZeQ τ.s ((d, b) :: lk env d), ZcH env ((d, b) :: lk env d) o.op, fresh e env && Zq6 e ((d, b) :: lk env d), Nat.ble (e + 1) n with
    | some g, true, true, true => pV P T l r τ o.op (some g) a (fun v a' => Zkd P T l n r ds rest ((e, (d, b) :: lk env d) :: env) a' K ⟨upd τ.s e v, τ.H⟩)
    | _, _, _, _ => False)
   | _, _ => False)
end Go.Eng
