import Derived.Test.YthhipejbnbochaaCs01
import Derived.Maps.RangeRun
import Derived.Test.YthhipejbnbochaaCs03
import Derived.Test.YthhipejbnbochaaCs05
import Derived.Test.YthhipejbnbochaaCs00
namespace Go.Eng
set_option linter.all false
open Go Go.RowKit
section
variable {P : Program} {l n : Nat} {H : Hp} {m : Mu} {S : Nat → Prop} {w w' : World} {s : Nat → AV} {a : Act}
theorem Ok.allocO (h : Ok l H m S w) (k : Key) (hk : k.1 ≤ l) (b : Blk) (hbe : b.e.isO = true) (hbc : b.cells = []) (hg : (H k).g < b.g) (o : Obj) (hw : w'.heap = w.heap.push o)
  (hE : ZqT w' S w.heap.size b.e) (h1 : w'.os = w.os) (h2 : w'.tape = w.tape) (h3 : w'.output = w.output) :
  Ok l (updH H k b) (Zb2 m k ⟨w.heap.size, 0, 0⟩) S w' ∧ Ext l H m S w (updH H k b) (Zb2 m k ⟨w.heap.size, 0, 0⟩) S w' := by
 have hold : ∀ i, i < w.heap.size → w'.heap[i]? = w.heap[i]? := fun i hi => by rw [hw, Yan, if_neg (by omega)]
 have hext : Ext l H m S w (updH H k b) (Zb2 m k ⟨w.heap.size, 0, 0⟩) S w' := by
  refine ⟨fun _ h => h, fun i hi => hold i (h.sub i hi), fun q hq => ?_, fun q hq hgq hl => ?_, h1, h2, h3, by rw [hw]; simp⟩
  ·by_cases e : q = k
   ·subst e; rw [Zaa]; omega
   ·rw [Zab _ _ e]; exact Yg _
  ·by_cases e : q = k
   ·subst e; rw [Zaa] at hgq; omega
   ·rw [Zab _ _ e] at hl ⊢; rw [Zae _ _ e]; exact ⟨hl, rfl, rfl⟩
 have hlt : ∀ q : Key, q.1 ≤ l → (H q).live = true → (m q).cap ≠ 0 → (m q).b < w.heap.size := fun q hq hl hc' => by
  obtain ⟨C, hb, _⟩ := h.blk q hq hl hc'
  grind
 have hlo : ∀ q : Key, q.1 ≤ l → (H q).live = true → (H q).e.isO = true → (m q).b < w.heap.size := fun q hq hl hc' => by
  obtain ⟨C, hb, _⟩ := (h.mp.o q hq hl).at hc'
  grind
 refine ⟨⟨fun i hi => ?_, fun q hq hl hz => ?_, fun q hq hl hz => ?_, fun q q' hq hq' hl hl' hz hz' heq => ?_, fun q hq hl hz => ?_,
  ⟨fun q hq hl => ?_, fun q hq hl he => ?_, fun q q' hq hq' hl hl' he he' heq => ?_⟩⟩, hext⟩
 ·have := h.sub i hi; rw [hw]; simp; omega
 ·by_cases e : q = k
  ·subst e; rw [Zaa]; exact hbc
  ·rw [Zab _ _ e] at hl ⊢; rw [Zae _ _ e] at hz; exact h.empty q hq hl hz
 ·by_cases e : q = k
  ·subst e; rw [Zac] at hz; exact absurd rfl hz
  ·rw [Zab _ _ e] at hl; rw [Zae _ _ e] at hz ⊢; exact h.fresh q hq hl hz
 ·by_cases e : q = k
  ·subst e; rw [Zac] at hz; exact absurd rfl hz
  ·by_cases e' : q' = k
   ·subst e'; rw [Zac] at hz'; exact absurd rfl hz'
   ·rw [Zae _ _ e, Zae _ _ e'] at heq
    rw [Zab _ _ e] at hl; rw [Zab _ _ e'] at hl'
    rw [Zae _ _ e] at hz; rw [Zae _ _ e'] at hz'
    exact h.inj q q' hq hq' hl hl' hz hz' heq
 ·by_cases e : q = k
  ·subst e; rw [Zac] at hz; exact absurd rfl hz
  ·rw [Zab _ _ e] at hl ⊢
   rw [Zae _ _ e] at hz ⊢
   obtain ⟨C, hb, hs, hle, hx⟩ := h.blk q hq hl hz
   refine ⟨C, by rw [hold _ (hlt q hq hl hz)]; exact hb, hs, hle, fun i x v hi hv => ?_⟩
   obtain ⟨g1, g2⟩ := hx i x v hi hv
   exact ⟨g1, g2.ext hext hq⟩
 ·by_cases e : q = k
  ·subst e; rw [Zaa, Zac]; exact hE
  ·rw [Zab _ _ e] at hl ⊢; rw [Zae _ _ e]
   exact (h.mp.o q hq hl).mono (fun _ h => h) (fun i hi => hold i (h.sub i hi)) (fun ho => hold _ (hlo q hq hl ho))
 ·by_cases e : q = k
  ·subst e; rw [Zac]; exact ⟨⟨rfl, rfl⟩, fun hs => by have := h.sub _ hs; simp at this⟩
  ·rw [Zab _ _ e] at hl he; rw [Zae _ _ e]; exact h.mp.c q hq hl he
 ·by_cases e : q = k <;> by_cases e' : q' = k
  ·grind
  ·subst e
   rw [Zac, Zae _ _ e'] at heq
   rw [Zab _ _ e'] at hl' he'
   grind
  ·subst e'
   rw [Zac, Zae _ _ e] at heq
   rw [Zab _ _ e] at hl he
   grind
  ·rw [Zae _ _ e, Zae _ _ e'] at heq
   rw [Zab _ _ e] at hl he; rw [Zab _ _ e'] at hl' he'
   exact h.mp.i q q' hq hq' hl hl' he he' heq
theorem Ok.writeO (h : Ok l H m S w) (k : Key) (hk : k.1 ≤ l) (hl : (H k).live = true) (hO : (H k).e.isO = true) (e' : EK) (he' : e'.isO = true) (o : Obj)
  (hw : ∀ b, w'.heap[b]? = if b = (m k).b then some o else w.heap[b]?) (hsz : w'.heap.size = w.heap.size) (hE : ZqT w' S (m k).b e') (h1 : w'.os = w.os) (h2 : w'.tape = w.tape) (h3 : w'.output = w.output) :
  Ok l (updH H k { H k with e := e' }) m S w' ∧ Ext l H m S w (updH H k { H k with e := e' }) m S w' := by
 obtain ⟨c1, c2⟩ := h.mp.c k hk hl hO
 have hext : Ext l H m S w (updH H k { H k with e := e' }) m S w' := by
  refine ⟨fun _ h => h, fun b hb => ?_, fun q hq => ?_, fun q hq hg hl' => ?_, h1, h2, h3, by omega⟩
  ·grind
  ·by_cases e : q = k
   ·subst e; rw [Zaa]; exact Yg _
   ·rw [Zab _ _ e]; exact Yg _
  ·by_cases e : q = k
   ·subst e; rw [Zaa] at hl' ⊢; exact ⟨hl', rfl, rfl⟩
   ·rw [Zab _ _ e] at hl' ⊢; exact ⟨hl', rfl, rfl⟩
 have f : ∀ q : Key, (updH H k { H k with e := e' } q).live = (H q).live := fun q => by
  by_cases e : q = k
  ·subst e; rw [Zaa]
  ·rw [Zab _ _ e]
 have g : ∀ q : Key, (H q).e.isO = (updH H k { H k with e := e' } q).e.isO := fun q => by
  by_cases e : q = k
  ·subst e; rw [Zaa]; exact hO.trans he'.symm
  ·rw [Zab _ _ e]
 refine ⟨⟨fun b hb => ?_, fun q hq hl' hz => ?_, fun q hq hl' hz => ?_, fun q q' hq hq' hl' hl'' hz hz' heq => ?_, fun q hq hl' hz => ?_,
  ⟨fun q hq hl' => ?_, fun q hq hl' he => ?_, fun q q' hq hq' hl' hl'' he he' heq => ?_⟩⟩, hext⟩
 ·rw [hsz]; exact h.sub b hb
 ·rw [f] at hl'
  have := h.empty q hq hl' hz
  by_cases e : q = k
  ·subst e; rw [Zaa]; exact this
  ·rw [Zab _ _ e]; exact this
 ·rw [f] at hl'; exact h.fresh q hq hl' hz
 ·rw [f] at hl' hl''; exact h.inj q q' hq hq' hl' hl'' hz hz' heq
 ·rw [f] at hl'
  by_cases e : q = k
  ·grind
  ·rw [Zab _ _ e]
   obtain ⟨C, hb, hs, hle, hx⟩ := h.blk q hq hl' hz
   have hne : (m q).b ≠ (m k).b := fun e2 => by
    obtain ⟨o', p1, p2⟩ := (h.mp.o k hk hl).at hO
    rw [e2, p1] at hb; cases hb; cases p2
   refine ⟨C, by rw [hw, if_neg hne]; exact hb, hs, hle, fun i x v hi hv => ?_⟩
   obtain ⟨g1, g2⟩ := hx i x v hi hv
   exact ⟨g1, g2.ext hext hq⟩
 ·rw [f] at hl'
  by_cases e : q = k
  ·subst e; rw [Zaa]; exact hE
  ·rw [Zab _ _ e]
   refine (h.mp.o q hq hl').mono (fun _ h => h) hext.blk (fun ho => ?_)
   rw [hw, if_neg (fun e2 => e (h.mp.i q k hq hk hl' hl ho hO e2))]
 ·rw [f] at hl'; rw [← g] at he; exact h.mp.c q hq hl' he
 ·rw [f] at hl' hl''; rw [← g] at he he'; exact h.mp.i q q' hq hq' hl' hl'' he he' heq
theorem MEnt.mod {q : Bool} {es : List (List D)} {ents : Array MapEntry} {clock j : Nat} {s : ByteArray} {ds : List D} {x : MapEntry} {v : Value} (h : MEnt w S q es ents clock) (hx : ents[j]? = some x) (hv : VR w S q ds v) :
  MEnt w S q (es.set j (.str s :: ds)) (ents.modify j fun e => { e with key := .string s, val := v }) clock := by
 have at_ : ∀ (i : Nat) (y : MapEntry), (ents.modify j fun e => { e with key := .string s, val := v })[i]? = some y → ∃ z, ents[i]? = some z ∧ y = if j = i then { z with key := .string s, val := v } else z := fun i y hy => by
  grind
 have brn : ∀ (i : Nat) (z : MapEntry), (if j = i then ({ z with key := .string s, val := v } : MapEntry) else z).born = z.born := fun i z => by split <;> rfl
 refine ⟨by simp [h.n], fun i k y z hy hz e => ?_, fun i y hy => ?_, fun i e y hi hy => ?_⟩
 ·obtain ⟨y', a1, rfl⟩ := at_ i y hy
  obtain ⟨z', b1, rfl⟩ := at_ k z hz
  rw [brn, brn] at e
  exact h.born i k _ _ a1 b1 e
 ·obtain ⟨y', a1, rfl⟩ := at_ i y hy
  rw [brn]; exact h.clk i _ a1
 ·obtain ⟨y', a1, rfl⟩ := at_ i y hy
  by_cases e2 : j = i
  ·subst e2
   rw [if_pos rfl]
   have hlt : j < es.length := by rw [← h.n]; exact Zbc a1
   rw [Yaw, if_pos rfl, if_pos hlt] at hi
   cases hi
   exact ⟨s, ds, rfl, rfl, hv⟩
  ·rw [if_neg e2]
   rw [Yaw, if_neg e2] at hi
   exact h.e i e _ hi a1
theorem MEnt.push {q : Bool} {es : List (List D)} {ents : Array MapEntry} {clock : Nat} {s : ByteArray} {ds : List D} {v : Value} (h : MEnt w S q es ents clock) (hv : VR w S q ds v) :
  MEnt w S q (es ++ [.str s :: ds]) (ents.push { key := .string s, val := v, born := clock }) (clock + 1) := by
 have at_ : ∀ (i : Nat) (y : MapEntry), (ents.push { key := .string s, val := v, born := clock })[i]? = some y → (i = ents.size ∧ y = { key := .string s, val := v, born := clock }) ∨ (i ≠ ents.size ∧ ents[i]? = some y) := fun i y hy => by
  grind
 refine ⟨by simp [h.n], fun i k y z hy hz e => ?_, fun i y hy => ?_, fun i e y hi hy => ?_⟩
 ·rcases at_ i y hy with ⟨rfl, rfl⟩ | ⟨a1, a2⟩ <;> rcases at_ k z hz with ⟨rfl, rfl⟩ | ⟨b1, b2⟩
  ·rfl
  ·have := h.clk k z b2; simp only at e; omega
  ·have := h.clk i y a2; simp only at e; omega
  ·exact h.born i k y z a2 b2 e
 ·rcases at_ i y hy with ⟨rfl, rfl⟩ | ⟨a1, a2⟩
  ·grind
  ·exact Nat.lt_succ_of_lt (h.clk i y a2)
 ·rcases at_ i y hy with ⟨rfl, rfl⟩ | ⟨a1, a2⟩
  ·rw [h.n, Yp (Yg _), YbL] at hi
   cases hi
   exact ⟨s, ds, rfl, rfl, hv⟩
  ·have hlt : i < es.length := by rw [← h.n]; exact Zbc a2
   rw [Yi hlt] at hi
   exact h.e i e y hi a2
theorem MEnt.del {q : Bool} {es : List (List D)} {ents : Array MapEntry} {clock j : Nat} (h : MEnt w S q es ents clock) (hj : j < ents.size) : MEnt w S q (es.eraseIdx j) (ents.eraseIdxIfInBounds j) clock := by
 have hto : (ents.eraseIdxIfInBounds j).toList = ents.toList.eraseIdx j := by
  unfold Array.eraseIdxIfInBounds
  rw [dif_pos hj, Array.toList_eraseIdx]
 have at_ : ∀ (i : Nat) (y : MapEntry), (ents.eraseIdxIfInBounds j)[i]? = some y → ents[if i < j then i else i + 1]? = some y := fun i y hy => by
  grind
 have inj_ : ∀ i k : Nat, (if i < j then i else i + 1) = (if k < j then k else k + 1) → i = k := fun i k => by split <;> split <;> omega
 refine ⟨?_, fun i k y z hy hz e => inj_ i k (h.born _ _ _ _ (at_ i y hy) (at_ k z hz) e), fun i y hy => h.clk _ _ (at_ i y hy), fun i e y hi hy => ?_⟩
 ·have := congrArg List.length hto
  rw [Y3, List.length_eraseIdx, Y3, if_pos hj] at this
  rw [this, List.length_eraseIdx, if_pos (by rw [← h.n]; exact hj), h.n]
 ·refine h.e _ e y ?_ (at_ i y hy)
  grind
theorem ZcQ {α : Type} (f : α → Nat) (g : α → Bool) : ∀ (L : List α), (∀ (i j : Nat) (x y : α), L[i]? = some x → L[j]? = some y → f x = f y → i = j) → ∀ (i : Nat) (x : α), (L.filter g)[i]? = some x → L.filter (fun y => g y && !(f y == f x)) = (L.filter g).eraseIdx i
 | [], _, i, x, h => by simp at h
 | y :: L, hd, i, x, h => by
  have hd' : ∀ (i j : Nat) (x y : α), L[i]? = some x → L[j]? = some y → f x = f y → i = j := fun i j x z hi hj e => Ya6 (hd (i + 1) (j + 1) x z (by simpa using hi) (by simpa using hj) e)
  have hy : ∀ z ∈ L, f y ≠ f z := fun z hz e => by
   obtain ⟨j, hj⟩ := Yx.1 hz
   have := hd 0 (j + 1) y z rfl (by simpa using hj) e
   omega
  by_cases hg : g y = true
  ·rw [Yby hg] at h ⊢
   cases i with
   | zero =>
    simp only [YO, Ye] at h
    subst h
    rw [YaR (by simp), List.eraseIdx_cons_zero]
    apply List.filter_congr
    grind
   | succ i =>
    rw [YV] at h
    have hx : x ∈ L := (YJ.1 (Ym h)).1
    rw [Yby (by simp [hg, hy x hx]), YaQ, ZcQ f g L hd' i x h]
  ·rw [YaR hg] at h ⊢
   rw [YaR (by simp [hg])]
   exact ZcQ f g L hd' i x h
end
end Go.Eng
namespace Go.Eng
set_option linter.all false
open Go Go.RowKit
section
variable {P : Program} {l n : Nat} {B : Base} {H H' : Hp} {m m' : Mu} {S S' : Nat → Prop} {w w' : World} {s : Nat → AV} {a : Act} {K : St → Prop} {o : Oper}
def Zq8 : Bool → AV → Option (List D)
 | true, .agg xs => Zcm xs
 | false, x => (Zde x).map fun d => [d]
 | _, _ => none
theorem ZiV {x : AV} {d : D} {v : Value} (h : Zde x = some d) (hx : RepA w S H m l x v) : RepD w S d v := by
 cases x <;> simp only [Zde] at h <;> try (cases h; done)
 case d x => cases h; cases hx with | d _ _ hd => exact hd
 case e0 => cases h; cases hx.e0_d with | d _ _ hd => exact hd
theorem Zhw : ∀ (xs : List AV) (ds : List D) (vs : List Value), Zcm xs = some ds → xs.length = vs.length → (∀ (i : Nat) (x : AV) (v : Value), xs[i]? = some x → vs[i]? = some v → RepA w S H m l x v) → ds.length = vs.length ∧ ∀ (i : Nat) (d : D) (v : Value), ds[i]? = some d → vs[i]? = some v → RepD w S d v
 | [], ds, [], h, _, _ => by simp only [Zcm, Ye] at h; subst h; exact ⟨rfl, fun i d v hi => by simp at hi⟩
 | x :: xs, ds, v :: vs, h, hl, hr => by
  simp only [Zcm] at h
  split at h
  ·rename_i d ds' h1 h2
   cases h
   obtain ⟨a1, a2⟩ := Zhw xs ds' vs h2 (Ya6 hl) (fun i x v hx hv => hr (i + 1) x v (by simpa using hx) (by simpa using hv))
   refine ⟨by simp [a1], fun i d' u hi hu => ?_⟩
   cases i with
   | zero => cases hi; cases hu; exact ZiV h1 (hr 0 x _ rfl rfl)
   | succ i => exact a2 i d' u (by simpa using hi) (by simpa using hu)
  ·cases h
 | [], _, _ :: _, _, h, _ => by cases h
 | _ :: _, _, [], _, h, _ => by cases h
theorem ZoZ {q : Bool} {x : AV} {ds : List D} {v : Value} (h : Zq8 q x = some ds) (hx : RepA w S H m l x v) : VR w S q ds v := by
 cases q with
 | true =>
  cases x <;> simp only [Zq8] at h <;> try (cases h; done)
  case agg xs =>
   cases hx with
   | agg _ vs hl h1 h2 =>
    obtain ⟨a1, a2⟩ := Zhw xs ds vs.toList h (by simpa using hl) (fun i x v hx hv => h2 i x v hx (by simpa using hv))
    exact .inl ⟨rfl, vs, rfl, by simpa using a1.symm, fun j d u hd hu => a2 j d u hd (by simpa using hu)⟩
 | false =>
  have h : (Zde x).map (fun d => [d]) = some ds := by cases x <;> exact h
  obtain ⟨d, h1, rfl⟩ := YZ.1 h
  exact .inr ⟨rfl, d, rfl, ZiV h1 hx⟩
def ZxZ (l n d : Nat) (e : EK) (x : Nat → AV) (K : St → Prop) (σ : St) : Prop :=
 d < n ∧ K ⟨upd σ.s d (x ((σ.H (l + 1, d)).g + 1)), updH σ.H (l + 1, d) ⟨(σ.H (l + 1, d)).g + 1, true, e, 0, []⟩⟩
theorem Zh7 {t : TypeId} {rs : Option Operand} {d : Nat} {q : Bool} (ho : o.op = .makeMap t rs) (hd : o.dst = some d) (hu : ∃ k e, P.underlying t = some (.map k e)) (hr : ∀ x, rs = some x → ∃ k i, ev s x = .d (.int k i))
  (hK : ZxZ l n d (.m q []) (fun g => .mp (l + 1, d) g) K ⟨s, H⟩) : AOp P l n B o K ⟨s, H⟩ := by
 intro a w hR Q
 obtain ⟨m, S, hO, hn, hdf, hS, he⟩ := hR.un
 obtain ⟨kt, et, hu⟩ := hu
 have hrun : (execOp a.eval o).run P w = .ok (.value (.map (some w.heap.size))) (w.alloc (.map #[] 0)) := by
  simp only [execOp, ho]
  cases rs with
  | none => simp [Instr.makeMap]
  | some x =>
   obtain ⟨k, i, hx⟩ := hr x rfl
   have hx' := Za9 hS x
   rw [hx] at hx'
   have hx2 : a.eval x = .int k i := by
    generalize a.eval x = v at hx'
    cases hx' with | d _ _ hd => cases hd; rfl
   simp [Instr.makeMap, run_underlying hu, asInt, asIntOf, hx2]
 obtain ⟨k1, k2⟩ := hO.allocO (l + 1, d) (Yg _) ⟨(H (l + 1, d)).g + 1, true, .m q [], 0, []⟩ rfl rfl (Y0 _) (.map #[] 0) (w' := w.alloc (.map #[] 0)) rfl
  ⟨#[], 0, by rw [Zdv, if_pos rfl], ⟨rfl, fun i j x y h => by simp at h, fun i x h => by simp at h, fun i e x h => by simp at h⟩⟩ rfl rfl rfl
 refine ZaB hrun ?_
 rw [hd]
 refine ⟨_, hK.2, R.step k1 hn hdf hS he k2 hK.1 ?_⟩
 have := RepA.mpL (w := w.alloc (.map #[] 0)) (S := S) (H := updH H (l + 1, d) ⟨(H (l + 1, d)).g + 1, true, .m q [], 0, []⟩) (m := Zb2 m (l + 1, d) ⟨w.heap.size, 0, 0⟩) (l := l + 1) (l + 1, d) (Yg _) (by rw [Zaa])
 rw [Zaa, Zac] at this
 exact this
theorem Zbq {w : World} {r : Nat} {es0 : Array MapEntry} {c0 : Nat} (h : w.heap[r]? = some (.map es0 c0)) (o' : Obj) : (setObj r o').run P w = .ok () (ChangeMaps.setBlock w r o') := by
 simp [setObj, Sem.run, h, ChangeMaps.setBlock]
theorem ZaV {w : World} {r : Nat} {o1 : Obj} (h : w.heap[r]? = some o1) (o' : Obj) (b : Nat) : (ChangeMaps.setBlock w r o').heap[b]? = if b = r then some o' else w.heap[b]? := by
 have hlt := Zbc h
 simp only [ChangeMaps.setBlock, Yac]
 grind
theorem Zhi (a b : ByteArray) (h : a = b) : (Instr.keyThatStays (.string a) (.string b)).run P w = .ok (.string b) w := by
 subst h
 have : Instr.sameBits 10000 (.string a) (.string a) = true := by simp only [Instr.sameBits, Ziq, decide_true]
 simp [Instr.keyThatStays, this]
theorem Znk {t : TypeId} {q : Bool} {z : List D} {k : Key} {es : List (List D)} {sk : ByteArray} {ds : List D} {v : Value} (hT : ZqG P t = some (q, z)) (hO : Ok (l + 1) H m S w) (hk : k.1 ≤ l + 1) (hl : (H k).live = true) (he : (H k).e = .m q es) (hv : VR w S q ds v) :
  ∃ w', (Instr.mapUpdate t (.map (some (m k).b)) (.string sk) v).run P w = .ok () w' ∧ Ok (l + 1) (updH H k { H k with e := .m q (ZgU sk ds es) }) m S w' ∧ Ext (l + 1) H m S w (updH H k { H k with e := .m q (ZgU sk ds es) }) m S w' := by
 obtain ⟨kt, et, hu, hkt, _, _⟩ := Zey hT
 have ho := hO.mp.o k hk hl
 rw [he] at ho
 obtain ⟨ents, clock, h1, h2⟩ := ho
 have hIs : (H k).e.isO = true := by rw [he]; rfl
 obtain ⟨hc1, hc2⟩ := hO.mp.c k hk hl hIs
 have fin : ∀ (ents' : Array MapEntry) (clock' : Nat), MEnt w S q (ZgU sk ds es) ents' clock' → Ok (l + 1) (updH H k { H k with e := .m q (ZgU sk ds es) }) m S (ChangeMaps.setBlock w (m k).b (.map ents' clock')) ∧ Ext (l + 1) H m S w (updH H k { H k with e := .m q (ZgU sk ds es) }) m S (ChangeMaps.setBlock w (m k).b (.map ents' clock')) := fun ents' clock' hm =>
  hO.writeO k hk hl hIs (.m q (ZgU sk ds es)) rfl (.map ents' clock') (ZaV h1 _) (by simp [ChangeMaps.setBlock])
   ⟨ents', clock', by rw [ZaV h1]; simp, hm.mono (fun _ h => h) (fun b hb => by rw [ZaV h1, if_neg]; rintro rfl; exact hc2 hb)⟩ rfl rfl rfl
 rcases ZiT (w := w) (S := S) (q := q) (s := sk) es ents.toList 0 (by simp [h2.n]) (fun i e x hi hx => h2.e i e x hi (by simpa using hx)) with ⟨a1, a2, a3, _⟩ | ⟨j, x', ds', a1, a2, a3, a4, a5, a6, a7, a8⟩
 ·refine ⟨ChangeMaps.setBlock w (m k).b (.map (ents.push { key := .string sk, val := v, born := clock }) (clock + 1)), ?_, ?_⟩
  ·simp [Instr.mapUpdate, run_underlying hu, MapKept.run_getObj_map h1, MapKept.run_checkKey hkt (show MapKept.IsKey .string (.string sk) from trivial), MapKept.run_findKey hkt a2, Zbq h1]
  ·rw [a3 ds] at fin ⊢
   exact fin _ _ (h2.push hv)
 ·have hj : ents[0 + j]? = some x' := by simpa using a2
  refine ⟨ChangeMaps.setBlock w (m k).b (.map (ents.modify (0 + j) fun e => { e with key := .string sk, val := v }) clock), ?_, ?_⟩
  ·simp [Instr.mapUpdate, run_underlying hu, MapKept.run_getObj_map h1, MapKept.run_checkKey hkt (show MapKept.IsKey .string (.string sk) from trivial), MapKept.run_findKey hkt a1, hj, a3, Zhi, Zbq h1]
   simp only [Yy] at hj
   simp [hj, a3, Zhi, Zbq h1]
  ·rw [a6 ds] at fin ⊢
   simp only [Yy] at hj ⊢
   exact fin _ _ (h2.mod hj hv)
theorem Zfb {k : Key} {g : Nat} {v : Value} (h : RepA w S H m l (.mp k g) v) (hg : g = (H k).g) (hl : (H k).live = true) : k.1 ≤ l ∧ v = .map (some (m k).b) := by
 cases h with
 | mpL _ hk _ => exact ⟨hk, rfl⟩
 | mpD _ _ _ _ _ hd _ => rw [hd hg] at hl; cases hl
theorem Zhy {t : TypeId} {mo ko xo : Operand} {k : Key} {g : Nat} {q : Bool} {z : List D} {es : List (List D)} {sk : ByteArray} {ds : List D} (ho : o.op = .mapUpdate t mo ko xo ∨ o.op = .insert t mo ko xo) (hd : o.dst = none) (hT : ZqG P t = some (q, z))
  (hm : ev s mo = .mp k g) (hg : g = (H k).g) (hl : (H k).live = true) (he : (H k).e = .m q es) (hk : ev s ko = .d (.str sk)) (hx : Zq8 q (ev s xo) = some ds)
  (hK : K ⟨s, updH H k { H k with e := .m q (ZgU sk ds es) }⟩) : AOp P l n B o K ⟨s, H⟩ := by
 intro a w hR Q
 obtain ⟨m, S, hO, hn, hdf, hS, hex⟩ := hR.un
 have hm' := Za9 hS mo
 rw [hm] at hm'
 obtain ⟨m1, m2⟩ := Zfb hm' hg hl
 have hk' := Za9 hS ko
 rw [hk] at hk'
 have hk2 : a.eval ko = .string sk := by
  generalize a.eval ko = v at hk'
  cases hk' with | d _ _ hd => cases hd; rfl
 obtain ⟨w', r1, r2, r3⟩ := Znk (sk := sk) hT hO m1 hl he (ZoZ hx (Za9 hS xo))
 have hrun : (execOp a.eval o).run P w = .ok .skip w' := by
  rcases ho with ho | ho <;> simp [execOp, ho, m2, hk2, r1]
 unfold Oper.wp
 rw [hrun]
 simp only [Oper.upon, hd, Act.put]
 exact ⟨_, hK, R.keep r2 hn hdf hS hex r3⟩
theorem ZjT {t t' : TypeId} {mo ko : Operand} {k : Key} {g : Nat} {q : Bool} {z : List D} {es : List (List D)} {sk : ByteArray} (ho : o.op = .call ⟨.builtin .delete, #[mo, ko], #[t, t']⟩) (hd : o.dst = none) (hT : ZqG P t = some (q, z))
  (hm : ev s mo = .mp k g) (hg : g = (H k).g) (hl : (H k).live = true) (he : (H k).e = .m q es) (hk : ev s ko = .d (.str sk))
  (hK : K ⟨s, updH H k { H k with e := .m q (ZhU sk es) }⟩) : AOp P l n B o K ⟨s, H⟩ := by
 intro a w hR Q
 obtain ⟨m, S, hO, hn, hdf, hS, hex⟩ := hR.un
 have hm' := Za9 hS mo
 rw [hm] at hm'
 obtain ⟨m1, m2⟩ := Zfb hm' hg hl
 have hk' := Za9 hS ko
 rw [hk] at hk'
 have hk2 : a.eval ko = .string sk := by
  generalize a.eval ko = v at hk'
  cases hk' with | d _ _ hd => cases hd; rfl
 obtain ⟨kt, et, hu, hkt, _, _⟩ := Zey hT
 have hob := hO.mp.o k m1 hl
 rw [he] at hob
 obtain ⟨ents, clock, h1, h2⟩ := hob
 have hIs : (H k).e.isO = true := by rw [he]; rfl
 obtain ⟨hc1, hc2⟩ := hO.mp.c k m1 hl hIs
 have fin : ∀ (ents' : Array MapEntry) (clock' : Nat), MEnt w S q (ZhU sk es) ents' clock' → Ok (l + 1) (updH H k { H k with e := .m q (ZhU sk es) }) m S (ChangeMaps.setBlock w (m k).b (.map ents' clock')) ∧ Ext (l + 1) H m S w (updH H k { H k with e := .m q (ZhU sk es) }) m S (ChangeMaps.setBlock w (m k).b (.map ents' clock')) := fun ents' clock' hm =>
  hO.writeO k m1 hl hIs (.m q (ZhU sk es)) rfl (.map ents' clock') (ZaV h1 _) (by simp [ChangeMaps.setBlock])
   ⟨ents', clock', by rw [ZaV h1]; simp, hm.mono (fun _ h => h) (fun b hb => by rw [ZaV h1, if_neg]; rintro rfl; exact hc2 hb)⟩ rfl rfl rfl
 have key : ∃ w', (execOp a.eval o).run P w = .ok (.value (.tuple #[])) w' ∧ Ok (l + 1) (updH H k { H k with e := .m q (ZhU sk es) }) m S w' ∧ Ext (l + 1) H m S w (updH H k { H k with e := .m q (ZhU sk es) }) m S w' := by
  rcases ZiT (w := w) (S := S) (q := q) (s := sk) es ents.toList 0 (by simp [h2.n]) (fun i e x hi hx => h2.e i e x hi (by simpa using hx)) with ⟨a1, a2, _, a4⟩ | ⟨j, x', ds', a1, a2, a3, a4, a5, a6, a7, a8⟩
  ·refine ⟨ChangeMaps.setBlock w (m k).b (.map ents clock), ?_, ?_⟩
   ·simp [execOp, ho, resolve, invoke, Go.builtin, m2, hk2, Builtin.delete_, run_underlying hu, MapKept.run_getObj_map h1, MapKept.run_checkKey hkt (show MapKept.IsKey .string (.string sk) from trivial), MapKept.run_findKey hkt a2, Zbq h1]
   grind
  ·have hj : j < ents.size := by
    grind
   refine ⟨ChangeMaps.setBlock w (m k).b (.map (ents.eraseIdxIfInBounds (0 + j)) clock), ?_, ?_⟩
   ·simp [execOp, ho, resolve, invoke, Go.builtin, m2, hk2, Builtin.delete_, run_underlying hu, MapKept.run_getObj_map h1, MapKept.run_checkKey hkt (show MapKept.IsKey .string (.string sk) from trivial), MapKept.run_findKey hkt a1, Zbq h1]
   ·rw [a7] at fin ⊢
    simp only [Yy]
    exact fin _ _ (h2.del hj)
 obtain ⟨w', r1, r2, r3⟩ := key
 refine ZaB r1 ?_
 rw [hd]
 exact ⟨_, hK, R.keep r2 hn hdf hS hex r3⟩
theorem ZnK {t : TypeId} {x : Operand} {d : Nat} {q : Bool} {es : List (List D)} (ho : o.op = .range t x) (hd : o.dst = some d) (hu : ∃ k e, P.underlying t = some (.map k e)) (hx : ev s x = .d (.map q es))
  (hK : ZxZ l n d (.i q es none) (fun g => .ptr (l + 1, d) g 0) K ⟨s, H⟩) : AOp P l n B o K ⟨s, H⟩ := by
 intro a w hR Q
 obtain ⟨m, S, hO, hn, hdf, hS, he⟩ := hR.un
 obtain ⟨kt, et, hu⟩ := hu
 have hx' := Za9 hS x
 rw [hx] at hx'
 have key : ∃ ob, (execOp a.eval o).run P w = .ok (.value (.pointer (some ⟨w.heap.size, 0, none⟩))) (w.alloc ob) ∧ Zzd (w.alloc ob) S w.heap.size q es none := by
  generalize hv : a.eval x = v at hx'
  cases hx' with
  | d _ _ hd =>
   cases v with
   | map r =>
    cases r with
    | none =>
     cases hd
     refine ⟨.mapIter none 0 #[] 0, ?_, .inl ⟨rfl, rfl, 0, #[], 0, by rw [Zdv, if_pos rfl]⟩⟩
     simp [execOp, ho, hv, Instr.range, run_underlying hu]
    | some r =>
     obtain ⟨hs, ents, clock, h1, h2⟩ := hd.toM
     refine ⟨.mapIter (some r) clock #[] clock, ?_, .inr ⟨r, ents, clock, es, #[], by rw [Zdv, if_pos rfl], hs, ?_, ?_, ?_, fun e h => by cases h⟩⟩
     ·simp [execOp, ho, hv, Instr.range, run_underlying hu, MapKept.run_getObj_map h1]
     ·rw [Zdv, if_neg (by have := Zbc h1; omega)]; exact h1
     ·exact h2.mono (fun _ h => h) (fun b hb => by rw [Zdv, if_neg (by have := hO.sub b hb; omega)])
     ·have : ((ents.toList.zip es).filter (fun p => !(#[] : Array Nat).contains p.1.born)) = ents.toList.zip es := by
       rw [List.filter_eq_self]; intro p _; simp
      rw [this, List.map_snd_zip]
      simp [h2.n]
   | _ => cases hd
 obtain ⟨ob, hrun, hI⟩ := key
 obtain ⟨k1, k2⟩ := hO.allocO (l + 1, d) (Yg _) ⟨(H (l + 1, d)).g + 1, true, .i q es none, 0, []⟩ rfl rfl (Y0 _) ob (w' := w.alloc ob) rfl hI rfl rfl rfl
 refine ZaB hrun ?_
 rw [hd]
 refine ⟨_, hK.2, R.step k1 hn hdf hS he k2 hK.1 ?_⟩
 have := RepA.ptrL (w := w.alloc ob) (S := S) (H := updH H (l + 1, d) ⟨(H (l + 1, d)).g + 1, true, .i q es none, 0, []⟩) (m := Zb2 m (l + 1, d) ⟨w.heap.size, 0, 0⟩) (l := l + 1) (l + 1, d) 0 (Yg _) (by rw [Zaa])
 rw [Zaa, Zac] at this
 exact this
def nxV (q : Bool) : List D → AV
 | .str k :: ds => .tup [.d (.bool true), .d (.str k), meA q ds]
 | _ => .top
theorem ZeG {α β : Type} (f : α → β) : ∀ (L : List α) (i : Nat), (L.eraseIdx i).map f = (L.map f).eraseIdx i
 | [], i => by simp
 | x :: L, 0 => rfl
 | x :: L, i + 1 => by simp only [YaQ, YT, ZeG f L i]
theorem ZlM {α β : Type} {xs : List α} {ys : List β} {i : Nat} {p : α × β} (h : (xs.zip ys)[i]? = some p) : xs[i]? = some p.1 ∧ ys[i]? = some p.2 := by
 grind
theorem ZoU {x : Operand} {d : Nat} {k : Key} {g : Nat} {q : Bool} {rest : List (List D)} {cur : Option (List D)} (ho : o.op = .next x false) (hd : o.dst = some d) (hx : ev s x = .ptr k g 0) (hg : g = (H k).g) (hl : (H k).live = true) (he : (H k).e = .i q rest cur) (hdn : d < n)
  (h0 : rest = [] → K ⟨upd s d (.tup [.d (.bool false)]), H⟩)
  (h1 : ∀ (i : Nat) (e : List D), rest[i]? = some e → K ⟨upd s d (nxV q e), updH H k { H k with e := .i q (rest.eraseIdx i) (some e) }⟩) : AOp P l n B o K ⟨s, H⟩ := by
 intro a w hR Q
 obtain ⟨m, S, hO, hn, hdf, hS, hex⟩ := hR.un
 have hx' := Za9 hS x
 rw [hx] at hx'
 have hk : k.1 ≤ l + 1 ∧ a.eval x = .pointer (some ⟨(m k).b, (m k).o, none⟩) := by
  generalize a.eval x = v at hx'
  cases hx' with
  | ptrL _ _ hk _ => exact ⟨hk, by simp⟩
  | ptrD _ _ _ _ _ _ hd _ => rw [hd hg] at hl; cases hl
 obtain ⟨hk, hev⟩ := hk
 have hIs : (H k).e.isO = true := by rw [he]; rfl
 obtain ⟨⟨hc0, hc1⟩, hc2⟩ := hO.mp.c k hk hl hIs
 rw [hc1] at hev
 have hob := hO.mp.o k hk hl
 rw [he] at hob
 rcases hob with ⟨e1, e2, u1, u2, u3, e3⟩ | ⟨r, ents, clock, es, seen, b1, b2, b3, b4, b5, b6⟩
 ·refine ZaB (v := .tuple #[.bool false]) (w' := w) ?_ ?_
  ·simp [execOp, ho, hev, Instr.next, getObj, Sem.run, e3]
  ·rw [hd]
   exact ⟨_, h0 e1, R.step hO hn hdf hS hex (Ext.refl _ _ _ _ _) hdn (.tup _ _ rfl (fun i x v hx hv => by
    match i with
    | 0 => cases hx; cases hv; exact .d _ _ (.bool _)
    | i + 1 => simp at hx))⟩
 ·have hborn : ∀ (i j : Nat) (x y : MapEntry × List D), (ents.toList.zip es)[i]? = some x → (ents.toList.zip es)[j]? = some y → x.1.born = y.1.born → i = j := fun i j x y hx hy e =>
   b4.born i j x.1 y.1 (by simpa using (ZlM hx).1) (by simpa using (ZlM hy).1) e
  have hleft : ∀ e : MapEntry, e ∈ (leftOf ents seen).toList → ∃ (i : Nat) (d : List D), ((ents.toList.zip es).filter (fun p => !seen.contains p.1.born))[i]? = some (e, d) := fun e hm => by
   have hm : e ∈ ents.toList ∧ (!seen.contains e.born) = true := by simpa [leftOf] using hm
   obtain ⟨j, hj⟩ := Yx.1 hm.1
   have hlt : j < es.length := by rw [← b4.n]; rw [Yk] at hj; exact Zbc hj
   have hz : (e, es[j]) ∈ ents.toList.zip es := Yx.2 ⟨j, List.getElem?_zip_eq_some.2 ⟨hj, Yd hlt⟩⟩
   obtain ⟨i, hi⟩ := Yx.1 ((YJ (p := fun p : MapEntry × List D => !seen.contains p.1.born)).2 ⟨hz, hm.2⟩)
   grind
  rcases run_next_at (P := P) w o.type (m k).b r clock clock seen ents clock b1 b3 (fun x hx => by
    obtain ⟨i, hi⟩ := Yx.1 hx
    exact b4.clk i x (by simpa using hi)) (Yg _) with ⟨c1, c2⟩ | ⟨e, c1, w1, c2, c3⟩
  ·have hrest : rest = [] := by
    rw [b5, Ybc, YaU]
    intro p hp hb
    obtain ⟨i, hi⟩ := Yx.1 hp
    have : p.1 ∈ (leftOf ents seen).toList := by
     simp only [leftOf, Array.toList_filter, YJ]
     grind
    grind
   refine ZaB (v := .tuple #[.bool false]) (w' := w) ?_ ?_
   ·simp [execOp, ho, hev, c2]
   ·rw [hd]
    exact ⟨_, h0 hrest, R.step hO hn hdf hS hex (Ext.refl _ _ _ _ _) hdn (.tup _ _ rfl (fun i x v hx hv => by
     match i with
     | 0 => cases hx; cases hv; exact .d _ _ (.bool _)
     | i + 1 => simp at hx))⟩
  ·obtain ⟨i, d', hi⟩ := hleft e c1
   have hzip := YJ.1 (Ym hi)
   obtain ⟨j, hj⟩ := Yx.1 hzip.1
   obtain ⟨hj1, hj2⟩ := ZlM hj
   simp only [Yk] at hj1 hj2
   obtain ⟨sk, ds, q1, q2, q3⟩ := b4.e j _ _ hj2 hj1
   subst q1
   have hri : rest[i]? = some (.str sk :: ds) := by rw [b5, Ys, hi]; rfl
   have hre : rest.eraseIdx i = ((ents.toList.zip es).filter (fun p => !(seen.push e.born).contains p.1.born)).map (·.2) := by
    rw [b5]
    have := ZcQ (fun p : MapEntry × List D => p.1.born) (fun p => !seen.contains p.1.born) (ents.toList.zip es) hborn i _ hi
    rw [← ZeG, ← this]
    grind
   have hw1 : w1.heap = w.heap ∧ w1.os = w.os ∧ w1.tape = w.tape ∧ w1.output = w.output := by rcases c2 with rfl | rfl <;> exact ⟨rfl, rfl, rfl, rfl⟩
   have hO1 := hO.drew (w' := w1) hw1.1 hw1.2.1 hw1.2.2.1 hw1.2.2.2
   have b1' : w1.heap[(m k).b]? = some (.mapIter (some r) clock seen clock) := by rw [hw1.1]; exact b1
   obtain ⟨k1, k2⟩ := hO1.1.writeO k hk hl hIs (.i q (rest.eraseIdx i) (some (.str sk :: ds))) rfl (.mapIter (some r) clock (seen.push e.born) clock) (w' := ChangeMaps.setBlock w1 (m k).b (.mapIter (some r) clock (seen.push e.born) clock))
    (ZaV b1' _) (by simp [ChangeMaps.setBlock]) (.inr ⟨r, ents, clock, es, seen.push e.born, by rw [ZaV b1']; simp, b2, by rw [ZaV b1', if_neg (by rintro rfl; exact hc2 b2), hw1.1]; exact b3,
     b4.mono (fun _ h => h) (fun b hb => by rw [ZaV b1', if_neg (by rintro rfl; exact hc2 hb), hw1.1]), hre, fun e' he' => by cases he'; exact ⟨j, e, hj2, hj1, by simp⟩⟩) rfl rfl rfl
   have hext := hO1.2.trans k2
   refine ZaB (v := .tuple #[.bool true, e.key, e.val]) (w' := ChangeMaps.setBlock w1 (m k).b (.mapIter (some r) clock (seen.push e.born) clock)) ?_ ?_
   ·simp [execOp, ho, hev, c3]
   ·rw [hd]
    refine ⟨_, h1 i _ hri, R.step k1 hn hdf hS hex hext hdn ?_⟩
    simp only [nxV]
    refine .tup _ _ rfl (fun i x v hx hv => ?_)
    match i with
    | 0 => cases hx; cases hv; exact .d _ _ (.bool _)
    | 1 => cases hx; cases hv; rw [q2]; exact .d _ _ (.str _)
    | 2 => cases hx; cases hv; exact ZgG (q3.mono hext.s hext.blk)
    | i + 3 => simp at hx
theorem ZmM {x : Operand} {d : Nat} {k : Key} {g : Nat} {q : Bool} {rest : List (List D)} {sk : ByteArray} {ds : List D} (ho : o.op = .entry x) (hd : o.dst = some d) (hx : ev s x = .ptr k g 0) (hg : g = (H k).g) (hl : (H k).live = true) (he : (H k).e = .i q rest (some (.str sk :: ds))) (hdn : d < n)
  (hK : K ⟨upd s d (.tup [.d (.str sk), meA q ds]), updH H k { H k with e := .i q rest none }⟩) : AOp P l n B o K ⟨s, H⟩ := by
 intro a w hR Q
 obtain ⟨m, S, hO, hn, hdf, hS, hex⟩ := hR.un
 have hx' := Za9 hS x
 rw [hx] at hx'
 have hk : k.1 ≤ l + 1 ∧ a.eval x = .pointer (some ⟨(m k).b, (m k).o, none⟩) := by
  generalize a.eval x = v at hx'
  cases hx' with
  | ptrL _ _ hk _ => exact ⟨hk, by simp⟩
  | ptrD _ _ _ _ _ _ hd _ => rw [hd hg] at hl; cases hl
 obtain ⟨hk, hev⟩ := hk
 have hIs : (H k).e.isO = true := by rw [he]; rfl
 obtain ⟨⟨hc0, hc1⟩, hc2⟩ := hO.mp.c k hk hl hIs
 rw [hc1] at hev
 have hob := hO.mp.o k hk hl
 rw [he] at hob
 rcases hob with ⟨e1, e2, _⟩ | ⟨r, ents, clock, es, seen, b1, b2, b3, b4, b5, b6⟩
 ·cases e2
 ·obtain ⟨i, x', c1, c2, c3⟩ := b6 _ rfl
  obtain ⟨sk', ds', q1, q2, q3⟩ := b4.e i _ _ c1 c2
  cases q1
  have hfind : ents.find? (fun y => y.born == x'.born) = some x' := by
   rw [← Array.find?_toList]
   refine find_born x' ents.toList ?_ (by rw [← Yk] at c2; exact Ym c2)
   rw [List.nodup_iff_pairwise_ne, Y2]
   intro i j hi hj hij e
   rw [Yn] at hi hj
   have hu := Yd hi
   have hv := Yd hj
   rw [Yk] at hu hv
   have := b4.born i j _ _ hu hv (by simpa using e)
   omega
  have hsame : ∀ b, w.heap[b]? = if b = (m k).b then some (.mapIter (some r) clock seen clock) else w.heap[b]? := fun b => by
   grind
  obtain ⟨k1, k2⟩ := hO.writeO k hk hl hIs (.i q rest none) rfl (.mapIter (some r) clock seen clock) (w' := w) hsame rfl (.inr ⟨r, ents, clock, es, seen, b1, b2, b3, b4, b5, fun e' he' => by cases he'⟩) rfl rfl rfl
  refine ZaB (v := .tuple #[x'.key, x'.val]) (w' := w) ?_ ?_
  ·simp [execOp, ho, hev, Instr.entry, getObj, Sem.run, b1, b3, c3, hfind]
  ·rw [hd]
   refine ⟨_, hK, R.step k1 hn hdf hS hex k2 hdn (.tup _ _ rfl (fun i x v hx hv => ?_))⟩
   match i with
   | 0 => cases hx; cases hv; rw [q2]; exact .d _ _ (.str _)
   | 1 => cases hx; cases hv; exact ZgG (q3.mono k2.s k2.blk)
   | i + 2 => simp at hx
end
def ZyS (x : EK) (e : Nat) : Bool :=
 match x with
 | .t e' => Nat.beq e' e
 | _ => false
theorem ZrE {x : EK} {e : Nat} (h : ZyS x e = true) : x = .t e := by
 cases x with
 | t e' => rw [Ya (show Nat.beq e' e = true from h)]
 | _ => cases h
def Zdi (a b : Key) : Bool := Nat.beq a.1 b.1 && Nat.beq a.2 b.2
def AV.onef : AV → Bool
 | .top | .agg _ | .tup _ | .fn _ _ _ => false
 | _ => true
def Zh9 (sz : Nat) (C : List AV) (y : AV) (c : Nat) (news : List AV) : Prop :=
 news.all AV.onef = true ∧ match y with
 | .e0 => c = 0 ∧ news = []
 | .d (.list es) => (∀ e ∈ es, e.length = sz) ∧ c = es.length ∧ news = es.flatten.map .d
 | .ref _ _ off n => c = n ∧ (off + n) * sz ≤ C.length ∧ news = (C.drop (off * sz)).take (n * sz)
 | _ => False
def Zsv (C : List AV) (off c' c sz byt : Nat) (news C' : List AV) (n' : Nat) : Prop := (off + c') * sz = C.length ∧ C.drop (off * sz) ++ news = C' ∧ c' + c = n' ∧ n' * byt ≤ 140737488355328
def Zux (c byt : Nat) : Prop := c * byt ≤ 140737488355328
def WrS (r : Ren) (k : Key) : Prop := k.1 = 0 ∧ r.no (r.κ k)
def ZxP (r : Ren) (k : Key) (vs : List AV) : Prop := (Zan r vs).all (AV.low (r.κ k).1) = true
def wrK (r : Ren) (k : Key) (vs : List AV) (A : Prop) : Prop :=
 match Nat.beq k.1 1 with
 | true => A
 | false => WrS r k ∧ ZxP r k vs ∧ A
def StS (C : List AV) (off : Nat) (vs C' : List AV) : Prop := off + vs.length ≤ C.length ∧ C.take off ++ vs ++ C.drop (off + vs.length) = C'
def Zqj (n d : Nat) (e : TypeId) (sz : Nat) (cells : List AV) (x : Nat → AV) (K : St → AT → Prop) (τ : St) (a : AT) : Prop :=
 match Nat.ble (d + 1) n with
 | true => K ⟨upd τ.s d (x ((τ.H (1, d)).g + 1)), updH τ.H (1, d) ⟨(τ.H (1, d)).g + 1, true, e, sz, cells⟩⟩ a
 | false => False
def cellsOf (H : Hp) : AV → List AV
 | .ref k g _ _ => match Zbn H k g with | true => (H k).cells | false => []
 | _ => []
def ZoK (H : Hp) (sz : Nat) : AV → Bool
 | .ref k g _ _ => Zbn H k g && Nat.beq (H k).sz sz
 | _ => true
def ZyB (T : Nat → Option TI) (r : Ren) (n d : Nat) (t : TypeId) (x y : AV) (a : AT) (K : St → AT → Prop) (τ : St) : Prop :=
 match T t with
 | some i => match i.elm with
  | some (e, sz) => match T e, Nat.ble 1 sz, ZoK τ.H sz y with
   | some j, true, true => (match j.byt, j.zer, x, a with
    | some byt, some _, .e0, .nat c (.cs news b) => Zh9 sz (cellsOf τ.H y) y c news ∧ Zux c byt ∧ Zqj n d e sz news (fun g => .ref (1, d) g 0 c) K τ b
    | some byt, some _, .ref k q off c', .nat c (.cs news (.cs C' (.nat n' b))) => (match Zbn τ.H k q, Nat.beq (τ.H k).sz sz, ZyS (τ.H k).e e, Nat.ble (d + 1) n with
     | true, true, true, true => Zh9 sz (cellsOf τ.H y) y c news ∧ Zsv (τ.H k).cells off c' c sz byt news C' n' ∧ wrK r k news (K ⟨upd τ.s d (.ref k (q + 1) 0 n'), updH τ.H k ⟨q + 1, true, e, sz, C'⟩⟩ b)
     | _, _, _, _ => False)
    | _, _, _, _ => False)
   | _, _, _ => False
  | none => False
 | none => False
def Zhg (r : Ren) (n : Nat) (i : TI) (x : AV) (vs : Option (List AV)) (a : AT) (K : St → AT → Prop) (τ : St) : Prop :=
 match x, vs with
 | .ptr k q off, some vs => match Zbn τ.H k q, Nat.beq vs.length i.siz, Nat.ble 1 vs.length with
  | true, true, true => (match a with
   | .go b => (match Nat.ble (off + vs.length) (τ.H k).cells.length with
    | true => wrK r k vs (K ⟨τ.s, updH τ.H k ⟨q, true, (τ.H k).e, (τ.H k).sz, (τ.H k).cells.take off ++ vs ++ (τ.H k).cells.drop (off + vs.length)⟩⟩ b)
    | false => False)
   | .cs C' b => StS (τ.H k).cells off vs C' ∧ wrK r k vs (K ⟨τ.s, updH τ.H k ⟨q, true, (τ.H k).e, (τ.H k).sz, C'⟩⟩ b)
   | _ => False)
  | _, _, _ => False
 | _, _ => False
def MkS (c c' : Int) (byt m : Nat) (z C : List AV) : Prop := c = (m : Int) ∧ c ≤ c' ∧ (byt : Int) * c' ≤ 140737488355328 ∧ (List.replicate m z).flatten = C
def Zs6 (P : Program) (T : Nat → Option TI) (l n : Nat) (r : Ren) (o : Oper) (a : AT) (K : St → AT → Prop) (τ : St) : Prop :=
 match o.op with
 | .alloc t => match o.dst, T t with
  | some d, some i => (match i.zer with | some (z :: zs) => Zqj n d t (zs.length + 1) (z :: zs) (fun g => .ptr (1, d) g 0) K τ a | _ => False)
  | _, _ => False
 | .box t x => match o.dst, ZaZ (ev τ.s x), Zq3 (ev τ.s x) with
  | some d, some (z :: zs), true => Zqj n d t (zs.length + 1) (z :: zs) (fun g => .ptr (1, d) g 0) K τ a
  | _, _, _ => False
 | .store t p x => match o.dst, T t, Zq3 (ev τ.s x) with
  | none, some i, true => Zhg r n i (ev τ.s p) (ZaZ (ev τ.s x)) a K τ
  | _, _, _ => False
 | .buildSlice t len parts => match o.dst, T t with
  | some d, some i => (match i.elm with
   | some (e, sz) => (match Nat.ble 1 sz, len with
    | true, 0 => (match parts.toList with | [] => ZjO n d K τ .e0 a | _ => False)
    | true, len + 1 => (match T e, Nat.ble ((len + 1) * sz) 16777216 with
     | some j, true => (match j.zer with
      | some z => (match Nat.beq z.length sz, ZkU sz 0 (parts.toList.map fun p => (p.1, ev τ.s p.2)) with
       | true, some es => (match Nat.beq es.length (len + 1) with | true => ZjO n d K τ (.d (.list es)) a | false => False)
       | _, _ => False)
      | none => False)
     | _, _ => False)
    | _, _ => False)
   | none => False)
  | _, _ => False
 | .makeSlice t x y => match o.dst, T t, ev τ.s x, ev τ.s y, a with
  | some d, some i, .d (.int _ c), .d (.int _ c'), .nat m (.cs C b) => (match i.elm with
   | some (e, sz) => (match T e, Nat.ble 1 sz with
    | some j, true => (match j.zer, j.byt with
     | some z, some byt => (match Nat.beq z.length sz with
      | true => MkS c c' byt m z C ∧ Zqj n d e sz C (fun g => .ref (1, d) g 0 m) K τ b
      | false => False)
     | _, _ => False)
    | _, _ => False)
   | none => False)
  | _, _, _, _, _ => False
 | .call c => match c.callee with
  | .builtin .append => (match o.dst, c.args.toList, c.argTypes.toList with
   | some d, [x, y], [t, t'] => (match Nat.beq t t' with | true => ZyB T r n d t (ev τ.s x) (ev τ.s y) a K τ | false => False)
   | _, _, _ => False)
  | _ => (match o.dst with | some d => pV P T l r τ o.op none a (ZjO n d K τ) | none => False)
 | _ => match o.dst with | some d => pV P T l r τ o.op none a (ZjO n d K τ) | none => False
def ZxE (n : Nat) (K : St → AT → Prop) (s : Nat → AV) (H : Hp) (v : AV) (b : AT) : Option Nat → Prop
 | some d => match Nat.ble (d + 1) n with | true => K ⟨upd s d v, H⟩ b | false => False
 | none => K ⟨s, H⟩ b
def Zve (T : Nat → Option TI) (r : Ren) (n : Nat) (dst : Option Nat) (t t' : Nat) (x y : AV) (a : AT) (K : St → AT → Prop) (τ : St) : Prop :=
 match T t, T t' with
 | some i, some i' => match i.elm, i'.elm with
  | some (e, sz), some (e', sz') => match Nat.beq e e', Nat.beq sz sz', T e, Nat.ble 1 sz, ZoK τ.H sz y with
   | true, true, some j, true, true => (match j.zer, x, a with
    | some _, .ref k q off cn, .nat c (.cs news (.cs C' b)) => (match Zbn τ.H k q, Nat.beq (τ.H k).sz sz with
     | true, true => Zh9 sz (cellsOf τ.H y) y c news ∧ c ≤ cn ∧ StS (τ.H k).cells (off * sz) news C' ∧ wrK r k news (ZxE n K τ.s (updH τ.H k ⟨q, true, (τ.H k).e, (τ.H k).sz, C'⟩) (.d (.int .i64 c)) b dst)
     | _, _ => False)
    | _, _, _ => False)
   | _, _, _, _, _ => False
  | _, _ => False
 | _, _ => False
def ZAF (C : List AV) (off cn sz : Nat) (z C' : List AV) : Prop := (off + cn) * sz ≤ C.length ∧ C.take (off * sz) ++ (List.replicate cn z).flatten ++ C.drop ((off + cn) * sz) = C'
def Zqz (T : Nat → Option TI) (r : Ren) (t : Nat) (x : AV) (a : AT) (K : St → AT → Prop) (τ : St) : Prop :=
 match T t with
 | some i => match i.elm with
  | some (e, sz) => match T e, Nat.ble 1 sz with
   | some j, true => (match j.zer, x, a with
    | some z, .ref k q off cn, .cs C' b => (match Zbn τ.H k q, Nat.beq (τ.H k).sz sz, Nat.beq z.length sz with
     | true, true, true => ZAF (τ.H k).cells off cn sz z C' ∧ wrK r k z (K ⟨τ.s, updH τ.H k ⟨q, true, (τ.H k).e, (τ.H k).sz, C'⟩⟩ b)
     | _, _, _ => False)
    | _, _, _ => False)
   | _, _ => False
  | none => False
 | none => False
def ZqW (P : Program) (T : Nat → Option TI) (l n : Nat) (r : Ren) (o : Oper) (a : AT) (K : St → AT → Prop) (τ : St) : Prop :=
 match o.op with
 | .call c => (match c.callee with
  | .builtin .copy => (match c.args.toList, c.argTypes.toList with | [x, y], [t, t'] => Zve T r n o.dst t t' (ev τ.s x) (ev τ.s y) a K τ | _, _ => False)
  | .builtin .clear => (match c.args.toList, c.argTypes.toList, o.dst with | [x], [t], none => Zqz T r t (ev τ.s x) a K τ | _, _, _ => False)
  | _ => Zs6 P T l n r o a K τ)
 | _ => Zs6 P T l n r o a K τ
def ZqV (T : Nat → Option TI) (n : Nat) (dst : Option Nat) (t len : Nat) (vs : List (Nat × AV)) (a : AT) (K : St → AT → Prop) (τ : St) : Prop :=
 match dst, T t with
 | some d, some i => (match i.elm with
  | some (e, sz) => (match T e, Nat.ble 1 sz, Nat.ble ((len + 1) * sz) 16777216 with
   | some j, true, true => (match j.zer with
    | some z => (match Nat.beq z.length sz, ZbS (fun i => some (i * sz, sz)) (List.replicate (len + 1) z).flatten vs, vs.all (fun p => Zq3 p.2) with
     | true, some cs, true => (match z.all AV.flat with | true => Zqj n d e sz cs (fun g => .ref (1, d) g 0 (len + 1)) K τ a | false => False)
     | _, _, _ => False)
    | none => False)
   | _, _, _ => False)
  | none => False)
 | _, _ => False
def Zqf (P : Program) (T : Nat → Option TI) (l n : Nat) (r : Ren) (o : Oper) (a : AT) (K : St → AT → Prop) (τ : St) : Prop :=
 match o.op with
 | .buildSlice t (len + 1) parts => (match a with
  | .go b => ZqV T n o.dst t len (parts.toList.map fun p => (p.1, ev τ.s p.2)) b K τ
  | .sep b => ZqW P T l n r o b K τ
  | a => ZqW P T l n r o a K τ)
 | _ => ZqW P T l n r o a K τ
def Zpj (n d : Nat) (e : EK) (x : Nat → AV) (K : St → AT → Prop) (τ : St) (a : AT) : Prop :=
 match Nat.ble (d + 1) n with
 | true => K ⟨upd τ.s d (x ((τ.H (1, d)).g + 1)), updH τ.H (1, d) ⟨(τ.H (1, d)).g + 1, true, e, 0, []⟩⟩ a
 | false => False
def ZzJ (s : Nat → AV) : Option Operand → Bool
 | none => true
 | some x => match ev s x with | .d (.int _ _) => true | _ => false
def Zzp (s : ByteArray) (ds : List D) (es es' : List (List D)) : Prop := ZgU s ds es = es'
def ZAx (s : ByteArray) (es es' : List (List D)) : Prop := ZhU s es = es'
def ZzD (rest : List (List D)) (i : Nat) (e : List D) (es : List (List D)) : Prop := rest[i]? = some e ∧ rest.eraseIdx i = es
def pMs (T : Nat → Option TI) (r : Ren) (dst : Option Nat) (t : Nat) (x y z : AV) (a : AT) (K : St → AT → Prop) (τ : St) : Prop :=
 match dst, T t, x, y with
 | none, some i, .mp k g, .d (.str s) => (match i.mp, Zbn τ.H k g, (τ.H k).e with
  | some (q, _), true, .m q' es => (match bqB q q', Zq8 q z, a with
   | true, some ds, .ents es' b => Zzp s ds es es' ∧ wrK r k [] (K ⟨τ.s, updH τ.H k ⟨g, true, .m q es', (τ.H k).sz, (τ.H k).cells⟩⟩ b)
   | _, _, _ => False)
  | _, _, _ => False)
 | _, _, _, _ => False
def pMd (T : Nat → Option TI) (r : Ren) (dst : Option Nat) (t : Nat) (x y : AV) (a : AT) (K : St → AT → Prop) (τ : St) : Prop :=
 match dst, T t, x, y with
 | none, some i, .mp k g, .d (.str s) => (match i.mp, Zbn τ.H k g, (τ.H k).e with
  | some (q, _), true, .m q' es => (match bqB q q', a with
   | true, .ents es' b => ZAx s es es' ∧ wrK r k [] (K ⟨τ.s, updH τ.H k ⟨g, true, .m q es', (τ.H k).sz, (τ.H k).cells⟩⟩ b)
   | _, _ => False)
  | _, _, _ => False)
 | _, _, _, _ => False
def pNx (n d : Nat) (k : Key) (g : Nat) (q : Bool) (rest : List (List D)) (a : AT) (K : St → AT → Prop) (τ : St) : Prop :=
 match Nat.ble (d + 1) n, a with
 | true, .all a0 f => (rest = [] → K ⟨upd τ.s d (.tup [.d (.bool false)]), τ.H⟩ a0) ∧ ∀ i, i < rest.length → (match f i with
  | .ds (.str s :: ds) (.ents es b) => ZzD rest i (.str s :: ds) es ∧ K ⟨upd τ.s d (.tup [.d (.bool true), .d (.str s), meA q ds]), updH τ.H k ⟨g, true, .i q es (some (.str s :: ds)), (τ.H k).sz, (τ.H k).cells⟩⟩ b
  | _ => False)
 | _, _ => False
def Zoy (P : Program) (T : Nat → Option TI) (l n : Nat) (r : Ren) (o : Oper) (a : AT) (K : St → AT → Prop) (τ : St) : Prop :=
 match o.op with
 | .makeMap t rs => (match o.dst, T t, ZzJ τ.s rs with
  | some d, some i, true => (match i.mp with | some (q, _) => Zpj n d (.m q []) (fun g => .mp (1, d) g) K τ a | none => False)
  | _, _, _ => False)
 | .mapUpdate t x y z => pMs T r o.dst t (ev τ.s x) (ev τ.s y) (ev τ.s z) a K τ
 | .insert t x y z => pMs T r o.dst t (ev τ.s x) (ev τ.s y) (ev τ.s z) a K τ
 | .range t x => (match o.dst, T t, ev τ.s x with
  | some d, some i, .d (.map q es) => (match i.mp with | some _ => Zpj n d (.i q es none) (fun g => .ptr (1, d) g 0) K τ a | none => False)
  | _, _, _ => False)
 | .next x false => (match o.dst, ev τ.s x with
  | some d, .ptr k g 0 => (match Nat.beq k.1 1, Zbn τ.H k g, (τ.H k).e with
   | true, true, .i q rest _ => pNx n d k g q rest a K τ
   | _, _, _ => False)
  | _, _ => False)
 | .entry x => (match o.dst, ev τ.s x with
  | some d, .ptr k g 0 => (match Nat.beq k.1 1, Zbn τ.H k g, (τ.H k).e, Nat.ble (d + 1) n with
   | true, true, .i q rest (some (.str s :: ds)), true => K ⟨upd τ.s d (.tup [.d (.str s), meA q ds]), updH τ.H k ⟨g, true, .i q rest none, (τ.H k).sz, (τ.H k).cells⟩⟩ a
   | _, _, _, _ => False)
  | _, _ => False)
 | .call c => (match c.callee with
  | .builtin .delete => (match c.args.toList, c.argTypes.toList with | [x, y], [t, _] => pMd T r o.dst t (ev τ.s x) (ev τ.s y) a K τ | _, _ => False)
  | _ => Zqf P T l n r o a K τ)
 | _ => Zqf P T l n r o a K τ
def ZcP (env : Env) : Option Nat → Env
 | some d => (d, []) :: env
 | none => env
def ZcK (env : Env) : Option Nat → Bool
 | some d => fresh d env
 | none => true
def Zon (P : Program) (T : Nat → Option TI) (l n : Nat) (r : Ren) (ds : List (Option Nat)) : List Oper → Env → AT → (St → Env → AT → Prop) → St → Prop
 | [], env, a, K, τ => K τ env a
 | o :: rest, env, a, K, τ => match o.guard with
  | none => (match Zbz env [] o.op, ZcK env o.dst with
   | true, true => Zoy P T l n r o a (fun τ' a' => Zon P T l n r ds rest (ZcP env o.dst) a' K τ') τ
   | _, _ => False)
  | some (i, b) => (match nth ds i, o.dst with
   | some (some d), some e => (match Zdh τ.s ((d, b) :: lk env d), Zbz env ((d, b) :: lk env d) o.op, fresh e env && Zj4 e ((d, b) :: lk env d), Nat.ble (e + 1) n with
    | some g, true, true, true => pV P T l r τ o.op (some g) a (fun v a' => Zon P T l n r ds rest ((e, (d, b) :: lk env d) :: env) a' K ⟨upd τ.s e v, τ.H⟩)
    | _, _, _, _ => False)
   | _, _ => False)
def Zyp (P : Program) (T : Nat → Option TI) (l n : Nat) (r : Ren) (o : Oper) (a : AT) (K : St → AT → Prop) (τ : St) : Prop :=
 match o.op, o.dst with
 | .buildSlice t (len + 1) ps, some d => pV P T l r τ (.buildSlice t (len + 1) ps) none a (ZjO n d K τ)
 | _, _ => Zoy P T l n r o a K τ
def ZgC (P : Program) (T : Nat → Option TI) (l n : Nat) (r : Ren) (ds : List (Option Nat)) : List Oper → Env → AT → (St → Env → AT → Prop) → St → Prop
 | [], env, a, K, τ => K τ env a
 | o :: rest, env, a, K, τ => match o.guard with
  | none => (match Zbz env [] o.op, ZcK env o.dst with
   | true, true => Zyp P T l n r o a (fun τ' a' => ZgC P T l n r ds rest (ZcP env o.dst) a' K τ') τ
   | _, _ => False)
  | some (i, b) => (match nth ds i, o.dst with
   | some (some d), some e => (match Zdh τ.s ((d, b) :: lk env d), Zbz env ((d, b) :: lk env d) o.op, fresh e env && Zj4 e ((d, b) :: lk env d), Nat.ble (e + 1) n with
    | some g, true, true, true => pV P T l r τ o.op (some g) a (fun v a' => ZgC P T l n r ds rest ((e, (d, b) :: lk env d) :: env) a' K ⟨upd τ.s e v, τ.H⟩)
    | _, _, _, _ => False)
   | _, _ => False)
section
variable {P : Program} {T : Nat → Option TI} {r : Ren} {l n outs : Nat} {B : Base} {env : Env} {τ σ : St} {a : AT} {o : Oper}
theorem R.adopt {act : Act} {w : World} {d : Nat} {e : TypeId} {sz : Nat} {s : Nat → AV} {H : Hp} (h : R l n B ⟨s, H⟩ act w) (k : Key) (hk : k.1 = l + 1) (g : Nat) (hgk : (H k).g < g) (hd : s d = .e0) : R l n B ⟨upd s d (.ref k g 0 0), updH H k ⟨g, true, e, sz, []⟩⟩ act w := by
 obtain ⟨m, S, hO, hn, hdf, hS, hex⟩ := h.un
 have hext : Ext (l + 1) H m S w (updH H k ⟨g, true, e, sz, []⟩) (Zb2 m k ⟨0, 0, 0⟩) S w := by
  refine ⟨fun _ h => h, fun _ _ => rfl, fun q hq => ?_, fun q hq hg hl => ?_, rfl, rfl, rfl, Yg _⟩
  ·by_cases hqk : q = k
   ·subst hqk; rw [Zaa]; simp only; omega
   ·rw [Zab _ _ hqk]; exact Yg _
  ·by_cases hqk : q = k
   ·subst hqk; rw [Zaa] at hg; simp only at hg; omega
   ·rw [Zab _ _ hqk] at hl ⊢; rw [Zae _ _ hqk]; exact ⟨hl, rfl, rfl⟩
 have hO' : Ok (l + 1) (updH H k ⟨g, true, e, sz, []⟩) (Zb2 m k ⟨0, 0, 0⟩) S w := by
  refine ⟨hO.sub, fun q hq hl hz => ?_, fun q hq hl hz => ?_, fun q q' hq hq' hl hl' hz hz' he => ?_, fun q hq hl hz => ?_, hO.mp.upd (Yg _) k _ rfl (fun q e => Zae _ _ e) (fun _ h => h) (fun _ h => .inl h) (fun _ _ => rfl) (fun _ _ h _ => h)⟩
  ·by_cases hqk : q = k
   ·subst hqk; rw [Zaa]
   ·rw [Zab _ _ hqk] at hl ⊢; rw [Zae _ _ hqk] at hz; exact hO.empty q hq hl hz
  ·by_cases hqk : q = k
   ·subst hqk; rw [Zac] at hz; exact absurd rfl hz
   ·rw [Zab _ _ hqk] at hl; rw [Zae _ _ hqk] at hz ⊢; exact hO.fresh q hq hl hz
  ·have h1 : q ≠ k := by rintro rfl; rw [Zac] at hz; exact hz rfl
   have h2 : q' ≠ k := by rintro rfl; rw [Zac] at hz'; exact hz' rfl
   rw [Zab _ _ h1] at hl; rw [Zab _ _ h2] at hl'
   rw [Zae _ _ h1] at hz he; rw [Zae _ _ h2] at hz' he
   exact hO.inj q q' hq hq' hl hl' hz hz' he
  ·have h1 : q ≠ k := by rintro rfl; rw [Zac] at hz; exact hz rfl
   rw [Zab _ _ h1] at hl ⊢; rw [Zae _ _ h1] at hz ⊢
   obtain ⟨C, g1, g2, g3, g4⟩ := hO.blk q hq hl hz
   exact ⟨C, g1, g2, g3, fun i x v hi hv => ⟨(g4 i x v hi hv).1, (g4 i x v hi hv).2.ext hext hq⟩⟩
 refine ⟨_, _, hO', hn, hdf, fun i => ?_, hex.trans (hext.mono (by omega))⟩
 simp only [upd]
 by_cases hi : i = d
 ·subst hi
  rw [if_pos rfl]
  have := hS i
  rw [hd] at this
  generalize act.tmps.getD i Go.undef = v at this ⊢
  cases this with
  | e0 oa =>
   have := RepA.refL (w := w) (S := S) (H := updH H k ⟨g, true, e, sz, []⟩) (m := Zb2 m k ⟨0, 0, 0⟩) (l := l + 1) k 0 0 oa (by omega) (by rw [Zaa]) (by rw [Zac]; simp) (fun h => by rw [Zac] at h; simp at h)
   rw [Zaa, Zac] at this
   exact this
 ·rw [if_neg hi]
  exact (hS i).ext hext (Yg _)
def Zrz (r : Ren) (outs : Nat) (k : Key) : Prop := k.1 = 1 ∨ (k.1 = 0 ∧ k.2 < outs ∧ r.no (r.κ k))
theorem RenOk.ne (hr : RenOk r l outs) {q k : Key} (hq : q.1 = 1 ∨ (q.1 = 0 ∧ q.2 < outs)) (hk : k.1 = 1 ∨ (k.1 = 0 ∧ k.2 < outs)) (hqk : q ≠ k) : r.κ q ≠ r.κ k := fun he => by
 obtain ⟨q1, q2⟩ := q
 obtain ⟨k1, k2⟩ := k
 simp only at hq hk
 rcases hq with rfl | ⟨rfl, h1⟩ <;> rcases hk with rfl | ⟨rfl, h2⟩
 ·rw [hr.own, hr.own] at he; simp at he; exact hqk (by rw [he])
 ·rw [hr.own] at he; have := hr.out _ h2; rw [← he] at this; simp at this; omega
 ·rw [hr.own] at he; have := hr.out _ h1; rw [he] at this; simp at this; omega
 ·exact hqk (by rw [hr.inj _ _ h1 h2 he])
theorem Zrz.lk {k : Key} (h : Zrz r outs k) : k.1 = 1 ∨ (k.1 = 0 ∧ k.2 < outs) := by
 rcases h with h | ⟨h1, h2, _⟩
 ·grind
 grind
theorem RG.updK (hr : RenOk r l outs) (h : RG r l outs env τ σ) (k : Key) (b b' : Blk) (hb : b.live = true → b' = ZaN r k b) (hg : b'.g = r.γ k + b.g) (hk : Zrz r outs k) :
  RG r l outs env ⟨τ.s, Go.Eng.updH τ.H k b⟩ ⟨σ.s, Go.Eng.updH σ.H (r.κ k) b'⟩ := by
 have hlk := hk.lk
 refine ⟨h.s, fun q hq => ?_, fun d => ?_, fun i hi => ?_, fun q hq => ?_, fun q hq hn => ?_⟩
 ·simp only at hq ⊢
  by_cases hqk : q = k
  ·subst hqk; rw [Zaa] at hq ⊢; rw [Zaa]; exact hb hq
  ·rw [Zab _ _ hqk] at hq ⊢; rw [Zab _ _ (hr.ne (h.k _ hq) hlk hqk)]; exact h.h q hq
 ·simp only
  by_cases hdk : ((1, d) : Key) = k
  ·subst hdk; rw [Zaa, hr.own, Zaa]; exact hg
  ·have e2 : ((l + 1, d) : Key) ≠ r.κ k := by rw [← hr.own d]; exact hr.ne (.inl rfl) hlk hdk
   rw [Zab _ _ hdk, Zab _ _ e2]
   exact h.g d
 ·simp only
  by_cases hdk : ((0, i) : Key) = k
  ·subst hdk; rw [Zaa, Zaa]; exact hg
  ·rw [Zab _ _ hdk, Zab _ _ (hr.ne (.inr ⟨rfl, hi⟩) hlk hdk)]
   exact h.go i hi
 ·simp only at hq
  by_cases hqk : q = k
  ·grind
  ·rw [Zab _ _ hqk] at hq; exact h.k q hq
 ·simp only
  have e2 : q ≠ r.κ k := by
   rintro rfl
   rcases hk with hk | ⟨_, _, hk⟩
   ·obtain ⟨k1, k2⟩ := k
    simp only at hk
    subst hk
    rw [hr.own] at hq
    grind
   grind
  rw [Zab _ _ e2]
  exact h.o q hq hn
theorem RG.updH (hr : RenOk r l outs) (h : RG r l outs env τ σ) (k : Key) (b : Blk) (hb : b.live = true) (hk : Zrz r outs k) :
  RG r l outs env ⟨τ.s, Go.Eng.updH τ.H k b⟩ ⟨σ.s, Go.Eng.updH σ.H (r.κ k) (ZaN r k b)⟩ := RG.updK hr h k b _ (fun _ => rfl) rfl hk
theorem ZfP (hr : RenOk r l outs) (h : RG r l outs env τ σ) {k : Key} (hl : (τ.H k).live = true) {vs : List AV} {A : Prop} (hw : wrK r k vs A) : A ∧ Zrz r outs k ∧ ((r.κ k).1 = l + 1 ∨ (Zan r vs).all (AV.low (r.κ k).1) = true) := by
 unfold wrK at hw
 split at hw
 ·rename_i hk
  have hk := Ya hk
  obtain ⟨k1, k2⟩ := k
  simp only at hk
  subst hk
  exact ⟨hw, .inl rfl, .inl (by rw [hr.own])⟩
 ·obtain ⟨⟨h1, h2⟩, h3, h4⟩ := hw
  rcases h.k k hl with h5 | ⟨_, h5⟩
  ·omega
  ·exact ⟨h4, .inr ⟨h1, h5, h2⟩, .inr h3⟩
theorem Zag {s : Nat → AV} : ZfK s [] := fun q hq => by cases hq
theorem RG.put0 (h : RG r l outs env τ σ) {d : Nat} (hf : fresh d env = true) {v y : AV} (hy : y = ren r v) : RG r l outs ((d, []) :: env) ⟨upd τ.s d v, τ.H⟩ ⟨upd σ.s d y, σ.H⟩ :=
 h.put hf rfl (fun _ => hy) (fun hn => absurd Zag hn)
def Zil (r : Ren) (l outs : Nat) (env : Env) (K : St → AT → Prop) (σ : St) : Prop := ∃ τ a, K τ a ∧ RG r l outs env τ σ
theorem Zcw (hr : RenOk r l outs) (h : RG r l outs env τ σ) {K : St → AT → Prop} {d : Nat} (hf : fresh d env = true) {e : TypeId} {sz : Nat} {cells : List AV} {x x' : Nat → AV} (hx : ∀ g, x' (r.γ (1, d) + g) = ren r (x g)) (hn : Zqj n d e sz cells x K τ a) :
  ZiE l n d e sz (Zan r cells) x' (Zil r l outs ((d, []) :: env) K) σ := by
 unfold Zqj at hn
 split at hn
 ·rename_i hd
  have hd := Yf hd
  refine ⟨by omega, _, _, hn, ?_⟩
  have h1 := h.put0 (v := x ((τ.H (1, d)).g + 1)) (y := x' ((σ.H (l + 1, d)).g + 1)) hf (by rw [h.g, Yv]; exact hx _)
  have h2 := RG.updH hr h1 (1, d) ⟨(τ.H (1, d)).g + 1, true, e, sz, cells⟩ rfl (.inl rfl)
  have e1 : ZaN r (1, d) ⟨(τ.H (1, d)).g + 1, true, e, sz, cells⟩ = ⟨(σ.H (l + 1, d)).g + 1, true, e, sz, Zan r cells⟩ := by
   simp only [ZaN, h.g, Yv]
  rw [e1, hr.own] at h2
  exact h2
 grind
theorem Zep {K : St → AT → Prop} (h : RG r l outs env τ σ) {d : Nat} (hf : fresh d env = true) {y : AV} (hy : KR r (ZjO n d K τ) y) : d < n ∧ Zil r l outs ((d, []) :: env) K ⟨upd σ.s d y, σ.H⟩ := by
 obtain ⟨v, a', rfl, h1⟩ := hy
 unfold ZjO at h1
 split at h1
 ·rename_i hd
  have hd := Yf hd
  exact ⟨by omega, _, _, h1, h.put0 hf rfl⟩
 grind
section
variable {H : Hp} {K K' : AV → Prop} {t : TypeId} {x y : AV}
theorem ZeP (hk : ∀ y, K y → K' y) (h : ZdJ P H t x K) : ZdJ P H t x K' := by
 unfold ZdJ at h ⊢
 split at h
 ·grind
 ·grind
 grind
theorem ZfA {i : Nat} (hk : ∀ y, K y → K' y) (h : ZaL P H t i x K) : ZaL P H t i x K' := by
 unfold ZaL at h ⊢
 grind
theorem ZkD {i : Nat} (hk : ∀ y, K y → K' y) (h : Zcq P t i x K) : Zcq P t i x K' := by
 unfold Zcq at h ⊢
 split at h
 ·split at h
  ·grind
  grind
 grind
theorem Zft (hk : ∀ y, K y → K' y) (h : ZaJ P H t x y K) : ZaJ P H t x y K' := by
 unfold ZaJ at h ⊢
 grind
theorem ZjZ (hk : ∀ y, K y → K' y) (h : ZcL P t x y K) : ZcL P t x y K' := by
 unfold ZcL at h ⊢
 grind
theorem ZjE {neg : Bool} (hk : ∀ y, K y → K' y) (h : ZhV H neg x K) : ZhV H neg x K' := by
 unfold ZhV at h ⊢
 grind
theorem Zpd {op : BinOp} {ny : Bool} (hk : ∀ y, K y → K' y) (h : Zfk P H op t ny x y K) : Zfk P H op t ny x y K' := by
 unfold Zfk at h ⊢
 split at h
 ·exact ⟨h.1, ZhI hk h.2⟩
 ·exact Zhf hk h
 ·grind
 ·unfold Zop at h ⊢
  split at h
  ·split at h
   ·grind
   grind
  grind
 ·refine ⟨h.1, h.2.1, ?_⟩
  replace h := h.2.2
  split at h
  ·exact ZjE hk h
  ·exact ZjE hk h
  grind
 grind
theorem Ztx {op : UnOp} (hk : ∀ y, K y → K' y) (h : vUn op x K) : vUn op x K' := by
 unfold vUn at h ⊢
 grind
theorem Zln {u : TypeId} (hk : ∀ y, K y → K' y) (h : ZdW P t u x K) : ZdW P t u x K' := by
 unfold ZdW at h ⊢
 grind
theorem ZjP {lo hi : Option AV} {mx : Bool} (hk : ∀ y, K y → K' y) (h : Zcb P H t x lo hi mx K) : Zcb P H t x lo hi mx K' := by
 unfold Zcb at h ⊢
 grind
theorem Zpx (hk : ∀ y, K y → K' y) (h : ZhX P H t x K) : ZhX P H t x K' := by
 unfold ZhX at h ⊢
 grind
theorem Zkk {ps : List (Nat × AV)} (hk : ∀ y, K y → K' y) (h : ZcJ P t ps K) : ZcJ P t ps K' := by
 unfold ZcJ at h ⊢
 grind
theorem Zgt {op : Op} {ρ : Operand → AV} (hk : ∀ y, K y → K' y) (h : vOp P H op ρ K) : vOp P H op ρ K' := by
 cases op <;> simp only [vOp] at h ⊢ <;> try exact h.elim
 case move x => exact hk _ h
 case assign x => exact hk _ h
 case pick c a b =>
  split at h
  ·grind
  ·grind
 case load => exact ZeP hk h
 case fieldAddr => exact ZfA hk h
 case field => exact ZkD hk h
 case indexAddr => exact Zft hk h
 case index => exact ZjZ hk h
 case extract =>
  split at h
  ·grind
  ·grind
 case binOp => exact Zpd hk h
 case unOp => exact Ztx hk h
 case convert => exact Zln hk h
 case nilCheck =>
  unfold ZqE at h ⊢
  split at h
  ·grind
  ·grind
  ·grind
 case makeFunc => exact hk _ h
 case slice => exact ZjP hk h
 case build => exact Zkk hk h
 case lookup => exact Zhu hk h
 case call c =>
  split at h
  ·exact ⟨h.1, Zpx hk h.2⟩
  ·split at h
   ·unfold vMM at h ⊢
    grind
   ·unfold Zom at h ⊢
    grind
   grind
  ·grind
end
end
end Go.Eng
