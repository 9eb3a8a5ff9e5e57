/-
  The abstract state of a walk, part G: operations that write; calls; a whole operation.
-/
import Derived.Test.YthagpbkmakocjaaEngF
import Derived.Deep.AppendSrc
import Derived.Great.BuildSlice
namespace Go.Eng
set_option linter.all false
open Go Go.RowKit

def AV.low (l : Nat) : AV → Bool
  | .ref k _ _ _ | .ptr k _ _ => decide (k.1 ≤ l)
  | .fn _ _ _ | .agg _ | .tup _ => false
  | _ => true

def ArgsRep (w : World) (S : Nat → Prop) (H : Hp) (m : Mu) (l : Nat) (xs : List AV) (vs : Array Value) : Prop :=
  xs.length = vs.size ∧ ∀ (i : Nat) (x : AV) (v : Value), xs[i]? = some x → vs[i]? = some v → RepA w S H m l x v

/-- A call from level l: whatever the memory, it returns something that 'Post' lets. -/
def ACall (P : Program) (f : FuncId) (l : Nat) (xs : List AV) (H : Hp) (Post : AV → Hp → Prop) : Prop :=
  (∃ fn c, P.funcs[f]? = some fn ∧ fn.body = some c ∧ (fn.name == "runtime.NumGoroutine") = false) ∧
  ∀ m S w vs, Ok l H m S w → ArgsRep w S H m l xs vs →
    Calls P f vs w (fun e w' => ∃ r v H' m' S', e = .returned v ∧ Post r H' ∧ Ok l H' m' S' w' ∧ RepA w' S' H' m' l r v ∧ Ext l H m S w H' m' S' w')

theorem ACall.mono {P : Program} {f : FuncId} {l : Nat} {xs : List AV} {H : Hp} {Post Post' : AV → Hp → Prop} (h : ACall P f l xs H Post) (hp : ∀ r H', Post r H' → Post' r H') : ACall P f l xs H Post' :=
  ⟨h.1, fun m S w vs h1 h2 => (h.2 m S w vs h1 h2).mono fun _ _ ⟨r, v, H', m', S', a, b, c⟩ => ⟨r, v, H', m', S', a, hp _ _ b, c⟩⟩

def putK (n : Nat) (dst : Option Nat) (K : St → Prop) (σ : St) (x : AV) : Prop :=
  match dst with
  | some d => d < n ∧ K ⟨upd σ.s d x, σ.H⟩
  | none => K σ

def retK (n : Nat) (dst : Option Nat) (K : St → Prop) (σ : St) : AV → Hp → Prop := fun r H' => putK n dst K ⟨σ.s, H'⟩ r

/-- a new block in the frame's own slot -/
def newK (l n : Nat) (d : Nat) (e : TypeId) (sz : Nat) (cells : List AV) (x : Nat → AV) (K : St → Prop) (σ : St) : Prop :=
  d < n ∧ K ⟨upd σ.s d (x ((σ.H (l + 1, d)).g + 1)), updH σ.H (l + 1, d) ⟨(σ.H (l + 1, d)).g + 1, true, e, sz, cells⟩⟩

/-- what an append takes: so many elements, these cells -/
def srcA (H : Hp) (sz : Nat) : AV → Option (Nat × List AV)
  | .e0 => some (0, [])
  | .d (.list es) => if es.all (fun e => e.length == sz) then some (es.length, es.flatten.map .d) else none
  | .ref k g off n => if g = (H k).g ∧ (H k).live = true ∧ (H k).sz = sz ∧ (off + n) * sz ≤ (H k).cells.length then some (n, ((H k).cells.drop (off * sz)).take (n * sz)) else none
  | _ => none

def appK (P : Program) (l n : Nat) (d : Nat) (t : TypeId) (x y : AV) (K : St → Prop) (σ : St) : Prop :=
  match elm P t with
  | some (e, sz) => sz ≠ 0 ∧ P.bytesOf e ≠ 0 ∧ (zer P e).isSome = true ∧ match srcA σ.H sz y with
    | some (c, news) => news.all AV.one = true ∧ match x with
      | .e0 => c * P.bytesOf e ≤ 140737488355328 ∧ (c = 0 → d < n ∧ K ⟨upd σ.s d .e0, σ.H⟩) ∧ (c ≠ 0 → newK l n d e sz news (fun g => .ref (l + 1, d) g 0 c) K σ)
      | .ref k g off c' => g = (σ.H k).g ∧ (σ.H k).live = true ∧ (σ.H k).sz = sz ∧ (σ.H k).e = e ∧ (off + c') * sz = (σ.H k).cells.length ∧ (c' + c) * P.bytesOf e ≤ 140737488355328 ∧
          (k.1 = l + 1 ∨ news.all (AV.low k.1) = true) ∧ d < n ∧ K ⟨upd σ.s d (.ref k (g + 1) 0 (c' + c)), updH σ.H k ⟨g + 1, true, e, sz, (σ.H k).cells.drop (off * sz) ++ news⟩⟩
      | _ => False
    | none => False
  | none => False

/-- cells of pure data -/
def cellD : AV → Option D
  | .d x => some x
  | .e0 => some (.list [])
  | _ => none
def pureD : List AV → Option (List D)
  | [] => some []
  | x :: xs => match cellD x, pureD xs with
    | some d, some ds => some (d :: ds)
    | _, _ => none
def elD : AV → Option (List D)
  | .agg xs => pureD xs
  | x => match cellD x with | some d => some [d] | none => none
/-- a slice that is written out, of pure data -/
def litD (sz : Nat) : Nat → List (Nat × AV) → Option (List (List D))
  | _, [] => some []
  | i, (j, v) :: rest => match elD v, litD sz (i + 1) rest with
    | some e, some es => if j = i ∧ e.length = sz then some (e :: es) else none
    | _, _ => none

def rOp (P : Program) (l n : Nat) (o : Oper) (K : St → Prop) (σ : St) : Prop :=
  match o.op with
  | .alloc t => match o.dst, zer P t with | some d, some z => z ≠ [] ∧ newK l n d t z.length z (fun g => .ptr (l + 1, d) g 0) K σ | _, _ => False
  | .box t x => match o.dst, cellsAV (ev σ.s x) with | some d, some z => z ≠ [] ∧ newK l n d t z.length z (fun g => .ptr (l + 1, d) g 0) K σ | _, _ => False
  | .store t a x => match o.dst, ev σ.s a, cellsAV (ev σ.s x) with
    | none, .ptr k g off, some vs => g = (σ.H k).g ∧ (σ.H k).live = true ∧ vs.length = P.cellsOf t ∧ vs ≠ [] ∧ off + vs.length ≤ (σ.H k).cells.length ∧ (k.1 = l + 1 ∨ vs.all (AV.low k.1) = true) ∧
        K ⟨σ.s, updH σ.H k { σ.H k with cells := (σ.H k).cells.take off ++ vs ++ (σ.H k).cells.drop (off + vs.length) }⟩
    | _, _, _ => False
  | .buildSlice t len parts => match o.dst, elm P t with
    | some d, some (e, sz) => sz ≠ 0 ∧ match len with
      | 0 => parts.size = 0 ∧ d < n ∧ K ⟨upd σ.s d .e0, σ.H⟩
      | len + 1 => (len + 1) * sz ≤ 16777216 ∧ match zer P e with
        | some z => z.length = sz ∧ match litD sz 0 (parts.toList.map fun p => (p.1, ev σ.s p.2)) with
          | some es => es.length = len + 1 ∧ d < n ∧ K ⟨upd σ.s d (.d (.list es)), σ.H⟩
          | none => match fillA (fun i => some (i * sz, sz)) (List.replicate (len + 1) z).flatten (parts.toList.map fun p => (p.1, ev σ.s p.2)) with
            | some cs => newK l n d e sz cs (fun g => .ref (l + 1, d) g 0 (len + 1)) K σ
            | none => False
        | none => False
    | _, _ => False
  | .makeSlice t x y => match o.dst, elm P t, ev σ.s x, ev σ.s y with
    | some d, some (e, sz), .d (.int _ c), .d (.int _ c') => 0 ≤ c ∧ c ≤ c' ∧ sz ≠ 0 ∧ P.bytesOf e ≠ 0 ∧ (P.bytesOf e : Int) * c' ≤ 140737488355328 ∧ match zer P e with
      | some z => z.length = sz ∧ newK l n d e sz (List.replicate c.toNat z).flatten (fun g => .ref (l + 1, d) g 0 c.toNat) K σ
      | none => False
    | _, _, _, _ => False
  | .call c => match c.callee with
    | .value f => match ev σ.s f with
      | .fn (.func g) first caps => ACall P g (l + 1) (first ++ c.args.toList.map (ev σ.s) ++ caps) σ.H (retK n o.dst K σ)
      | _ => False
    | .builtin .append => match o.dst, c.args.toList, c.argTypes.toList with
      | some d, [x, y], [t, _] => c.argTypes[1]? = some t ∧ appK P l n d t (ev σ.s x) (ev σ.s y) K σ
      | _, _, _ => False
    | _ => vOp P σ.H o.op (ev σ.s) (putK n o.dst K σ)
  | _ => vOp P σ.H o.op (ev σ.s) (putK n o.dst K σ)

/-- what a walk asks of one operation -/
def AOp (P : Program) (l n : Nat) (B : Base) (o : Oper) (K : St → Prop) (σ : St) : Prop :=
  ∀ a w, R l n B σ a w → ∀ Q, o.wp P a w (fun a' w' => ∃ σ', K σ' ∧ R l n B σ' a' w') Q

section
variable {P : Program} {l n : Nat} {B : Base} {H H' : Hp} {m m' : Mu} {S S' : Nat → Prop} {w w' : World} {s : Nat → AV} {a : Act} {K : St → Prop} {o : Oper}

theorem Ok.over (h : Ok l H m S w) (k : Key) (hk : k.1 ≤ l) (b : Blk) (M : MB) (hg : (H k).g < b.g) (hcap : M.cap ≠ 0) (C : Array Value) (w' : World)
    (hw : ∀ i, w'.heap[i]? = if i = M.b then some (.cells C b.e (0, 0)) else w.heap[i]?) (hplace : M.b = w.heap.size ∨ (M.b = (m k).b ∧ (H k).live = true ∧ (m k).cap ≠ 0))
    (hC : C.size = M.o + M.cap * b.sz) (hlen : b.cells.length ≤ M.cap * b.sz) (hc : ∀ (i : Nat) (x : AV) (v : Value), b.cells[i]? = some x → C[M.o + i]? = some v → v.oneCell' = true ∧ RepA w S H m k.1 x v)
    (hsz : w.heap.size ≤ w'.heap.size) (h1 : w'.os = w.os) (h2 : w'.tape = w.tape) (h3 : w'.output = w.output) :
    Ok l (updH H k b) (updM m k M) S w' ∧ Ext l H m S w (updH H k b) (updM m k M) S w' := by
  have hS : ¬ S M.b := by
    rcases hplace with e | ⟨e, hl, hz⟩
    · intro hs; have := h.sub _ hs; omega
    · rw [e]; exact h.fresh k hk hl hz
  have hlt : ∀ q : Key, q.1 ≤ l → (H q).live = true → (m q).cap ≠ 0 → (m q).b < w.heap.size := fun q hq hl hc' => by
    obtain ⟨C, hb, _⟩ := h.blk q hq hl hc'
    rcases Nat.lt_or_ge (m q).b w.heap.size with hlt | hge
    · exact hlt
    · rw [Array.getElem?_eq_none hge] at hb; cases hb
  have hne : ∀ q : Key, q ≠ k → q.1 ≤ l → (H q).live = true → (m q).cap ≠ 0 → (m q).b ≠ M.b := fun q e hq hl hz he => by
    rcases hplace with e' | ⟨e', hl', hz'⟩
    · have := hlt q hq hl hz; omega
    · exact e (h.inj q k hq hk hl hl' hz hz' (he.trans e'))
  have hext : Ext l H m S w (updH H k b) (updM m k M) S w' := by
    refine ⟨fun _ h => h, fun i hi => ?_, fun q hq => ?_, fun q hq hgq hl => ?_, h1, h2, h3, hsz⟩
    · rw [hw, if_neg]; intro e; exact hS (e ▸ hi)
    · by_cases e : q = k
      · subst e; rw [updH_same]; omega
      · rw [updH_ne _ _ e]; exact Nat.le_refl _
    · by_cases e : q = k
      · subst e; rw [updH_same] at hgq; omega
      · rw [updH_ne _ _ e] at hl ⊢; rw [updM_ne _ _ e]; exact ⟨hl, rfl, rfl⟩
  refine ⟨⟨fun i hi => ?_, fun q hq hl hz => ?_, fun q hq hl hz => ?_, fun q q' hq hq' hl hl' hz hz' heq => ?_, fun q hq hl hz => ?_⟩, hext⟩
  · have := h.sub i hi; omega
  · by_cases e : q = k
    · subst e; rw [updM_same] at hz; exact absurd hz hcap
    · rw [updH_ne _ _ e] at hl ⊢; rw [updM_ne _ _ e] at hz; exact h.empty q hq hl hz
  · by_cases e : q = k
    · subst e; rw [updM_same]; exact hS
    · rw [updH_ne _ _ e] at hl; rw [updM_ne _ _ e] at hz ⊢; exact h.fresh q hq hl hz
  · by_cases e : q = k <;> by_cases e' : q' = k
    · rw [e, e']
    · subst e
      rw [updM_same, updM_ne _ _ e'] at heq
      rw [updH_ne _ _ e'] at hl'
      rw [updM_ne _ _ e'] at hz'
      exact absurd heq.symm (hne q' e' hq' hl' hz')
    · subst e'
      rw [updM_same, updM_ne _ _ e] at heq
      rw [updH_ne _ _ e] at hl
      rw [updM_ne _ _ e] at hz
      exact absurd heq (hne q e hq hl hz)
    · rw [updM_ne _ _ e, updM_ne _ _ e'] at heq
      rw [updH_ne _ _ e] at hl
      rw [updH_ne _ _ e'] at hl'
      rw [updM_ne _ _ e] at hz
      rw [updM_ne _ _ e'] at hz'
      exact h.inj q q' hq hq' hl hl' hz hz' heq
  · by_cases e : q = k
    · subst e
      rw [updH_same, updM_same]
      refine ⟨C, by rw [hw, if_pos rfl], hC, hlen, fun i x v hi hv => ?_⟩
      obtain ⟨g1, g2⟩ := hc i x v hi hv
      exact ⟨g1, g2.ext hext hk⟩
    · rw [updH_ne _ _ e] at hl ⊢
      rw [updM_ne _ _ e] at hz ⊢
      obtain ⟨C, hb, hs, hle, hx⟩ := h.blk q hq hl hz
      refine ⟨C, by rw [hw, if_neg (hne q e hq hl hz)]; exact hb, hs, hle, fun i x v hi hv => ?_⟩
      obtain ⟨g1, g2⟩ := hx i x v hi hv
      exact ⟨g1, g2.ext hext hq⟩

theorem RepA.low {x : AV} {v : Value} {l' : Nat} (hx : RepA w S H m l x v) (h : x.low l' = true) : RepA w S H m l' x v := by
  cases hx with
  | top v => exact .top _
  | d x v hd => exact .d _ _ hd
  | e0 a => exact .e0 _
  | p v h1 => exact .p _ h1
  | refL k off n a hk hl hn ha => exact .refL k off n a (by simpa [AV.low] using h) hl hn ha
  | refD k g off n v hk hg hd h1 => exact .refD k g off n v (by simpa [AV.low] using h) hg hd h1
  | ptrL k off hk hl => exact .ptrL k off (by simpa [AV.low] using h) hl
  | ptrD k g off v hk hg hd h1 => exact .ptrD k g off v (by simpa [AV.low] using h) hg hd h1
  | iptr cs off a c hb hc hr => exact .iptr cs off a c hb hc hr
  | fn => cases h
  | agg => cases h
  | tup => cases h

/-- the next state, behind an operation that yields a value -/
theorem R.step (hO : Ok (l + 1) H' m' S' w') (hn : a.tmps.size = n) (hd : a.defers = []) (hS : Slots (l + 1) s H m S a w) (he : Ext l B.H B.m B.S B.w H m S w) (hx : Ext (l + 1) H m S w H' m' S' w') {d : Nat} (hdn : d < n)
    {x : AV} {v : Value} (hv : RepA w' S' H' m' (l + 1) x v) : R l n B ⟨upd s d x, H'⟩ (a.put (some d) v) w' :=
  ⟨m', S', hO, by rw [put_size]; exact hn, by rw [put_defers]; exact hd, (hS.ext hx).put (by omega) hv, he.trans (hx.mono (by omega))⟩

theorem R.un (h : R l n B ⟨s, H⟩ a w) : ∃ m S, Ok (l + 1) H m S w ∧ a.tmps.size = n ∧ a.defers = [] ∧ Slots (l + 1) s H m S a w ∧ Ext l B.H B.m B.S B.w H m S w := h

theorem R.keep (hO : Ok (l + 1) H' m' S' w') (hn : a.tmps.size = n) (hd : a.defers = []) (hS : Slots (l + 1) s H m S a w) (he : Ext l B.H B.m B.S B.w H m S w) (hx : Ext (l + 1) H m S w H' m' S' w') : R l n B ⟨s, H'⟩ a w' :=
  ⟨m', S', hO, hn, hd, hS.ext hx, he.trans (hx.mono (by omega))⟩

theorem wp_of_run {v : Value} {N : Act → World → Prop} {Q : Exit → Act → World → Prop} (h : (execOp a.eval o).run P w = .ok (.value v) w') (hN : N (a.put o.dst v) w') : o.wp P a w N Q := by
  unfold Oper.wp; rw [h]; exact hN

theorem aop_vOp (h : vOp P H o.op (ev s) (putK n o.dst K ⟨s, H⟩)) : AOp P l n B o K ⟨s, H⟩ := by
  intro a w hR Q
  obtain ⟨m, S, hO, hn, hd, hS, he⟩ := hR
  obtain ⟨v, x, h1, h2, h3⟩ := vOp_sound h hO hS
  refine wp_of_run h1 ?_
  unfold putK at h3
  cases hdst : o.dst with
  | none =>
    rw [hdst] at h3
    exact ⟨_, h3, ⟨m, S, hO, hn, hd, hS, he⟩⟩
  | some d =>
    rw [hdst] at h3
    exact ⟨_, h3.2, R.step hO hn hd hS he (Ext.refl _ _ _ _ _) h3.1 h2⟩

/-- a new block -/
theorem aop_new {d : Nat} {e : TypeId} {sz cap : Nat} {cells : List AV} {x : Nat → AV} (hd : o.dst = some d) (hcap : cap ≠ 0)
    (hrun : ∀ a w m S, Ok (l + 1) H m S w → Slots (l + 1) s H m S a w → ∃ (C : Array Value) (v : Value) (w' : World), (execOp a.eval o).run P w = .ok (.value v) w' ∧ w'.heap = w.heap.push (.cells C e (0, 0)) ∧ w'.os = w.os ∧ w'.tape = w.tape ∧ w'.output = w.output ∧
      (∀ H' m', H' = updH H (l + 1, d) ⟨(H (l + 1, d)).g + 1, true, e, sz, cells⟩ → m' = updM m (l + 1, d) ⟨w.heap.size, 0, cap⟩ → RepA w' S H' m' (l + 1) (x ((H (l + 1, d)).g + 1)) v) ∧
      C.size = cap * sz ∧ cells.length ≤ C.size ∧ ∀ (i : Nat) (y : AV) (u : Value), cells[i]? = some y → C[i]? = some u → u.oneCell' = true ∧ RepA w S H m (l + 1) y u)
    (hK : newK l n d e sz cells x K ⟨s, H⟩) : AOp P l n B o K ⟨s, H⟩ := by
  intro a w hR Q
  obtain ⟨m, S, hO, hn, hdf, hS, he⟩ := hR
  obtain ⟨C, v, w', h1, hw, g1, g2, g3, hv, hC, hlen, hc⟩ := hrun a w m S hO hS
  obtain ⟨k1, k2⟩ := hO.alloc (l + 1, d) (Nat.le_refl _) e sz cap cells C hcap hC hlen hc w' hw g1 g2 g3
  refine wp_of_run h1 ?_
  rw [hd]
  exact ⟨_, hK.2, R.step k1 hn hdf hS he k2 hK.1 (hv _ _ rfl rfl)⟩
end
end Go.Eng
