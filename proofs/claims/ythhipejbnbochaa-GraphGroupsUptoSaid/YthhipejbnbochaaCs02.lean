import Derived.Test.YthhipejbnbochaaCs01
import Derived.Deep.AppendSrc
import Derived.Great.BuildSlice
import Derived.Test.YthhipejbnbochaaCs00
namespace Go.Eng
set_option linter.all false
open Go Go.RowKit
def AV.low (l : Nat) : AV → Bool
 | .ref k _ _ _ | .ptr k _ _ | .mp k _ => decide (k.1 ≤ l)
 | .fn _ _ _ | .agg _ | .tup _ => false
 | _ => true
def Zdt (w : World) (S : Nat → Prop) (H : Hp) (m : Mu) (l : Nat) (xs : List AV) (vs : Array Value) : Prop :=
 xs.length = vs.size ∧ ∀ (i : Nat) (x : AV) (v : Value), xs[i]? = some x → vs[i]? = some v → RepA w S H m l x v
def Za3 (P : Program) (f : FuncId) (l : Nat) (xs : List AV) (H : Hp) (Post : AV → Hp → Prop) : Prop :=
 (∃ fn c, P.funcs[f]? = some fn ∧ fn.body = some c ∧ (fn.name == "runtime.NumGoroutine") = false) ∧
 ∀ m S w vs, Ok l H m S w → Zdt w S H m l xs vs →
  Calls P f vs w (fun e w' => ∃ r v H' m' S', e = .returned v ∧ Post r H' ∧ Ok l H' m' S' w' ∧ RepA w' S' H' m' l r v ∧ Ext l H m S w H' m' S' w')
theorem Za3.mono {P : Program} {f : FuncId} {l : Nat} {xs : List AV} {H : Hp} {Post Post' : AV → Hp → Prop} (h : Za3 P f l xs H Post) (hp : ∀ r H', Post r H' → Post' r H') : Za3 P f l xs H Post' :=
 ⟨h.1, fun m S w vs h1 h2 => (h.2 m S w vs h1 h2).mono fun _ _ ⟨r, v, H', m', S', a, b, c⟩ => ⟨r, v, H', m', S', a, hp _ _ b, c⟩⟩
def Ze2 (n : Nat) (dst : Option Nat) (K : St → Prop) (σ : St) (x : AV) : Prop :=
 match dst with
 | some d => d < n ∧ K ⟨upd σ.s d x, σ.H⟩
 | none => K σ
def Zvn (n : Nat) (dst : Option Nat) (K : St → Prop) (σ : St) : AV → Hp → Prop := fun r H' => Ze2 n dst K ⟨σ.s, H'⟩ r
def ZiE (l n : Nat) (d : Nat) (e : TypeId) (sz : Nat) (cells : List AV) (x : Nat → AV) (K : St → Prop) (σ : St) : Prop :=
 d < n ∧ K ⟨upd σ.s d (x ((σ.H (l + 1, d)).g + 1)), updH σ.H (l + 1, d) ⟨(σ.H (l + 1, d)).g + 1, true, e, sz, cells⟩⟩
def ZqR (H : Hp) (sz : Nat) : AV → Option (Nat × List AV)
 | .e0 => some (0, [])
 | .d (.list es) => if es.all (fun e => e.length == sz) then some (es.length, es.flatten.map .d) else none
 | .ref k g off n => if g = (H k).g ∧ (H k).live = true ∧ (H k).sz = sz ∧ (off + n) * sz ≤ (H k).cells.length then some (n, ((H k).cells.drop (off * sz)).take (n * sz)) else none
 | _ => none
def Zuu (P : Program) (l n : Nat) (d : Nat) (t : TypeId) (x y : AV) (K : St → Prop) (σ : St) : Prop :=
 match elm P t with
 | some (e, sz) => sz ≠ 0 ∧ P.bytesOf e ≠ 0 ∧ (zer P e).isSome = true ∧ match ZqR σ.H sz y with
  | some (c, news) => news.all AV.one = true ∧ match x with
   | .e0 => c * P.bytesOf e ≤ 140737488355328 ∧ (c = 0 → d < n ∧ K ⟨upd σ.s d .e0, σ.H⟩) ∧ (c ≠ 0 → ZiE l n d e sz news (fun g => .ref (l + 1, d) g 0 c) K σ)
   | .ref k g off c' => g = (σ.H k).g ∧ (σ.H k).live = true ∧ (σ.H k).sz = sz ∧ (σ.H k).e = .t e ∧ (off + c') * sz = (σ.H k).cells.length ∧ (c' + c) * P.bytesOf e ≤ 140737488355328 ∧
     (k.1 = l + 1 ∨ news.all (AV.low k.1) = true) ∧ d < n ∧ K ⟨upd σ.s d (.ref k (g + 1) 0 (c' + c)), updH σ.H k ⟨g + 1, true, e, sz, (σ.H k).cells.drop (off * sz) ++ news⟩⟩
   | _ => False
  | none => False
 | none => False
def Zde : AV → Option D
 | .d x => some x
 | .e0 => some (.list [])
 | _ => none
def Zcm : List AV → Option (List D)
 | [] => some []
 | x :: xs => match Zde x, Zcm xs with
  | some d, some ds => some (d :: ds)
  | _, _ => none
def elD : AV → Option (List D)
 | .agg xs => Zcm xs
 | x => match Zde x with | some d => some [d] | none => none
def ZkU (sz : Nat) : Nat → List (Nat × AV) → Option (List (List D))
 | _, [] => some []
 | i, (j, v) :: rest => match elD v, ZkU sz (i + 1) rest with
  | some e, some es => if j = i ∧ e.length = sz then some (e :: es) else none
  | _, _ => none
def rOp (P : Program) (l n : Nat) (o : Oper) (K : St → Prop) (σ : St) : Prop :=
 match o.op with
 | .alloc t => match o.dst, zer P t with | some d, some z => z ≠ [] ∧ ZiE l n d t z.length z (fun g => .ptr (l + 1, d) g 0) K σ | _, _ => False
 | .box t x => match o.dst, ZaZ (ev σ.s x) with | some d, some z => z ≠ [] ∧ ZiE l n d t z.length z (fun g => .ptr (l + 1, d) g 0) K σ | _, _ => False
 | .store t a x => match o.dst, ev σ.s a, ZaZ (ev σ.s x) with
  | none, .ptr k g off, some vs => g = (σ.H k).g ∧ (σ.H k).live = true ∧ vs.length = P.cellsOf t ∧ vs ≠ [] ∧ off + vs.length ≤ (σ.H k).cells.length ∧ (k.1 = l + 1 ∨ vs.all (AV.low k.1) = true) ∧
    K ⟨σ.s, updH σ.H k { σ.H k with cells := (σ.H k).cells.take off ++ vs ++ (σ.H k).cells.drop (off + vs.length) }⟩
  | _, _, _ => False
 | .buildSlice t len parts => match o.dst, elm P t with
  | some d, some (e, sz) => sz ≠ 0 ∧ match len with
   | 0 => parts.size = 0 ∧ d < n ∧ K ⟨upd σ.s d .e0, σ.H⟩
   | len + 1 => (len + 1) * sz ≤ 16777216 ∧ match zer P e with
    | some z => z.length = sz ∧ match ZkU sz 0 (parts.toList.map fun p => (p.1, ev σ.s p.2)) with
     | some es => es.length = len + 1 ∧ d < n ∧ K ⟨upd σ.s d (.d (.list es)), σ.H⟩
     | none => match ZbS (fun i => some (i * sz, sz)) (List.replicate (len + 1) z).flatten (parts.toList.map fun p => (p.1, ev σ.s p.2)) with
      | some cs => ZiE l n d e sz cs (fun g => .ref (l + 1, d) g 0 (len + 1)) K σ
      | none => False
    | none => False
  | _, _ => False
 | .makeSlice t x y => match o.dst, elm P t, ev σ.s x, ev σ.s y with
  | some d, some (e, sz), .d (.int _ c), .d (.int _ c') => 0 ≤ c ∧ c ≤ c' ∧ sz ≠ 0 ∧ P.bytesOf e ≠ 0 ∧ (P.bytesOf e : Int) * c' ≤ 140737488355328 ∧ match zer P e with
   | some z => z.length = sz ∧ ZiE l n d e sz (List.replicate c.toNat z).flatten (fun g => .ref (l + 1, d) g 0 c.toNat) K σ
   | none => False
  | _, _, _, _ => False
 | .call c => match c.callee with
  | .value f => match ev σ.s f with
   | .fn (.func g) first caps => Za3 P g (l + 1) (first ++ c.args.toList.map (ev σ.s) ++ caps) σ.H (Zvn n o.dst K σ)
   | _ => False
  | .builtin .append => match o.dst, c.args.toList, c.argTypes.toList with
   | some d, [x, y], [t, _] => c.argTypes[1]? = some t ∧ Zuu P l n d t (ev σ.s x) (ev σ.s y) K σ
   | _, _, _ => False
  | _ => vOp P σ.H o.op (ev σ.s) (Ze2 n o.dst K σ)
 | _ => vOp P σ.H o.op (ev σ.s) (Ze2 n o.dst K σ)
def AOp (P : Program) (l n : Nat) (B : Base) (o : Oper) (K : St → Prop) (σ : St) : Prop :=
 ∀ a w, R l n B σ a w → ∀ Q, o.wp P a w (fun a' w' => ∃ σ', K σ' ∧ R l n B σ' a' w') Q
section
variable {P : Program} {l n : Nat} {B : Base} {H H' : Hp} {m m' : Mu} {S S' : Nat → Prop} {w w' : World} {s : Nat → AV} {a : Act} {K : St → Prop} {o : Oper}
theorem Ok.over (h : Ok l H m S w) (k : Key) (hk : k.1 ≤ l) (b : Blk) (M : MB) (hg : (H k).g < b.g) (hbe : b.e.isO = false) (hcap : M.cap ≠ 0) (C : Array Value) (w' : World)
  (hw : ∀ i, w'.heap[i]? = if i = M.b then some (.cells C b.e.ty (0, 0)) else w.heap[i]?) (hplace : M.b = w.heap.size ∨ (M.b = (m k).b ∧ (H k).live = true ∧ (m k).cap ≠ 0))
  (hC : C.size = M.o + M.cap * b.sz) (hlen : b.cells.length ≤ M.cap * b.sz) (hc : ∀ (i : Nat) (x : AV) (v : Value), b.cells[i]? = some x → C[M.o + i]? = some v → v.oneCell' = true ∧ RepA w S H m k.1 x v)
  (hsz : w.heap.size ≤ w'.heap.size) (h1 : w'.os = w.os) (h2 : w'.tape = w.tape) (h3 : w'.output = w.output) :
  Ok l (updH H k b) (Zb2 m k M) S w' ∧ Ext l H m S w (updH H k b) (Zb2 m k M) S w' := by
 have hS : ¬ S M.b := by
  rcases hplace with e | ⟨e, hl, hz⟩
  ·intro hs; have := h.sub _ hs; omega
  ·rw [e]; exact h.fresh k hk hl hz
 have hlt : ∀ q : Key, q.1 ≤ l → (H q).live = true → (m q).cap ≠ 0 → (m q).b < w.heap.size := fun q hq hl hc' => by
  obtain ⟨C, hb, _⟩ := h.blk q hq hl hc'
  rcases Yt (m q).b w.heap.size with hlt | hge
  ·exact hlt
  ·rw [YY hge] at hb; cases hb
 have hne : ∀ q : Key, q ≠ k → q.1 ≤ l → (H q).live = true → (m q).cap ≠ 0 → (m q).b ≠ M.b := fun q e hq hl hz he => by
  rcases hplace with e' | ⟨e', hl', hz'⟩
  ·have := hlt q hq hl hz; omega
  ·exact e (h.inj q k hq hk hl hl' hz hz' (he.trans e'))
 have hext : Ext l H m S w (updH H k b) (Zb2 m k M) S w' := by
  refine ⟨fun _ h => h, fun i hi => ?_, fun q hq => ?_, fun q hq hgq hl => ?_, h1, h2, h3, hsz⟩
  ·rw [hw, if_neg]; intro e; exact hS (e ▸ hi)
  ·by_cases e : q = k
   ·subst e; rw [Zaa]; omega
   ·rw [Zab _ _ e]; exact Yg _
  ·by_cases e : q = k
   ·subst e; rw [Zaa] at hgq; omega
   ·rw [Zab _ _ e] at hl ⊢; rw [Zae _ _ e]; exact ⟨hl, rfl, rfl⟩
 refine ⟨⟨fun i hi => ?_, fun q hq hl hz => ?_, fun q hq hl hz => ?_, fun q q' hq hq' hl hl' hz hz' heq => ?_, fun q hq hl hz => ?_,
  h.mp.upd (Yg _) k b hbe (fun q e => Zae _ _ e) (fun _ h => h) (fun _ h => .inl h) hext.blk (fun i o ho hc' => by
   rw [hw]
   split
   ·rename_i e
    rcases hplace with e' | ⟨e', hl', hz'⟩
    ·have := Zbc ho; omega
    ·obtain ⟨C, hb, _⟩ := h.blk k hk hl' hz'
     rw [e, e', hb] at ho; cases ho; cases hc'
   ·exact ho)⟩, hext⟩
 ·have := h.sub i hi; omega
 ·by_cases e : q = k
  ·subst e; rw [Zac] at hz; exact absurd hz hcap
  ·rw [Zab _ _ e] at hl ⊢; rw [Zae _ _ e] at hz; exact h.empty q hq hl hz
 ·by_cases e : q = k
  ·subst e; rw [Zac]; exact hS
  ·rw [Zab _ _ e] at hl; rw [Zae _ _ e] at hz ⊢; exact h.fresh q hq hl hz
 ·by_cases e : q = k <;> by_cases e' : q' = k
  ·rw [e, e']
  ·subst e
   rw [Zac, Zae _ _ e'] at heq
   rw [Zab _ _ e'] at hl'
   rw [Zae _ _ e'] at hz'
   exact absurd heq.symm (hne q' e' hq' hl' hz')
  ·subst e'
   rw [Zac, Zae _ _ e] at heq
   rw [Zab _ _ e] at hl
   rw [Zae _ _ e] at hz
   exact absurd heq (hne q e hq hl hz)
  ·rw [Zae _ _ e, Zae _ _ e'] at heq
   rw [Zab _ _ e] at hl
   rw [Zab _ _ e'] at hl'
   rw [Zae _ _ e] at hz
   rw [Zae _ _ e'] at hz'
   exact h.inj q q' hq hq' hl hl' hz hz' heq
 ·by_cases e : q = k
  ·subst e
   rw [Zaa, Zac]
   refine ⟨C, by rw [hw, if_pos rfl], hC, hlen, fun i x v hi hv => ?_⟩
   obtain ⟨g1, g2⟩ := hc i x v hi hv
   exact ⟨g1, g2.ext hext hk⟩
  ·rw [Zab _ _ e] at hl ⊢
   rw [Zae _ _ e] at hz ⊢
   obtain ⟨C, hb, hs, hle, hx⟩ := h.blk q hq hl hz
   refine ⟨C, by rw [hw, if_neg (hne q e hq hl hz)]; exact hb, hs, hle, fun i x v hi hv => ?_⟩
   obtain ⟨g1, g2⟩ := hx i x v hi hv
   exact ⟨g1, g2.ext hext hq⟩
theorem RepA.low {x : AV} {v : Value} {l' : Nat} (hx : RepA w S H m l x v) (h : x.low l' = true) : RepA w S H m l' x v := by
 cases hx with
 | top v => exact .top _
 | d x v hd => exact .d _ _ hd
 | e0 a => exact .e0 _
 | p v h1 => exact .p _ h1
 | refL k off n a hk hl hn ha => exact .refL k off n a (by simpa [AV.low] using h) hl hn ha
 | refD k g off n v hk hg hd h1 => exact .refD k g off n v (by simpa [AV.low] using h) hg hd h1
 | ptrL k off hk hl => exact .ptrL k off (by simpa [AV.low] using h) hl
 | ptrD k g off v hk hg hd h1 => exact .ptrD k g off v (by simpa [AV.low] using h) hg hd h1
 | mpL k hk hl => exact .mpL k (by simpa [AV.low] using h) hl
 | mpD k g v hk hg hd h1 => exact .mpD k g v (by simpa [AV.low] using h) hg hd h1
 | iptr cs off a c hb hc hr => exact .iptr cs off a c hb hc hr
 | fn => cases h
 | agg => cases h
 | tup => cases h
theorem R.step (hO : Ok (l + 1) H' m' S' w') (hn : a.tmps.size = n) (hd : a.defers = []) (hS : Zch (l + 1) s H m S a w) (he : Ext l B.H B.m B.S B.w H m S w) (hx : Ext (l + 1) H m S w H' m' S' w') {d : Nat} (hdn : d < n)
  {x : AV} {v : Value} (hv : RepA w' S' H' m' (l + 1) x v) : R l n B ⟨upd s d x, H'⟩ (a.put (some d) v) w' :=
 ⟨m', S', hO, by rw [ZoQ]; exact hn, by rw [Zj5]; exact hd, (hS.ext hx).put (by omega) hv, he.trans (hx.mono (by omega))⟩
theorem R.un (h : R l n B ⟨s, H⟩ a w) : ∃ m S, Ok (l + 1) H m S w ∧ a.tmps.size = n ∧ a.defers = [] ∧ Zch (l + 1) s H m S a w ∧ Ext l B.H B.m B.S B.w H m S w := h
theorem R.keep (hO : Ok (l + 1) H' m' S' w') (hn : a.tmps.size = n) (hd : a.defers = []) (hS : Zch (l + 1) s H m S a w) (he : Ext l B.H B.m B.S B.w H m S w) (hx : Ext (l + 1) H m S w H' m' S' w') : R l n B ⟨s, H'⟩ a w' :=
 ⟨m', S', hO, hn, hd, hS.ext hx, he.trans (hx.mono (by omega))⟩
theorem ZaB {v : Value} {N : Act → World → Prop} {Q : Exit → Act → World → Prop} (h : (execOp a.eval o).run P w = .ok (.value v) w') (hN : N (a.put o.dst v) w') : o.wp P a w N Q := by
 unfold Oper.wp; rw [h]; exact hN
theorem Zge (h : vOp P H o.op (ev s) (Ze2 n o.dst K ⟨s, H⟩)) : AOp P l n B o K ⟨s, H⟩ := by
 intro a w hR Q
 obtain ⟨m, S, hO, hn, hd, hS, he⟩ := hR
 obtain ⟨v, x, h1, h2, h3⟩ := Zmx h hO hS
 refine ZaB h1 ?_
 unfold Ze2 at h3
 cases hdst : o.dst with
 | none =>
  rw [hdst] at h3
  exact ⟨_, h3, ⟨m, S, hO, hn, hd, hS, he⟩⟩
 | some d =>
  rw [hdst] at h3
  exact ⟨_, h3.2, R.step hO hn hd hS he (Ext.refl _ _ _ _ _) h3.1 h2⟩
theorem ZiG {d : Nat} {e : TypeId} {sz cap : Nat} {cells : List AV} {x : Nat → AV} (hd : o.dst = some d) (hcap : cap ≠ 0)
  (hrun : ∀ a w m S, Ok (l + 1) H m S w → Zch (l + 1) s H m S a w → ∃ (C : Array Value) (v : Value) (w' : World), (execOp a.eval o).run P w = .ok (.value v) w' ∧ w'.heap = w.heap.push (.cells C e (0, 0)) ∧ w'.os = w.os ∧ w'.tape = w.tape ∧ w'.output = w.output ∧
   (∀ H' m', H' = updH H (l + 1, d) ⟨(H (l + 1, d)).g + 1, true, e, sz, cells⟩ → m' = Zb2 m (l + 1, d) ⟨w.heap.size, 0, cap⟩ → RepA w' S H' m' (l + 1) (x ((H (l + 1, d)).g + 1)) v) ∧
   C.size = cap * sz ∧ cells.length ≤ C.size ∧ ∀ (i : Nat) (y : AV) (u : Value), cells[i]? = some y → C[i]? = some u → u.oneCell' = true ∧ RepA w S H m (l + 1) y u)
  (hK : ZiE l n d e sz cells x K ⟨s, H⟩) : AOp P l n B o K ⟨s, H⟩ := by
 intro a w hR Q
 obtain ⟨m, S, hO, hn, hdf, hS, he⟩ := hR
 obtain ⟨C, v, w', h1, hw, g1, g2, g3, hv, hC, hlen, hc⟩ := hrun a w m S hO hS
 obtain ⟨k1, k2⟩ := hO.alloc (l + 1, d) (Yg _) e sz cap cells C hcap hC hlen hc w' hw g1 g2 g3
 refine ZaB h1 ?_
 rw [hd]
 exact ⟨_, hK.2, R.step k1 hn hdf hS he k2 hK.1 (hv _ _ rfl rfl)⟩
end
end Go.Eng
namespace Go.Eng
set_option linter.all false
open Go Go.RowKit
section
variable {P : Program} {l n : Nat} {B : Base} {H H' : Hp} {m m' : Mu} {S S' : Nat → Prop} {w w' : World} {s : Nat → AV} {a : Act} {K : St → Prop} {o : Oper}
theorem ZnI {d g : Nat} {e : TypeId} {sz : Nat} {cells : List AV} {i : Nat} : ∀ (H' : Hp) (m' : Mu), H' = updH H (l + 1, d) ⟨g, true, e, sz, cells⟩ → m' = Zb2 m (l + 1, d) ⟨i, 0, 1⟩ →
  RepA w' S H' m' (l + 1) (.ptr (l + 1, d) g 0) (.pointer (some ⟨i, 0, none⟩)) := by
 rintro H' m' rfl rfl
 have := RepA.ptrL (w := w') (S := S) (H := updH H (l + 1, d) ⟨g, true, e, sz, cells⟩) (m := Zb2 m (l + 1, d) ⟨i, 0, 1⟩) (l := l + 1) (l + 1, d) 0 (Yg _) (by rw [Zaa])
 rw [Zaa, Zac] at this
 exact this
theorem Zli {t : TypeId} {d : Nat} {z : List AV} (ho : o.op = .alloc t) (hd : o.dst = some d) (hz : zer P t = some z) (hne : z ≠ [])
  (hK : ZiE l n d t z.length z (fun g => .ptr (l + 1, d) g 0) K ⟨s, H⟩) : AOp P l n B o K ⟨s, H⟩ := by
 refine ZiG (cap := 1) hd (by decide) (fun a w m S hO hS => ?_) hK
 obtain ⟨it, zv, hi, hz0, hr, _⟩ := Zce (w := w) (S := S) (H := H) (m := m) (l := l + 1) hz
 refine ⟨zv.cells, _, w.alloc (.cells zv.cells t), ?_, rfl, rfl, rfl, rfl, ZnI, by rw [← hr.1]; simp, by rw [hr.1]; exact Yg _, hr.2⟩
 simp [execOp, ho, Instr.alloc, zeroValue, typeInfo, hi, hz0, newVar, newRow]
theorem ZsO {t : TypeId} {x : Operand} {d : Nat} {z : List AV} (ho : o.op = .box t x) (hd : o.dst = some d) (hz : ZaZ (ev s x) = some z) (hne : z ≠ [])
  (hK : ZiE l n d t z.length z (fun g => .ptr (l + 1, d) g 0) K ⟨s, H⟩) : AOp P l n B o K ⟨s, H⟩ := by
 refine ZiG (cap := 1) hd (by decide) (fun a w m S hO hS => ?_) hK
 have hr := ZeY (Za9 hS x) hz
 refine ⟨(a.eval x).cells, _, w.alloc (.cells (a.eval x).cells t), ?_, rfl, rfl, rfl, rfl, ZnI, by rw [← hr.1]; simp, by rw [hr.1]; exact Yg _, hr.2⟩
 simp [execOp, ho, Instr.box, newVar, newRow]
theorem ZnG {t : TypeId} {p x : Operand} {k : Key} {g off : Nat} {vs : List AV} (ho : o.op = .store t p x) (hd : o.dst = none) (hp : ev s p = .ptr k g off) (hx : ZaZ (ev s x) = some vs)
  (hg : g = (H k).g) (hl : (H k).live = true) (hlen : vs.length = P.cellsOf t) (hne : vs ≠ []) (hoff : off + vs.length ≤ (H k).cells.length) (hlow : k.1 = l + 1 ∨ vs.all (AV.low k.1) = true)
  (hK : K ⟨s, updH H k { H k with cells := (H k).cells.take off ++ vs ++ (H k).cells.drop (off + vs.length) }⟩) : AOp P l n B o K ⟨s, H⟩ := by
 intro a w hR Q
 obtain ⟨m, S, hO, hn, hdf, hS, he⟩ := hR.un
 have hp' := Za9 hS p
 rw [hp] at hp'
 have hr := ZeY (Za9 hS x) hx
 have hpos : 0 < vs.length := Ybb.2 hne
 generalize hpv : a.eval p = pv at hp'
 cases hp' with
 | ptrD k g off v hk hg' hd' h1 => rw [hd' hg] at hl; cases hl
 | ptrL k off hk hl' =>
  have hcap : (m k).cap ≠ 0 := fun e => by have := hO.empty k hk hl e; rw [this, YaB] at hoff; omega
  obtain ⟨C, h1, h2, h3, h4⟩ := hO.blk k hk hl hcap
  have hvl : (a.eval x).cells.toList.length = vs.length := by simp [hr.1]
  have hone : ∀ v ∈ (a.eval x).cells.toList, v.oneCell' = true := by
   intro v hv
   obtain ⟨i, hi⟩ := Yx.1 hv
   rw [Yk] at hi
   have hlt : i < vs.length := by
    rw [hr.1]
    rcases Yt i (a.eval x).cells.size with h | h
    ·exact h
    ·rw [YY h] at hi; cases hi
   exact (hr.2 i _ v (Yd hlt) hi).1
  have hst := run_storeCells_at (P := P) (m k).b ((m k).o + off) (H k).e.ty (a.eval x).cells.toList 0 C w h1 (by rw [hvl]; omega) hone
  have hrun : (execOp a.eval o).run P w = .ok .skip (w.setRow (m k).b (C.toList.take ((m k).o + off + 0) ++ (a.eval x).cells.toList ++ C.toList.drop ((m k).o + off + 0 + (a.eval x).cells.toList.length)).toArray) := by
   have hsz : (a.eval x).cells.size = P.cellsOf t := by rw [← hr.1, hlen]
   simp only [execOp, ho, hpv, Instr.storeAt, Instr.sureAddr, storeVar, Sem.run_bind, Sem.run_pure, Result.andThen_ok, Zbh (P := P) (t := t) (show P.cellsOf t ≠ 0 by omega), hsz, ne_eq, not_true_eq_false, if_false, hst]
  simp only [Yad] at hrun
  obtain ⟨k1, k2⟩ := hO.write k hk hl hcap ((H k).cells.take off ++ vs ++ (H k).cells.drop (off + vs.length))
   (C.toList.take ((m k).o + off) ++ (a.eval x).cells.toList ++ C.toList.drop ((m k).o + off + (a.eval x).cells.toList.length)).toArray
   (by simp [hvl]; omega) (by simp; omega)
   (w.setRow (m k).b (C.toList.take ((m k).o + off) ++ (a.eval x).cells.toList ++ C.toList.drop ((m k).o + off + (a.eval x).cells.toList.length)).toArray)
   (fun b => by
    by_cases e : b = (m k).b
    ·subst e; rw [if_pos rfl]; exact setRow_heap w _ C _ _ _ h1
    ·rw [if_neg e]; exact setRow_other w _ _ _ e)
   (by simp) rfl rfl rfl (fun i y v hi hv => by
    have hv : (C.toList.take ((m k).o + off) ++ (a.eval x).cells.toList ++ C.toList.drop ((m k).o + off + (a.eval x).cells.toList.length))[(m k).o + i]? = some v := by simpa using hv
    rw [hvl] at hv
    have hCl : C.toList.length = C.size := by simp
    have hT : (C.toList.take ((m k).o + off)).length = (m k).o + off := by rw [YX, hCl]; omega
    have hT2 : ((H k).cells.take off).length = off := by rw [YX]; omega
    rcases Yt i off with h | h
    ·rw [YS, Yi (by rw [hT2]; omega), YP, if_pos h] at hi
     rw [YS, Yi (by rw [hT]; omega), YP, if_pos (by omega), Yk] at hv
     exact h4 i y v hi hv
    ·rcases Yt i (off + vs.length) with h' | h'
     ·rw [Yi (by rw [List.length_append, hT2]; omega), Yp (by rw [hT2]; omega), hT2] at hi
      rw [Yi (by rw [List.length_append, hT, hvl]; omega), Yp (by rw [hT]; omega), hT, Yk] at hv
      rw [show (m k).o + i - ((m k).o + off) = i - off from by omega] at hv
      obtain ⟨q1, q2⟩ := hr.2 _ y v hi hv
      refine ⟨q1, ?_⟩
      rcases hlow with e | e
      ·rw [e]; exact q2
      ·exact q2.low (Yj.1 e y (Ym hi))
     ·rw [Yp (by rw [List.length_append, hT2]; omega), YI, List.length_append, hT2] at hi
      rw [Yp (by rw [List.length_append, hT, hvl]; omega), YI, Yk, List.length_append, hT, hvl] at hv
      rw [show off + vs.length + (i - (off + vs.length)) = i from by omega] at hi
      rw [show (m k).o + off + vs.length + ((m k).o + i - ((m k).o + off + vs.length)) = (m k).o + i from by omega] at hv
      exact h4 i y v hi hv)
  unfold Oper.wp
  rw [hrun]
  simp only [Oper.upon, hd, Act.put]
  exact ⟨_, hK, R.keep k1 hn hdf hS he k2⟩
theorem Zgo {α : Type} (z : List α) (len : Nat) (i : Nat) (hz : z ≠ []) : (List.replicate len z).flatten[i]? = if i < len * z.length then z[i % z.length]? else none := by
 have hp : 0 < z.length := by cases z with | nil => exact absurd rfl hz | cons _ _ => simp
 induction len generalizing i with
 | zero => simp
 | succ len ih =>
  rw [List.replicate_succ, Yav]
  by_cases h : i < z.length
  ·rw [Yi h, if_pos (by rw [YE]; omega), Nat.mod_eq_of_lt h]
  ·rw [Yp (by omega), ih]
   have e : i % z.length = (i - z.length) % z.length := by rw [Nat.mod_eq_sub_mod (by omega)]
   grind
theorem Ok.junk (h : Ok l H m S w) (hb : ∀ i, i < w.heap.size → w'.heap[i]? = w.heap[i]?) (hsz : w.heap.size ≤ w'.heap.size) (h1 : w'.os = w.os) (h2 : w'.tape = w.tape) (h3 : w'.output = w.output) :
  Ok l H m S w' ∧ Ext l H m S w H m S w' := by
 have hext : Ext l H m S w H m S w' := ⟨fun _ h => h, fun b hS => hb b (h.sub b hS), fun _ _ => Yg _, fun _ _ _ h => ⟨h, rfl, rfl⟩, h1, h2, h3, hsz⟩
 refine ⟨⟨fun b hS => by have := h.sub b hS; omega, h.empty, h.fresh, h.inj, fun q hq hl hz => ?_, h.mp.step (Yg _) (fun _ _ hv _ => ⟨hv, rfl, rfl⟩) (fun _ h => h) (fun _ h => .inl h) hext.blk (fun i o ho _ => (hb i (Zbc ho)).trans ho)⟩, hext⟩
 obtain ⟨C, hb', hs, hle, hx⟩ := h.blk q hq hl hz
 have hlt : (m q).b < w.heap.size := by
  grind
 exact ⟨C, by rw [hb _ hlt]; exact hb', hs, hle, fun i x v hi hv => ⟨(hx i x v hi hv).1, (hx i x v hi hv).2.ext hext hq⟩⟩
theorem Zhn (hS : Zch l s H m S a w) (parts : Array (Nat × Operand)) : (parts.toList.map fun p => (p.1, ev s p.2)).length = (parts.map fun (i, x) => (i, a.eval x)).toList.length ∧
  ∀ (i : Nat) (p : Nat × AV) (q : Nat × Value), (parts.toList.map fun p => (p.1, ev s p.2))[i]? = some p → (parts.map fun (i, x) => (i, a.eval x)).toList[i]? = some q → p.1 = q.1 ∧ RepA w S H m l p.2 q.2 := by
 refine ⟨by simp, fun i p q hp hq => ?_⟩
 simp only [Ys, Yk, YaO] at hp hq
 cases ho : parts[i]? with
 | none => rw [ho] at hp; cases hp
 | some o =>
  rw [ho] at hp hq
  simp only [YH, Ye] at hp hq
  subst hp; subst hq
  exact ⟨rfl, Za9 hS o.2⟩
theorem Zc0 {place : Nat → Option (Nat × Nat)} : ∀ (ps : List (Nat × AV)) (zs cs : List AV), ZbS place zs ps = some cs → cs.length = zs.length
 | [], zs, cs, h => by simp only [ZbS, Ye] at h; rw [h]
 | (i, x) :: ps, zs, cs, h => by
  simp only [ZbS] at h
  split at h
  ·split at h
   ·cases h
   ·rename_i hc
    rw [Zc0 ps _ cs h]
    grind
  ·cases h
theorem Zdn {t e : TypeId} {sz len d : Nat} {parts : Array (Nat × Operand)} {z cs : List AV} (ho : o.op = .buildSlice t (len + 1) parts) (hd : o.dst = some d) (he : elm P t = some (e, sz)) (hsz : sz ≠ 0)
  (hlim : (len + 1) * sz ≤ 16777216) (hz : zer P e = some z) (hzl : z.length = sz) (hf : ZbS (fun i => some (i * sz, sz)) (List.replicate (len + 1) z).flatten (parts.toList.map fun p => (p.1, ev s p.2)) = some cs)
  (hK : ZiE l n d e sz cs (fun g => .ref (l + 1, d) g 0 (len + 1)) K ⟨s, H⟩) : AOp P l n B o K ⟨s, H⟩ := by
 obtain ⟨hu, hse⟩ := Zbt he
 have hzne : z ≠ [] := by rintro rfl; simp at hzl; omega
 refine ZiG (cap := len + 1) hd (by omega) (fun a w m S hO hS => ?_) hK
 obtain ⟨it, zv, hi, hz0, hr, _⟩ := Zce (w := w) (S := S) (H := H) (m := m) (l := l + 1) hz
 have hits : it.size = sz := by rw [← hse]; simp [Program.cellsOf, hi]
 have hzv : zv.cells.size = sz := by rw [← hr.1, hzl]
 have hbase : ZaG w S H m (l + 1) (List.replicate (len + 1) z).flatten ((Array.range ((len + 1) * sz)).map (zv.cells[· % zv.cells.size]!)) := by
  refine ⟨?_, fun i x v hx hv => ?_⟩
  ·simp [hzl]
  ·rw [Zgo z (len + 1) i hzne] at hx
   split at hx
   ·rename_i hlt
    rw [hzl] at hx hlt
    have hm : i % sz < zv.cells.size := by rw [hzv]; exact Nat.mod_lt _ (by omega)
    have : v = zv.cells[i % sz] := by
     grind
    subst this
    exact hr.2 (i % sz) x _ hx (Yh hm)
   grind
 obtain ⟨p1, p2⟩ := Zhn hS parts
 obtain ⟨C, hC, hcr⟩ := Zc9 _ _ _ _ cs hbase p1 p2 hf
 have hcl := Zc0 _ _ _ hf
 have hcl2 : cs.length = (len + 1) * sz := by rw [hcl]; simp [hzl]
 have hrun := run_buildSlice (P := P) w t e (len + 1) (parts.map fun (i, x) => (i, a.eval x)) C it zv hu hi hz0 (by rw [hits]; omega) (by rw [hits]; exact Nat.mul_ne_zero (by omega) hsz) (by rw [hits]; exact hC)
 refine ⟨C, .slice (some ⟨w.heap.size, 0, none⟩) (len + 1) (len + 1), w.alloc (.cells C e), ?_, rfl, rfl, rfl, rfl, ?_, by rw [← hcr.1, hcl2], by rw [hcr.1]; exact Yg _, hcr.2⟩
 ·simp only [execOp, ho, Sem.run_bind, hrun, Result.andThen_ok, Sem.run_pure]
 ·rintro H' m' rfl rfl
  have := RepA.refL (w := w.alloc (.cells C e)) (S := S) (H := updH H (l + 1, d) ⟨(H (l + 1, d)).g + 1, true, e, sz, cs⟩) (m := Zb2 m (l + 1, d) ⟨w.heap.size, 0, len + 1⟩) (l := l + 1) (l + 1, d) 0 (len + 1)
   (some ⟨w.heap.size, 0, none⟩) (Yg _) (by rw [Zaa]) (by rw [Zac]; simp) (fun _ => by rw [Zac]; simp)
  rw [Zaa, Zac] at this
  exact this
theorem ZiK {x : AV} {d : D} (h : Zde x = some d) : ZaZ x = some [x] := by
 cases x <;> simp only [Zde] at h <;> first | (cases h; rfl) | cases h
theorem ZlG {x : AV} {d : D} {v : Value} (h : Zde x = some d) (hx : RepA w S H m l x v) : RepD w S d v := by
 cases x <;> simp only [Zde] at h <;> cases h
 ·cases hx with | d _ _ hd => exact hd
 ·have := hx.e0_d; cases this with | d _ _ hd => exact hd
theorem ZdT : ∀ {xs : List AV} {ds : List D}, Zcm xs = some ds → xs.map Zde = ds.map some
 | [], ds, h => by cases h; rfl
 | x :: xs, ds, h => by
  simp only [Zcm] at h
  split at h
  ·rename_i d ds' h1 h2
   cases h
   simp [h1, ZdT h2]
  ·cases h
theorem ZeR {xs : List AV} {ds : List D} (h : Zcm xs = some ds) : xs.length = ds.length := by
 have := congrArg List.length (ZdT h); simpa using this
theorem Zjl {xs : List AV} {ds : List D} (h : Zcm xs = some ds) {i : Nat} {x : AV} {d : D} (hx : xs[i]? = some x) (hd : ds[i]? = some d) : Zde x = some d := by
 have := congrArg (fun l => l[i]?) (ZdT h)
 grind
theorem Zp7 {x : AV} {e : List D} (h : elD x = some e) : ∃ vs, ZaZ x = some vs ∧ Zcm vs = some e := by
 cases x with
 | agg xs => exact ⟨xs, rfl, h⟩
 | _ =>
  simp only [elD] at h
  split at h
  ·rename_i d hd
   cases h
   refine ⟨_, ZiK hd, ?_⟩
   simp [Zcm, hd]
  ·cases h
theorem Zd9 : ∀ {xs ys : List AV} {ds es : List D}, Zcm xs = some ds → Zcm ys = some es → Zcm (xs ++ ys) = some (ds ++ es)
 | [], ys, ds, es, h1, h2 => by cases h1; exact h2
 | x :: xs, ys, ds, es, h1, h2 => by
  simp only [Zcm] at h1
  split at h1
  ·rename_i d ds' g1 g2
   cases h1
   simp [Zcm, g1, Zd9 g2 h2]
  grind
theorem Zhv {sz : Nat} {z : List AV} (hz : z.length = sz) : ∀ (ps : List (Nat × AV)) (es : List (List D)) (pre : List AV) (i k : Nat), ZkU sz i ps = some es → pre.length = i * sz → k = ps.length →
  ∃ cs, ZbS (fun i => some (i * sz, sz)) (pre ++ (List.replicate k z).flatten) ps = some (pre ++ cs) ∧ Zcm cs = some es.flatten
 | [], es, pre, i, k, h, _, hk => by
  cases h; subst hk
  exact ⟨[], by simp [ZbS], rfl⟩
 | (j, v) :: ps, es, pre, i, k, h, hp, hk => by
  simp only [ZkU] at h
  split at h
  ·rename_i e es' he hes
   split at h
   ·rename_i hj
    cases h
    obtain ⟨rfl, hel⟩ := hj
    obtain ⟨vs, hvs, hpv⟩ := Zp7 he
    have hvl : vs.length = sz := (ZeR hpv).trans hel
    subst hk
    have hnext : (pre ++ (List.replicate (ps.length + 1) z).flatten).take (j * sz) ++ vs ++ (pre ++ (List.replicate (ps.length + 1) z).flatten).drop (j * sz + vs.length) = (pre ++ vs) ++ (List.replicate ps.length z).flatten := by
     grind
    obtain ⟨cs, h1, h2⟩ := Zhv hz ps es' (pre ++ vs) (j + 1) ps.length hes (by rw [List.length_append, hp, hvl, YE, YaT]) rfl
    refine ⟨vs ++ cs, ?_, by rw [Yav]; exact Zd9 hpv h2⟩
    simp only [ZbS, hvs, Y5]
    grind
   ·cases h
  ·cases h
theorem Ok.lit (h : Ok l H m S w) (C : Array Value) (e : TypeId) (w' : World) (hw : w'.heap = w.heap.push (.cells C e (0, 0))) (h1 : w'.os = w.os) (h2 : w'.tape = w.tape) (h3 : w'.output = w.output) :
  Ok l H m (fun b => S b ∨ b = w.heap.size) w' ∧ Ext l H m S w H m (fun b => S b ∨ b = w.heap.size) w' := by
 have hold : ∀ b, b < w.heap.size → w'.heap[b]? = w.heap[b]? := fun b hb => by rw [hw, Yan, if_neg (by omega)]
 have hext : Ext l H m S w H m (fun b => S b ∨ b = w.heap.size) w' := ⟨fun _ h => .inl h, fun b hb => hold b (h.sub b hb), fun _ _ => Yg _, fun _ _ _ h => ⟨h, rfl, rfl⟩, h1, h2, h3, by rw [hw]; simp⟩
 have hlt : ∀ q : Key, q.1 ≤ l → (H q).live = true → (m q).cap ≠ 0 → (m q).b < w.heap.size := fun q hq hl hc' => by
  obtain ⟨C, hb, _⟩ := h.blk q hq hl hc'
  grind
 refine ⟨⟨fun b hb => ?_, h.empty, fun q hq hl hz => ?_, h.inj, fun q hq hl hz => ?_, h.mp.step (Yg _) (fun _ _ hv _ => ⟨hv, rfl, rfl⟩) (fun _ h => .inl h) (fun b hb => hb.imp id fun e => .inl (Nat.le_of_eq e.symm)) hext.blk (fun i o ho _ => (hold i (Zbc ho)).trans ho)⟩, hext⟩
 ·rcases hb with hb | rfl
  ·have := h.sub b hb; rw [hw]; simp; omega
  grind
 ·rintro (hb | hb)
  ·exact h.fresh q hq hl hz hb
  grind
 ·obtain ⟨C', hb, hs, hle, hx⟩ := h.blk q hq hl hz
  exact ⟨C', by rw [hold _ (hlt q hq hl hz)]; exact hb, hs, hle, fun i x v hi hv => ⟨(hx i x v hi hv).1, (hx i x v hi hv).2.ext hext hq⟩⟩
theorem ZjI {sz : Nat} : ∀ {ps : List (Nat × AV)} {i : Nat} {es : List (List D)}, ZkU sz i ps = some es → ps.length = es.length ∧ ∀ e ∈ es, e.length = sz
 | [], i, es, h => by cases h; exact ⟨rfl, fun _ h => by cases h⟩
 | (j, v) :: ps, i, es, h => by
  simp only [ZkU] at h
  split at h
  ·rename_i e es' he hes
   split at h
   ·rename_i hj
    cases h
    obtain ⟨g1, g2⟩ := ZjI hes
    grind
   ·cases h
  ·cases h
theorem ZgD {sz : Nat} : ∀ (es : List (List D)), (∀ e ∈ es, e.length = sz) → ∀ (i j : Nat) (e : List D) (d : D), es[i]? = some e → e[j]? = some d → es.flatten[i * sz + j]? = some d
 | [], _, i, j, e, d, hi, _ => by simp at hi
 | e0 :: es, hl, i, j, e, d, hi, hj => by
  have h0 : e0.length = sz := hl e0 (by simp)
  cases i with
  | zero =>
   grind
  | succ i =>
   have := ZgD es (fun e he => hl e (by simp [he])) i j e d (by simpa using hi) hj
   grind
theorem Zd7 {t e : TypeId} {sz len d : Nat} {parts : Array (Nat × Operand)} {z : List AV} {es : List (List D)} (ho : o.op = .buildSlice t (len + 1) parts) (hd : o.dst = some d) (he : elm P t = some (e, sz)) (hsz : sz ≠ 0)
  (hlim : (len + 1) * sz ≤ 16777216) (hz : zer P e = some z) (hzl : z.length = sz) (hf : ZkU sz 0 (parts.toList.map fun p => (p.1, ev s p.2)) = some es) (hes : es.length = len + 1)
  (hdn : d < n) (hK : K ⟨upd s d (.d (.list es)), H⟩) : AOp P l n B o K ⟨s, H⟩ := by
 obtain ⟨hu, hse⟩ := Zbt he
 have hzne : z ≠ [] := by rintro rfl; simp at hzl; omega
 intro a w hR Q
 obtain ⟨m, S, hO, hn, hdf, hS, hex⟩ := hR.un
 obtain ⟨hpl, hel⟩ := ZjI hf
 obtain ⟨cs, hcs, hpure⟩ := Zhv (sz := sz) hzl _ es [] 0 (len + 1) hf (by simp) (by rw [hpl, hes])
 simp only [Yak] at hcs
 obtain ⟨it, zv, hi, hz0, hr, _⟩ := Zce (w := w) (S := S) (H := H) (m := m) (l := l + 1) hz
 have hits : it.size = sz := by rw [← hse]; simp [Program.cellsOf, hi]
 have hzv : zv.cells.size = sz := by rw [← hr.1, hzl]
 have hbase : ZaG w S H m (l + 1) (List.replicate (len + 1) z).flatten ((Array.range ((len + 1) * sz)).map (zv.cells[· % zv.cells.size]!)) := by
  refine ⟨?_, fun i x v hx hv => ?_⟩
  ·simp [hzl]
  ·rw [Zgo z (len + 1) i hzne] at hx
   split at hx
   ·rename_i hlt
    rw [hzl] at hx hlt
    have hm : i % sz < zv.cells.size := by rw [hzv]; exact Nat.mod_lt _ (by omega)
    have : v = zv.cells[i % sz] := by
     grind
    subst this
    exact hr.2 (i % sz) x _ hx (Yh hm)
   grind
 obtain ⟨p1, p2⟩ := Zhn hS parts
 obtain ⟨C, hC, hcr⟩ := Zc9 _ _ _ _ cs hbase p1 p2 hcs
 have hcl := Zc0 _ _ _ hcs
 have hcl2 : cs.length = (len + 1) * sz := by rw [hcl]; simp [hzl]
 have hrun := run_buildSlice (P := P) w t e (len + 1) (parts.map fun (i, x) => (i, a.eval x)) C it zv hu hi hz0 (by rw [hits]; omega) (by rw [hits]; exact Nat.mul_ne_zero (by omega) hsz) (by rw [hits]; exact hC)
 have hrun' : (execOp a.eval o).run P w = .ok (.value (.slice (some ⟨w.heap.size, 0, none⟩) (len + 1) (len + 1))) (w.alloc (.cells C e)) := by
  simp only [execOp, ho, Sem.run_bind, hrun, Result.andThen_ok, Sem.run_pure]
 obtain ⟨k1, k2⟩ := hO.lit C e (w.alloc (.cells C e)) rfl rfl rfl rfl
 refine ZaB hrun' ?_
 rw [hd]
 refine ⟨_, hK, R.step k1 hn hdf hS hex k2 hdn (.d _ _ ?_)⟩
 have hblk : (w.alloc (.cells C e)).heap[w.heap.size]? = some (.cells C e (0, 0)) := by
  show (w.heap.push _)[w.heap.size]? = _
  rw [Yan, if_pos rfl]
 have hcell : ∀ (i j : Nat) (e' : List D) (d' : D), es[i]? = some e' → e'[j]? = some d' → ∃ v, C[i * sz + j]? = some v ∧ RepD w S d' v := fun i j e' d' hi' hj' => by
  have hfl := ZgD es hel i j e' d' hi' hj'
  have hlt : i * sz + j < cs.length := by
   rw [ZeR hpure]
   rcases Yt (i * sz + j) es.flatten.length with h | h
   ·exact h
   ·rw [YC h] at hfl; cases hfl
  have hlt' : i * sz + j < C.size := by rw [← hcr.1]; exact hlt
  exact ⟨C[i * sz + j], Yh hlt', ZlG (Zjl hpure (Yd hlt) hfl) (hcr.2 _ _ _ (Yd hlt) (Yh hlt')).2⟩
 have := RepD.list (w := w.alloc (.cells C e)) (S := fun b => S b ∨ b = w.heap.size) es ⟨w.heap.size, 0, none⟩ sz (len + 1) (fun i j => (C[i * sz + j]?).getD undef) (fun _ => .inr rfl) (by omega) hel
  (fun i j e' d' hi' hj' => by
   obtain ⟨v, e1, _⟩ := hcell i j e' d' hi' hj'
   rw [Addr.add_lit, ZbG hblk, Yy, e1]
   rfl)
  (fun i j e' d' hi' hj' => by
   obtain ⟨v, e1, e2⟩ := hcell i j e' d' hi' hj'
   rw [e1]
   have h3 : RepA w S H m (l + 1) (.d d') v := .d _ _ e2
   have h4 := h3.ext k2 (Yg _)
   cases h4 with | d _ _ hd => exact hd)
 rw [hes] at this
 exact this
theorem Zfq {t e : TypeId} {sz d : Nat} {parts : Array (Nat × Operand)} (ho : o.op = .buildSlice t 0 parts) (hd : o.dst = some d) (he : elm P t = some (e, sz)) (hsz : sz ≠ 0) (hp : parts.size = 0) (hdn : d < n)
  (hK : K ⟨upd s d .e0, H⟩) : AOp P l n B o K ⟨s, H⟩ := by
 obtain ⟨hu, hse⟩ := Zbt he
 intro a w hR Q
 obtain ⟨m, S, hO, hn, hdf, hS, hex⟩ := hR.un
 have hp0 : parts = #[] := Yal hp
 subst hp0
 have hrun : (execOp a.eval o).run P w = .ok (.value (.slice (some ⟨w.heap.size, 0, none⟩) 0 0)) (w.alloc (.cells #[] e)) := by
  simp [execOp, ho, Instr.buildSlice, run_underlying hu, Zbh (P := P) (t := e) (by omega), Instr.fill, newRow]
  grind
 obtain ⟨k1, k2⟩ := hO.junk (w' := w.alloc (.cells #[] e)) (fun i hi => by show (w.heap.push _)[i]? = _; rw [Yan, if_neg (by omega)]) (by simp) rfl rfl rfl
 refine ZaB hrun ?_
 rw [hd]
 exact ⟨_, hK, R.step k1 hn hdf hS hex k2 hdn (.e0 _)⟩
end
end Go.Eng
