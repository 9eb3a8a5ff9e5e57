/-
  A run at known arguments, reckoned whole by the kernel (part 2): operations that write, groups of operations, what is kept behind them.
-/
import Derived.Test.YthagpbkmakocjaaEngRn
namespace Go.Eng
set_option linter.all false
open Go Go.RowKit

/-! ### Calls that leave the memory as it is; slices that are written out -/
/-- what such calls yield -/
def PcOk (P : Program) (pc : FuncId → List AV → Option AV) : Prop :=
  ∀ i xs x, pc i xs = some x → (∀ r, rens r xs = xs) ∧ (∀ r, ren r x = x) ∧ ∀ l H, ACall P i l xs H (fun y H'' => y = x ∧ H'' = H)
def cCall (pc : FuncId → List AV → Option AV) (f : AV) (xs : List AV) (g : Option Bool) : Option AV :=
  match f with
  | .fn (.func i) first caps => (match isF g with | true => some (.d (.int .i64 0)) | false => fAs (first ++ xs ++ caps) fun xs => pc i xs)
  | _ => none
def cBs (T : Nat → Option TI) (τ : St) (t : TypeId) (len : Nat) (parts : List (Nat × Operand)) : Option AV :=
  match T t with
  | some i => (match i.elm with
    | some (e, sz) => (match Nat.ble 1 sz, len with
      | true, 0 => (match parts with | [] => some .e0 | _ => none)
      | true, len + 1 => (match T e, Nat.ble ((len + 1) * sz) 16777216 with
        | some j, true => (match j.zer with
          | some z => (match Nat.beq z.length sz, litD sz 0 (parts.map fun p => (p.1, ev τ.s p.2)) with
            | true, some es => (match Nat.beq es.length (len + 1) with | true => some (.d (.list es)) | false => none)
            | _, _ => none)
          | none => none)
        | _, _ => none)
      | _, _ => none)
    | none => none)
  | none => none
def cPV (T : Nat → Option TI) (pc : FuncId → List AV → Option AV) (τ : St) (op : Op) (g : Option Bool) : Option AV :=
  match op with
  | .call c => match c.callee with
    | .value f => cCall pc (ev τ.s f) (c.args.toList.map (ev τ.s)) g
    | _ => cV T τ.H op (ev τ.s) g
  | .buildSlice t len parts => cBs T τ t len parts.toList
  | op => cV T τ.H op (ev τ.s) g

section
variable {P : Program} {T : Nat → Option TI} {lt : TypeId → Bool} {pc : FuncId → List AV → Option AV} {n os : Nat} {τ τ' : St}
theorem cCall_snd (hpc : PcOk P pc) {f : AV} {xs : List AV} {g : Option Bool} {v : AV} {b : AT} (h : cCall pc f xs g = some v) : ∃ a, isCmd a = false ∧ ∀ (l : Nat) (r : Ren) (H : Hp) (K : AV → AT → Prop), K v b → pCall P l r H f xs g a K := by
  unfold cCall at h
  split at h
  · rename_i i first caps
    split at h
    · rename_i e
      cases h
      exact ⟨.call _ [] b, rfl, fun l r H K hK => ⟨sdP_isF e, hK⟩⟩
    · rw [fAs_eq] at h
      obtain ⟨h1, h2, h3⟩ := hpc _ _ _ h
      exact ⟨.call v [] b, rfl, fun l r H K hK => ⟨sdP_of fun H' _ _ => by rw [h1, h2]; exact h3 _ _, hK⟩⟩
  · cases h
theorem cBs_snd {t : TypeId} {len : Nat} {parts : List (Nat × Operand)} {v : AV} {b : AT} (hb : isCmd b = false) (h : cBs T τ t len parts = some v) : Ans (fun a K => bsV T τ t len parts a K) b v := by
  refine .self hb fun K hK => ?_
  unfold cBs at h
  unfold bsV
  split at h
  · rename_i i e1
    simp only [e1]
    split at h
    · rename_i e sz e2
      simp only [e2]
      split at h
      · rename_i e3
        simp only [e3]
        split at h
        · cases h; exact hK
        · cases h
      · rename_i m e3
        simp only [e3]
        split at h
        · rename_i j e4 e5
          simp only [e4, e5]
          split at h
          · rename_i z e6
            simp only [e6]
            split at h
            · rename_i es e7 e8
              simp only [e7, e8]
              split at h
              · rename_i e9; simp only [e9]; cases h; exact hK
              · cases h
            · cases h
          · cases h
        · cases h
      · cases h
    · cases h
  · cases h
theorem cPV_snd (hpc : PcOk P pc) {op : Op} {g : Option Bool} {v : AV} {b : AT} (hb : isCmd b = false) (h : cPV T pc τ op g = some v) : ∃ a, isCmd a = false ∧ ∀ (l : Nat) (r : Ren) (K : AV → AT → Prop), K v b → pV P T l r τ op g a K := by
  unfold cPV at h
  unfold pV
  cases op <;> simp only at h ⊢
  case call c =>
    split at h
    · rename_i f e
      obtain ⟨a, h1, h2⟩ := cCall_snd hpc (b := b) h
      exact ⟨a, h1, fun l r K hK => by simp only [e]; exact h2 l r _ K hK⟩
    · rename_i e
      obtain ⟨a, h1, h2⟩ := cV_snd hb h
      refine ⟨a, h1, fun l r K hK => ?_⟩
      split
      · rename_i f e'; exact absurd e' (e f)
      · exact h2 K hK
  case buildSlice t len parts =>
    obtain ⟨a, h1, h2⟩ := cBs_snd hb h
    exact ⟨a, h1, fun l r K hK => h2 K hK⟩
  all_goals (obtain ⟨a, h1, h2⟩ := cV_snd hb h; exact ⟨a, h1, fun l r K hK => h2 K hK⟩)

/-! ### Operations that write -/
def cWr (os : Nat) (k : Key) (vs : List AV) : Bool := Nat.beq k.1 1 || (Nat.beq k.1 0 && Nat.ble (k.2 + 1) os && vs.all AV.flat)
/-- the blocks that came in may be written -/
def NoOk (os : Nat) (r : Ren) : Prop := ∀ i, i < os → r.no (r.κ (0, i))
theorem wrK_ok {r : Ren} {k : Key} {vs : List AV} {A : Prop} (hr : NoOk os r) (h : cWr os k vs = true) (hA : A) : wrK r k vs A := by
  unfold wrK
  split
  · exact hA
  · rename_i e
    unfold cWr at h
    rw [e] at h
    simp only [Bool.false_or, Bool.and_eq_true] at h
    obtain ⟨⟨h1, h2⟩, h3⟩ := h
    have h1 := Nat.eq_of_beq_eq_true h1
    obtain ⟨k1, k2⟩ := k
    simp only at h1
    subst h1
    refine ⟨⟨rfl, hr k2 (Nat.le_of_ble_eq_true h2)⟩, ?_, hA⟩
    unfold LowS
    rw [rens_flat h3, List.all_eq_true]
    intro x hx
    have := List.all_eq_true.1 h3 x hx
    cases x <;> first | rfl | cases this
def cNew (n d : Nat) (e : TypeId) (sz : Nat) (cells : List AV) (x : Nat → AV) (τ : St) : Option St :=
  match Nat.ble (d + 1) n with
  | true => some ⟨upd τ.s d (x ((τ.H (1, d)).g + 1)), updH τ.H (1, d) ⟨(τ.H (1, d)).g + 1, true, e, sz, cells⟩⟩
  | false => none
theorem cNew_snd {d : Nat} {e : TypeId} {sz : Nat} {cells : List AV} {x : Nat → AV} (h : cNew n d e sz cells x τ = some τ') {K : St → AT → Prop} {b : AT} (hK : K τ' b) : newT n d e sz cells x K τ b := by
  unfold cNew at h
  unfold newT
  split at h
  · rename_i e'; simp only [e']; cases h; exact hK
  · cases h
def cSrc (sz : Nat) (C : List AV) (y : AV) : Option (Nat × List AV) :=
  match y with
  | .e0 => some (0, [])
  | .d (.list es) => (match allLen sz es with | true => fAs (es.flatten.map .d) fun c => some (es.length, c) | false => none)
  | .ref _ _ off n => (match Nat.ble ((off + n) * sz) C.length, ((C.drop (off * sz)).take (n * sz)).all AV.onef with | true, true => fAs ((C.drop (off * sz)).take (n * sz)) fun c => some (n, c) | _, _ => none)
  | _ => none
theorem cSrc_snd {sz : Nat} {C : List AV} {y : AV} {c : Nat} {news : List AV} (h : cSrc sz C y = some (c, news)) : SrcS sz C y c news := by
  unfold cSrc at h
  split at h
  · cases h; exact ⟨rfl, rfl, rfl⟩
  · split at h
    · rename_i es e
      rw [fAs_eq] at h
      cases h
      refine ⟨?_, allLen_at e, rfl, rfl⟩
      rw [List.all_eq_true]
      intro x hx
      obtain ⟨d, _, rfl⟩ := List.mem_map.1 hx
      rfl
    · cases h
  · split at h
    · rename_i e1 e2
      rw [fAs_eq] at h
      cases h
      exact ⟨e2, rfl, Nat.le_of_ble_eq_true e1, rfl⟩
    · cases h
  · cases h
def cApp (T : Nat → Option TI) (n os d : Nat) (t : TypeId) (x y : AV) (τ : St) : Option St :=
  match T t with
  | some i => match i.elm with
    | some (e, sz) => match T e, Nat.ble 1 sz, srcOk τ.H sz y with
      | some j, true, true => (match j.byt, j.zer, cSrc sz (cellsOf τ.H y) y with
        | some byt, some _, some (c, news) => (match x with
          | .e0 => (match Nat.ble (c * byt) 140737488355328 with | true => cNew n d e sz news (fun g => .ref (1, d) g 0 c) τ | false => none)
          | .ref k q off c' => (match liveB τ.H k q, Nat.beq (τ.H k).sz sz, Nat.beq (τ.H k).e e, Nat.ble (d + 1) n with
            | true, true, true, true => (match Nat.beq ((off + c') * sz) (τ.H k).cells.length, Nat.ble ((c' + c) * byt) 140737488355328, cWr os k news with
              | true, true, true => fN (c' + c) fun n' => some ⟨upd τ.s d (.ref k (q + 1) 0 n'), updH τ.H k ⟨q + 1, true, e, sz, (τ.H k).cells.drop (off * sz) ++ news⟩⟩
              | _, _, _ => none)
            | _, _, _, _ => none)
          | _ => none)
        | _, _, _ => none)
      | _, _, _ => none
    | none => none
  | none => none
theorem cApp_snd {d : Nat} {t : TypeId} {x y : AV} {b : AT} (h : cApp T n os d t x y τ = some τ') : ∃ a, isCmd a = false ∧ ∀ (r : Ren), NoOk os r → ∀ K : St → AT → Prop, K τ' b → pApp T r n d t x y a K τ := by
  unfold cApp at h
  split at h
  · rename_i i e1
    split at h
    · rename_i e sz e2
      split at h
      · rename_i j e3 e4 e5
        split at h
        · rename_i byt z c news e6 e7 e8
          have hs := cSrc_snd e8
          split at h
          · split at h
            · rename_i e9
              refine ⟨.nat c (.cs news b), rfl, fun r hr K hK => ?_⟩
              unfold pApp
              simp only [e1, e2, e3, e4, e5, e6, e7]
              exact ⟨hs, Nat.le_of_ble_eq_true e9, cNew_snd h hK⟩
            · cases h
          · rename_i k q off c'
            split at h
            · rename_i f1 f2 f3 f4
              split at h
              · rename_i f5 f6 f7
                rw [fN_eq] at h
                cases h
                refine ⟨.nat c (.cs news (.cs ((τ.H k).cells.drop (off * sz) ++ news) (.nat (c' + c) b))), rfl, fun r hr K hK => ?_⟩
                unfold pApp
                simp only [e1, e2, e3, e4, e5, e6, e7, f1, f2, f3, f4]
                exact ⟨hs, ⟨Nat.eq_of_beq_eq_true f5, rfl, rfl, Nat.le_of_ble_eq_true f6⟩, wrK_ok hr f7 hK⟩
              · cases h
            · cases h
          · cases h
        · cases h
      · cases h
    · cases h
  · cases h
def cStore (os n : Nat) (i : TI) (x : AV) (vs : Option (List AV)) (τ : St) : Option St :=
  match x, vs with
  | .ptr k q off, some vs => (match liveB τ.H k q, Nat.beq vs.length i.siz, Nat.ble 1 vs.length with
    | true, true, true => (match Nat.ble (off + vs.length) (τ.H k).cells.length, cWr os k vs with
      | true, true => some ⟨τ.s, updH τ.H k ⟨q, true, (τ.H k).e, (τ.H k).sz, (τ.H k).cells.take off ++ vs ++ (τ.H k).cells.drop (off + vs.length)⟩⟩
      | _, _ => none)
    | _, _, _ => none)
  | _, _ => none
theorem cStore_snd {i : TI} {x : AV} {vs : Option (List AV)} {b : AT} (h : cStore os n i x vs τ = some τ') : ∃ a, isCmd a = false ∧ ∀ (r : Ren), NoOk os r → ∀ K : St → AT → Prop, K τ' b → storeT r n i x vs a K τ := by
  unfold cStore at h
  split at h
  · rename_i k q off vs
    split at h
    · rename_i e1 e2 e3
      split at h
      · rename_i e4 e5
        cases h
        refine ⟨.go b, rfl, fun r hr K hK => ?_⟩
        unfold storeT
        simp only [e1, e2, e3, e4]
        exact wrK_ok hr e5 hK
      · cases h
    · cases h
  · cases h
def cPut (n : Nat) (dst : Option Nat) (τ : St) (v : Option AV) : Option St :=
  match dst, v with
  | some d, some v => (match Nat.ble (d + 1) n with | true => some ⟨upd τ.s d v, τ.H⟩ | false => none)
  | _, _ => none
theorem cPut_snd {d : Nat} {v : AV} (h : cPut n (some d) τ (some v) = some τ') {K : St → AT → Prop} {b : AT} (hK : K τ' b) : put1 n d K τ v b := by
  unfold cPut at h
  unfold put1
  simp only at h
  split at h
  · rename_i e; simp only [e]; cases h; exact hK
  · cases h
/-- a slice that is written out, as a block of its own -/
def cBl (T : Nat → Option TI) (n : Nat) (dst : Option Nat) (t len : Nat) (vs : List (Nat × AV)) (τ : St) : Option St :=
  match dst, T t with
  | some d, some i => (match i.elm with
    | some (e, sz) => (match T e, Nat.ble 1 sz, Nat.ble ((len + 1) * sz) 16777216 with
      | some j, true, true => (match j.zer with
        | some z => (match Nat.beq z.length sz, fillA (fun i => some (i * sz, sz)) (List.replicate (len + 1) z).flatten vs, vs.all (fun p => p.2.flat) with
          | true, some cs, true => (match cs.all AV.flat with | true => cNew n d e sz cs (fun g => .ref (1, d) g 0 (len + 1)) τ | false => none)
          | _, _, _ => none)
        | none => none)
      | _, _, _ => none)
    | none => none)
  | _, _ => none
theorem cBl_snd {dst : Option Nat} {t len : Nat} {vs : List (Nat × AV)} (h : cBl T n dst t len vs τ = some τ') {K : St → AT → Prop} {b : AT} (hK : K τ' b) : buildL T n dst t len vs b K τ := by
  unfold cBl at h
  unfold buildL
  split at h
  · rename_i d i e1
    simp only [e1]
    split at h
    · rename_i e sz e2
      simp only [e2]
      split at h
      · rename_i j e3 e4 e5
        simp only [e3, e4, e5]
        split at h
        · rename_i z e6
          simp only [e6]
          split at h
          · rename_i cs e7 e8 e9
            simp only [e7, e8, e9]
            split at h
            · rename_i e10; simp only [e10]; exact cNew_snd h hK
            · cases h
          · cases h
        · cases h
      · cases h
    · cases h
  · cases h
def isBs : Op → Bool
  | .buildSlice _ (_ + 1) _ => true
  | _ => false
def cOp (T : Nat → Option TI) (lt : TypeId → Bool) (n os : Nat) (pc : FuncId → List AV → Option AV) (o : Oper) (τ : St) : Option St :=
  match o.op with
  | .alloc t => match o.dst, T t with
    | some d, some i => (match i.zer with | some (z :: zs) => cNew n d t (zs.length + 1) (z :: zs) (fun g => .ptr (1, d) g 0) τ | _ => none)
    | _, _ => none
  | .box t x => match o.dst, cellsAV (ev τ.s x), noFn (ev τ.s x) with
    | some d, some (z :: zs), true => cNew n d t (zs.length + 1) (z :: zs) (fun g => .ptr (1, d) g 0) τ
    | _, _, _ => none
  | .store t p x => match o.dst, T t, noFn (ev τ.s x) with
    | none, some i, true => cStore os n i (ev τ.s p) (cellsAV (ev τ.s x)) τ
    | _, _, _ => none
  | .buildSlice t len parts => match lt t && Nat.ble 1 len with
    | true => cBl T n o.dst t (len - 1) (parts.toList.map fun p => (p.1, ev τ.s p.2)) τ
    | false => cPut n o.dst τ (cBs T τ t len parts.toList)
  | .makeSlice _ _ _ => none
  | .call c => match c.callee with
    | .builtin .append => (match o.dst, c.args.toList, c.argTypes.toList with
      | some d, [x, y], [t, t'] => (match Nat.beq t t' with | true => cApp T n os d t (ev τ.s x) (ev τ.s y) τ | false => none)
      | _, _, _ => none)
    | .builtin .copy => none
    | .builtin .clear => none
    | _ => cPut n o.dst τ (cPV T pc τ o.op none)
  | _ => cPut n o.dst τ (cPV T pc τ o.op none)
theorem cOp_put (hpc : PcOk P pc) {op : Op} {dst : Option Nat} {b : AT} (hb : isCmd b = false) (h : cPut n dst τ (cPV T pc τ op none) = some τ') : ∃ d, dst = some d ∧ ∃ a, isCmd a = false ∧ ∀ (l : Nat) (r : Ren) (K : St → AT → Prop), K τ' b → pV P T l r τ op none a (put1 n d K τ) := by
  cases dst with
  | none => cases h
  | some d =>
    generalize hv : cPV T pc τ op none = v at h
    cases v with
    | none => cases h
    | some v =>
      obtain ⟨a, h1, h2⟩ := cPV_snd hpc hb hv
      exact ⟨d, rfl, a, h1, fun l r K hK => h2 l r _ (cPut_snd h hK)⟩
/-- a written-out slice stands as data unless the answer says otherwise -/
def noGo : AT → Bool
  | .go _ => false
  | _ => true
theorem pOp3_eq {l : Nat} {r : Ren} {o : Oper} {a : AT} {K : St → AT → Prop} (h : isBs o.op = true → noGo a = true) : pOp3 P T l n r o a K τ = pOp2 P T l n r o a K τ := by
  unfold pOp3
  split
  · rename_i t len parts e
    rw [e] at h
    have := h rfl
    cases a <;> first | rfl | cases this
  · rfl
theorem cOp_snd (hpc : PcOk P pc) {o : Oper} {b : AT} (hb : isCmd b = false) (hg : isBs o.op = true → noGo b = true) (h : cOp T lt n os pc o τ = some τ') : ∃ a, isCmd a = false ∧ ∀ (l : Nat) (r : Ren), NoOk os r → ∀ K : St → AT → Prop, K τ' b → pOp3 P T l n r o a K τ := by
  have go : ∀ {a : AT}, (∀ (l : Nat) (r : Ren), NoOk os r → ∀ K : St → AT → Prop, K τ' b → pOp2 P T l n r o a K τ) → (isBs o.op = true → noGo a = true) → ∀ (l : Nat) (r : Ren), NoOk os r → ∀ K : St → AT → Prop, K τ' b → pOp3 P T l n r o a K τ := fun h h' l r hr K hK => by rw [pOp3_eq h']; exact h l r hr K hK
  unfold cOp at h
  generalize hop : o.op = op at h
  cases op
  case alloc t =>
    simp only at h
    split at h
    · rename_i d i e1 e2
      split at h
      · rename_i z zs e3
        refine ⟨b, hb, go (fun l r hr K hK => ?_) (fun e => by rw [hop] at e; cases e)⟩
        unfold pOp2 pOp1
        simp only [hop, e1, e2, e3]
        exact cNew_snd h hK
      · cases h
    · cases h
  case box t x =>
    simp only at h
    split at h
    · rename_i d z zs e1 e2 e3
      refine ⟨b, hb, go (fun l r hr K hK => ?_) (fun e => by rw [hop] at e; cases e)⟩
      unfold pOp2 pOp1
      simp only [hop, e1, e2, e3]
      exact cNew_snd h hK
    · cases h
  case store t p x =>
    simp only at h
    split at h
    · rename_i i e1 e2 e3
      obtain ⟨a, h1, h2⟩ := cStore_snd (b := b) h
      refine ⟨a, h1, go (fun l r hr K hK => ?_) (fun e => by rw [hop] at e; cases e)⟩
      unfold pOp2 pOp1
      simp only [hop, e1, e2, e3]
      exact h2 r hr K hK
    · cases h
  case buildSlice t len parts =>
    simp only at h
    split at h
    · rename_i e0
      cases len with
      | zero => rw [Bool.and_eq_true] at e0; cases e0.2
      | succ len => exact ⟨.go b, rfl, fun l r hr K hK => by unfold pOp3; simp only [hop]; exact cBl_snd h hK⟩
    rename_i e00
    clear e00
    cases hd : o.dst with
    | none => rw [hd] at h; cases h
    | some d =>
      rw [hd] at h
      cases hv : cBs T τ t len parts.toList with
      | none => rw [hv] at h; cases h
      | some v =>
        rw [hv] at h
        refine ⟨b, hb, go (fun l r hr K hK => ?_) (fun e => hg e)⟩
        have hp := cPut_snd h hK
        unfold pOp2 pOp1
        simp only [hop, hd]
        unfold cBs at hv
        split at hv
        · rename_i i e1
          simp only [e1]
          split at hv
          · rename_i e sz e2
            simp only [e2]
            split at hv
            · rename_i e3
              simp only [e3]
              split at hv
              · rename_i e4; cases hv; simp only [e4]; exact hp
              · cases hv
            · rename_i m e3
              simp only [e3]
              split at hv
              · rename_i j e4 e5
                simp only [e4, e5]
                split at hv
                · rename_i z e6
                  simp only [e6]
                  split at hv
                  · rename_i es e7 e8
                    simp only [e7, e8]
                    split at hv
                    · rename_i e9; simp only [e9]; cases hv; exact hp
                    · cases hv
                  · cases hv
                · cases hv
              · cases hv
            · cases hv
          · cases hv
        · cases hv
  case makeSlice => simp only at h; cases h
  case call c =>
    simp only at h
    split at h
    · rename_i e0
      split at h
      · rename_i d x y t t' e1 e2 e3
        split at h
        · rename_i e4
          obtain ⟨a, h1, h2⟩ := cApp_snd (b := b) h
          refine ⟨a, h1, go (fun l r hr K hK => ?_) (fun e => by rw [hop] at e; cases e)⟩
          unfold pOp2 pOp1
          simp only [hop, e0, e1, e2, e3, e4]
          exact h2 r hr K hK
        · cases h
      · cases h
    · cases h
    · cases h
    · rename_i f1 f2 f3
      obtain ⟨d, hd, a, h1, h2⟩ := cOp_put hpc hb h
      refine ⟨a, h1, go (fun l r hr K hK => ?_) (fun e => by rw [hop] at e; cases e)⟩
      have := h2 l r K hK
      unfold pOp2 pOp1
      simp only [hop, hd]
      exact this
  all_goals
    simp only at h
    obtain ⟨d, hd, a, h1, h2⟩ := cOp_put hpc hb h
    refine ⟨a, h1, go (fun l r hr K hK => ?_) (fun e => by rw [hop] at e; cases e)⟩
    have := h2 l r K hK
    unfold pOp2 pOp1
    simp only [hop, hd]
    exact this
end
end Go.Eng
