/-
  The abstract state of a walk, part J: calls, 'rOp' as a whole, regions in the text's order, control, a function's contract.
-/
import Derived.Test.YthagpbkmakocjaaEngI
namespace Go.Eng
set_option linter.all false
open Go Go.RowKit

/-- what guards an operation: is the value that another one has yielded the one that is wanted; an operation that was left out wants nothing -/
def grd (s : Nat → AV) (ds : List (Option Nat)) (i : Nat) (b : Bool) : Option Bool :=
  match ds[i]? with
  | some (some d) => match s d with | .d (.bool t) => some (t == b) | .tup [] => some false | _ => none
  | _ => none

/-- operations, one behind the other -/
def rOps (P : Program) (l n : Nat) (ds : List (Option Nat)) : List Oper → (St → Prop) → St → Prop
  | [], K, σ => K σ
  | o :: rest, K, σ => match o.guard with
    | none => rOp P l n o (rOps P l n ds rest K) σ
    | some (i, b) => match grd σ.s ds i b with
      | some t => (t = true → rOp P l n o (rOps P l n ds rest K) σ) ∧ (t = false → match o.dst with | some d => d < n ∧ rOps P l n ds rest K ⟨upd σ.s d (.tup []), σ.H⟩ | none => rOps P l n ds rest K σ)
      | none => False

/-- what a walk asks of a piece of code -/
def AWp (P : Program) (l n : Nat) (B : Base) (c : Code) (Q : Exit → St → Prop) (σ : St) : Prop :=
  ∀ a w, R l n B σ a w → c.wp P (fun e a' w' => ∃ σ', Q e σ' ∧ R l n B σ' a' w') a w

def thenQ (K : St → Prop) (Q : Exit → St → Prop) : Exit → St → Prop
  | .normal, σ => K σ
  | e, σ => Q e σ
def blockQ (id : Nat) (Q : Exit → St → Prop) : Exit → St → Prop
  | .exit i, σ => if i = id then Q .normal σ else Q (.exit i) σ
  | e, σ => Q e σ

section
variable {P : Program} {l n : Nat} {B : Base} {H H' : Hp} {m m' : Mu} {S S' : Nat → Prop} {w w' : World} {s : Nat → AV} {a : Act} {K : St → Prop} {o : Oper} {σ : St} {Q : Exit → St → Prop}

theorem args_app {xs ys : List AV} {vs us : Array Value} (h : ArgsRep w S H m l xs vs) (k : ArgsRep w S H m l ys us) : ArgsRep w S H m l (xs ++ ys) (vs ++ us) := by
  refine ⟨by simp [h.1, k.1], fun i x v hx hv => ?_⟩
  rcases Nat.lt_or_ge i xs.length with hlt | hge
  · rw [List.getElem?_append_left hlt] at hx
    rw [Array.getElem?_append_left (by rw [← h.1]; exact hlt)] at hv
    exact h.2 i x v hx hv
  · rw [List.getElem?_append_right hge] at hx
    rw [Array.getElem?_append_right (by rw [← h.1]; exact hge), ← h.1] at hv
    exact k.2 _ x v hx hv

theorem aop_call {c : Call} {f : Operand} {g : FuncId} {first caps : List AV} (ho : o.op = .call c) (hc : c.callee = .value f) (hf : ev s f = .fn (.func g) first caps)
    (h : ACall P g (l + 1) (first ++ c.args.toList.map (ev s) ++ caps) H (retK n o.dst K ⟨s, H⟩)) : AOp P l n B o K ⟨s, H⟩ := by
  intro a w hR Q
  obtain ⟨m, S, hO, hn, hdf, hS, hex⟩ := hR.un
  obtain ⟨⟨fn, cd, h1, h2, h3⟩, h⟩ := h
  have hfr := ev_rep hS f
  rw [hf] at hfr
  generalize hv : a.eval f = fv at hfr
  cases hfr with
  | fn _ _ _ vs us hx hy g1 g2 =>
    have hargs : ArgsRep w S H m (l + 1) (first ++ c.args.toList.map (ev s) ++ caps) (vs ++ c.args.map a.eval ++ us) :=
      args_app (args_app ⟨hx, g1⟩ (map_rep hS c.args)) ⟨hy, g2⟩
    have hrun : (execOp a.eval o).run P w = .ok (.enter g (vs ++ c.args.map a.eval ++ us)) w := by
      unfold execOp
      simp only [ho, resolve, hc, hv, Deferred.ofValue, Sem.run_bind, Sem.run_pure, Result.andThen_ok, invoke]
      exact Go.MuLone.run_callFunc_enter h1 h3 h2 _ w
    unfold Oper.wp
    rw [hrun]
    refine (h m S w _ hO hargs).mono fun e w' ⟨r, v, H', m', S', he, hp, hO', hr, hx'⟩ => ?_
    subst he
    unfold retK putK at hp
    cases hd : o.dst with
    | none =>
      rw [hd] at hp
      exact ⟨_, hp, R.keep hO' hn hdf hS hex hx'⟩
    | some d =>
      rw [hd] at hp
      exact ⟨_, hp.2, R.step hO' hn hdf hS hex hx' hp.1 hr⟩

theorem rOp_sound (h : rOp P l n o K σ) : AOp P l n B o K σ := by
  obtain ⟨s, H⟩ := σ
  unfold rOp at h
  split at h
  · rename_i t ho
    split at h
    · rename_i d z hd hz; exact aop_alloc ho hd hz h.1 h.2
    · exact h.elim
  · rename_i t x ho
    split at h
    · rename_i d z hd hz; exact aop_box ho hd hz h.1 h.2
    · exact h.elim
  · rename_i t p x ho
    split at h
    · rename_i k g off vs hd hp hx
      obtain ⟨h1, h2, h3, h4, h5, h6, h7⟩ := h
      exact aop_store ho hd hp hx h1 h2 h3 h4 h5 h6 h7
    · exact h.elim
  · rename_i t len parts ho
    split at h
    · rename_i d e sz hd he
      obtain ⟨hsz, h⟩ := h
      split at h
      · exact aop_buildEmpty ho hd he hsz h.1 h.2.1 h.2.2
      · rename_i len
        obtain ⟨hlim, h⟩ := h
        split at h
        · rename_i z hz
          obtain ⟨hzl, h⟩ := h
          split at h
          · rename_i es hf; exact aop_buildLit ho hd he hsz hlim hz hzl hf h.1 h.2.1 h.2.2
          · split at h
            · rename_i cs hf; exact aop_buildSlice ho hd he hsz hlim hz hzl hf h
            · exact h.elim
        · exact h.elim
    · exact h.elim
  · rename_i t x y ho
    split at h
    · rename_i d e sz k1 c k2 c' hd he hx hy
      obtain ⟨h1, h2, h3, h4, h5, h⟩ := h
      split at h
      · rename_i z hz; exact aop_make ho hd he hx hy h1 h2 h3 h4 h5 hz h.1 h.2
      · exact h.elim
    · exact h.elim
  · rename_i c ho
    split at h
    · rename_i f hc
      split at h
      · rename_i g first caps hf; exact aop_call ho hc hf h
      · exact h.elim
    · rename_i hc
      split at h
      · rename_i d x y t t' hd hargs hts
        obtain ⟨h1, h⟩ := h
        have e1 : c.args = #[x, y] := Array.ext' (by simpa using hargs)
        have e2 : t' = t := by
          have : c.argTypes = #[t, t'] := Array.ext' (by simpa using hts)
          rw [this] at h1
          simpa using h1
        have e3 : c.argTypes = #[t, t] := Array.ext' (by rw [hts, e2])
        exact aop_append ho hc e1 e3 hd h
      · exact h.elim
    · rename_i h1 h2; exact aop_vOp h
  · exact aop_vOp h

theorem yield_grd {ops : Array Oper} (hS : Slots l s H m S a w) {i : Nat} {b t : Bool} (h : grd s (ops.toList.map (·.dst)) i b = some t) : (yielded ops a.tmps i == some b) = t := by
  unfold grd at h
  split at h
  · rename_i d hd
    have hr := hS d
    rw [List.getElem?_map, Array.getElem?_toList] at hd
    cases ho : ops[i]? with
    | none => rw [ho] at hd; cases hd
    | some o =>
      rw [ho] at hd
      simp only [Option.map_some, Option.some.injEq] at hd
      split at h
      · rename_i t' ht
        simp only [Option.some.injEq] at h
        subst h
        rw [ht] at hr
        have hlt : d < a.tmps.size := by
          rcases Nat.lt_or_ge d a.tmps.size with hlt | hge
          · exact hlt
          · exfalso
            rw [Array.getD_eq_getD_getElem?, Array.getElem?_eq_none hge] at hr
            simp only [Option.getD_none] at hr
            generalize hu : undef = u at hr
            cases hr with
            | d _ _ hd => cases hd; cases hu
        unfold yielded
        rw [ho]
        simp only [Option.bind_some, hd, Array.getElem?_eq_getElem hlt]
        rw [Array.getD_eq_getD_getElem?, Array.getElem?_eq_getElem hlt] at hr
        simp only [Option.getD_some] at hr
        generalize a.tmps[d] = v at hr
        cases hr with
        | d _ _ hd => cases hd; cases t' <;> cases b <;> rfl
      · rename_i ht
        simp only [Option.some.injEq] at h
        subst h
        rw [ht] at hr
        unfold yielded
        rw [ho]
        simp only [Option.bind_some, hd]
        rcases Nat.lt_or_ge d a.tmps.size with hlt | hge
        · simp only [Array.getElem?_eq_getElem hlt]
          rw [Array.getD_eq_getD_getElem?, Array.getElem?_eq_getElem hlt] at hr
          simp only [Option.getD_some] at hr
          generalize a.tmps[d] = v at hr
          cases hr with
          | tup _ _ _ _ => rfl
        · simp only [Array.getElem?_eq_none hge]
          rfl
      · cases h
  · cases h

theorem wpList_of_AOp {ops : Array Oper} {rest : List Oper} {KK : St → Prop} {QQ : Exit → Act → World → Prop} (hw : Region.wanted o (yielded ops a.tmps) = true) (h : AOp P l n B o KK σ) (hR : R l n B σ a w)
    (hK : ∀ σ' a' w', KK σ' → R l n B σ' a' w' → wpList P ops QQ rest a' w') : wpList P ops QQ (o :: rest) a w := by
  unfold wpList
  rw [if_pos hw]
  refine .inl ?_
  have := h a w hR QQ
  unfold Oper.wp at this ⊢
  revert this
  generalize (execOp a.eval o).run P w = r
  have mono : ∀ (r : Result Next), o.upon P a (fun a' w' => ∃ σ', KK σ' ∧ R l n B σ' a' w') QQ r → o.upon P a (wpList P ops QQ rest) QQ r := by
    intro r h
    cases r with
    | ok x w1 =>
      cases x <;> first
        | exact h
        | (simp only [Oper.upon] at h ⊢; obtain ⟨σ', h1, h2⟩ := h; exact hK σ' _ _ h1 h2)
        | skip
      · rename_i f args
        simp only [Oper.upon] at h ⊢
        refine Calls.mono h fun e w2 he => ?_
        cases e with
        | returned v => obtain ⟨σ', h1, h2⟩ := he; exact hK σ' _ _ h1 h2
        | panicked c => exact he
        | outgrown => exact he
      · rename_i row args
        simp only [Oper.upon] at h ⊢
        exact Rows.mono h fun v w2 ⟨σ', h1, h2⟩ => hK σ' _ _ h1 h2
    | halt x w1 => cases x <;> exact h
  exact mono r

theorem R.undef {d : Nat} (hR : R l n B σ a w) (hd : d < n) : R l n B ⟨upd σ.s d (.tup []), σ.H⟩ (a.put (some d) undef) w := by
  obtain ⟨s, H⟩ := σ
  obtain ⟨m, S, hO, hn, hdf, hS, hex⟩ := hR.un
  exact R.step hO hn hdf hS hex (Ext.refl _ _ _ _ _) hd (.tup [] #[] rfl (fun i x v h => by simp at h))

theorem R.undef_none (hR : R l n B σ a w) : R l n B σ (a.put none Go.undef) w := hR

theorem rOps_sound {ops : Array Oper} {QQ : Exit → Act → World → Prop} : ∀ (rest : List Oper) (σ : St) (a : Act) (w : World), rOps P l n (ops.toList.map (·.dst)) rest K σ → R l n B σ a w →
    (∀ σ' a' w', K σ' → R l n B σ' a' w' → QQ .normal a' w') → wpList P ops QQ rest a w
  | [], σ, a, w, h, hR, hK => hK σ a w h hR
  | o :: rest, σ, a, w, h, hR, hK => by
    have go : ∀ (h : rOp P l n o (rOps P l n (ops.toList.map (·.dst)) rest K) σ), Region.wanted o (yielded ops a.tmps) = true → wpList P ops QQ (o :: rest) a w := fun h hw =>
      wpList_of_AOp hw (rOp_sound h) hR fun σ' a' w' h1 h2 => rOps_sound rest σ' a' w' h1 h2 hK
    unfold rOps at h
    split at h
    · rename_i hg
      exact go h (by simp [Region.wanted, hg])
    · rename_i i b hg
      split at h
      · rename_i t ht
        have hy : (yielded ops a.tmps i == some b) = t := by
          obtain ⟨s, H⟩ := σ
          obtain ⟨m, S, hO, hn, hdf, hS, hex⟩ := hR.un
          exact yield_grd hS ht
        cases t with
        | true => exact go (h.1 rfl) (by simp only [Region.wanted, hg]; exact hy)
        | false =>
          have hw : Region.wanted o (yielded ops a.tmps) = false := by simp only [Region.wanted, hg]; exact hy
          have h2 := h.2 rfl
          unfold wpList
          rw [if_neg (by rw [hw]; decide)]
          split at h2
          · rename_i d hd
            rw [hd]
            exact rOps_sound rest _ _ w h2.2 (hR.undef h2.1) hK
          · rename_i hd
            rw [hd]
            exact rOps_sound rest _ _ w h2 hR.undef_none hK
      · exact h.elim

/-! ### Control -/
theorem awp_mono {c : Code} {Q' : Exit → St → Prop} (h : AWp P l n B c Q σ) (hq : ∀ e σ, Q e σ → Q' e σ) : AWp P l n B c Q' σ :=
  fun a w hR => wp_mono (h a w hR) fun _ _ _ ⟨σ', h1, h2⟩ => ⟨σ', hq _ _ h1, h2⟩

theorem awp_region {id : Nat} {ops : List Oper} (h : ∀ K : St → Prop, (∀ σ', Q .normal σ' → K σ') → rOps P l n (ops.map (·.dst)) ops K σ) : AWp P l n B (.region id ops.toArray false) Q σ := by
  intro a w hR
  refine wp_region_lit ?_
  have h1 := h (Q .normal) (fun _ h => h)
  exact rOps_sound (ops := ops.toArray) (K := Q .normal) ops σ a w (by simpa using h1) hR fun σ' a' w' h2 h3 => ⟨σ', h2, h3⟩

theorem awp_skip (h : Q .normal σ) : AWp P l n B .skip Q σ := fun _ _ hR => wp_skip ⟨σ, h, hR⟩
theorem awp_ret (h : Q .ret σ) : AWp P l n B .ret Q σ := fun _ _ hR => wp_ret ⟨σ, h, hR⟩
theorem awp_exit {id : Nat} (h : Q (.exit id) σ) : AWp P l n B (.exit id) Q σ := fun _ _ hR => wp_exit ⟨σ, h, hR⟩

theorem awp_seq {x y : Code} (h : ∀ K : St → Prop, (∀ σ', AWp P l n B y Q σ' → K σ') → AWp P l n B x (thenQ K Q) σ) : AWp P l n B (.seq x y) Q σ := by
  intro a w hR
  refine wp_seq (wp_mono (h _ (fun _ h => h) a w hR) fun e a' w' ⟨σ', h1, h2⟩ => ?_)
  cases e with
  | normal => exact h1 a' w' h2
  | exit id => exact ⟨σ', h1, h2⟩
  | goto id => exact ⟨σ', h1, h2⟩
  | ret => exact ⟨σ', h1, h2⟩
  | panic c => exact ⟨σ', h1, h2⟩
  | outgrown => exact ⟨σ', h1, h2⟩

theorem bool_of (hR : R l n B σ a w) {c : Operand} {t : Bool} (h : ev σ.s c = .d (.bool t)) : a.eval c = .bool t := by
  obtain ⟨s, H⟩ := σ
  obtain ⟨m, S, hO, hn, hdf, hS, hex⟩ := hR.un
  have := ev_rep hS c
  rw [show ev s c = .d (.bool t) from h] at this
  generalize a.eval c = v at this
  cases this with
  | d _ _ hd => cases hd; rfl

theorem awp_cond {c : Operand} {x y : Code} {t : Bool} (hc : ev σ.s c = .d (.bool t)) (h1 : t = true → AWp P l n B x Q σ) (h2 : t = false → AWp P l n B y Q σ) : AWp P l n B (.cond c x y) Q σ :=
  fun a w hR => wp_cond_split (bool_of hR hc) (fun e => h1 e a w hR) (fun e => h2 e a w hR)

theorem awp_block {id : Nat} {c : Code} (h : AWp P l n B c (blockQ id Q) σ) : AWp P l n B (.block id c) Q σ := by
  intro a w hR
  refine wp_block (wp_mono (h a w hR) fun e a' w' ⟨σ', h1, h2⟩ => ?_)
  cases e with
  | exit i =>
    unfold blockQ at h1
    unfold Exit.inBlock
    by_cases hi : i = id
    · simp only [hi, if_true] at h1 ⊢; exact ⟨σ', h1, h2⟩
    · simp only [hi, if_false] at h1 ⊢; exact ⟨σ', h1, h2⟩
  | normal => exact ⟨σ', h1, h2⟩
  | goto id => exact ⟨σ', h1, h2⟩
  | ret => exact ⟨σ', h1, h2⟩
  | panic c => exact ⟨σ', h1, h2⟩
  | outgrown => exact ⟨σ', h1, h2⟩

/-- A loop: an invariant with a measure that every round lowers. -/
theorem awp_loop {c : Code} (I : Nat → St → Prop) (n0 : Nat) (h0 : I n0 σ) (round : ∀ k σ, I k σ → AWp P l n B c (thenQ (fun σ' => ∃ j, j < k ∧ I j σ') Q) σ) : AWp P l n B (.loop c) Q σ := by
  intro a w hR b k cs
  have key : ∀ q σ a w, I q σ → R l n B σ a w → ∃ e a' w', (∃ σ', Q e σ' ∧ R l n B σ' a' w') ∧ Arrives P (lone (b.at a (.code c :: .inLoop c :: k)) cs w) b k cs e a' w' := by
    intro q
    induction q using Nat.strongRecOn with
    | _ q ih =>
      intro σ a w hI hR
      obtain ⟨e, a₁, w₁, ⟨σ₁, hq, hR₁⟩, harr⟩ := round q σ hI a w hR b (.inLoop c :: k) cs
      cases e with
      | normal =>
        obtain ⟨j, hj, hI₁⟩ := hq
        obtain ⟨e₂, a₂, w₂, hq₂, harr₂⟩ := ih j hj σ₁ a₁ w₁ hI₁ hR₁
        exact ⟨e₂, a₂, w₂, hq₂, .of_steps (Steps.trans harr (.one step_inLoop)) harr₂⟩
      | exit id => exact ⟨_, a₁, w₁, ⟨σ₁, hq, hR₁⟩, .pass (x := .inLoop c) rfl (fun _ _ => .inl (by simp)) harr⟩
      | goto id => exact ⟨_, a₁, w₁, ⟨σ₁, hq, hR₁⟩, .pass (x := .inLoop c) rfl (fun _ _ => .inl (by simp)) harr⟩
      | ret => exact ⟨_, a₁, w₁, ⟨σ₁, hq, hR₁⟩, .pass (x := .inLoop c) rfl (fun _ _ => .inl (by simp)) harr⟩
      | panic ch => exact ⟨_, a₁, w₁, ⟨σ₁, hq, hR₁⟩, .pass (x := .inLoop c) rfl (fun _ _ => .inl (by simp)) harr⟩
      | outgrown => exact ⟨_, a₁, w₁, ⟨σ₁, hq, hR₁⟩, .pass (x := .inLoop c) rfl (fun _ _ => .inl (by simp)) harr⟩
  obtain ⟨e, a', w', hq, harr⟩ := key n0 σ a w h0 hR
  exact ⟨e, a', w', hq, .of_steps (.one step_loop) harr⟩
end
end Go.Eng
