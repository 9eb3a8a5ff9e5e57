import Derived.Test.YthagpbkmakocjaaCx14
import Derived.Test.YthagpbkmakocjaaCx13
namespace Go.Eng
set_option linter.all false
open Go Go.RowKit
def pb : Value → Option Nat
  | .pointer (some a) => some a.block
  | _ => none
def Cel (w : World) (b : Nat) : Prop := ∃ C e f, w.heap[b]? = some (.cells C e f)
section
variable {P : Program} {α β : Type}
theorem Zpu {v : Value} {a : Addr} {w w1 : World} (h : (Instr.sureAddr v).run P w = .ok a w1) : v = .pointer (some a) ∧ w1 = w := by
  unfold Instr.sureAddr at h
  split at h
  · cases h; exact ⟨rfl, rfl⟩
  · cases h
def Lo (b : Nat) (P : Program) (s : Sem α) : Prop := ∀ w r w1 w2, s.run P w = .ok r w1 → Cel w b → w2.heap[b]? = w.heap[b]? → s.run P w2 = .ok r w2
theorem Vp.lo {b : Nat} {s : Sem α} (h : Vp P s) : Lo b P s := fun w r w1 w2 e _ _ => (h w r w1 e).2 w2
theorem Lo.bind {b : Nat} {s : Sem α} {f : α → Sem β} (hr : Rd P s) (h : Lo b P s) (k : ∀ a, Lo b P (f a)) : Lo b P (s >>= f) := fun w r w1 w2 e h1 h2 => by
  rw [Sem.run_bind] at e ⊢
  cases hs : s.run P w with
  | halt x w' => rw [hs] at e; cases e
  | ok a w' =>
    rw [hs] at e
    have := hr w a w' hs
    subst this
    rw [h _ _ _ _ hs h1 h2]
    exact k a _ _ _ _ e h1 h2
theorem Zoo (a : Addr) : Lo a.block P (load a) := fun w r w1 w2 e ⟨C, t, f, hC⟩ h2 => by
  unfold load at e ⊢
  simp only [Sem.run] at e ⊢
  have hc : w2.cell? a = w.cell? a := World.cell?_of_block h2
  rw [hc]
  cases hv : w.cell? a with
  | some v => rw [hv] at e; cases e; rfl
  | none =>
    rw [hv] at e
    have : w.farLoad P a (Mode.plain == Mode.atomic) = .error (w.noCell a "load: no such cell") := by unfold World.farLoad; rw [hC]
    rw [this] at e
    cases e
theorem ZeE (a : Addr) : ∀ (n i : Nat) (acc : Array Value), Lo a.block P (loadCellsFrom a i n acc)
  | 0, i, acc => (Vp.pure _).lo
  | n + 1, i, acc => by
    unfold loadCellsFrom
    refine .bind (Zg7 _) ?_ fun v => ZeE a n (i + 1) _
    have := Zoo (P := P) (a.add i)
    rwa [block_add] at this
theorem Znt (t : TypeId) (a : Addr) : Lo a.block P (loadVar t a) := by
  unfold loadVar
  refine .bind (Zdg t).rd (Zdg t).lo fun b => ?_
  cases b with
  | true => exact .bind (Za4 t).rd (Za4 t).lo fun n => .bind (Zcl a n 0 _) (ZeE a n 0 _) fun _ => (Vp.pure _).lo
  | false => exact Zoo a
theorem ZoS {ρ : Operand → Value} {o : Oper} {t : TypeId} {x : Operand} {w w2 : World} {v : Value} (ho : o.op = .load t x) (e : (execOp ρ o).run P w = .ok (.value v) w) :
    ∃ b, pb (ρ x) = some b ∧ (Cel w b → w2.heap[b]? = w.heap[b]? → (execOp ρ o).run P w2 = .ok (.value v) w2) := by
  obtain ⟨dst, op, type, pos, after, guard⟩ := o
  cases ho
  change ((Instr.loadAt t (ρ x)) >>= fun y => (pure (Next.value y) : Sem Next)).run P w = _ at e
  show ∃ b, pb (ρ x) = some b ∧ (_ → _ → ((Instr.loadAt t (ρ x)) >>= fun y => (pure (Next.value y) : Sem Next)).run P w2 = _)
  generalize ρ x = q at e ⊢
  have : ∃ a, q = .pointer (some a) := by
    cases hs : (Instr.sureAddr q).run P w with
    | halt _ _ => unfold Instr.loadAt at e; simp only [Sem.run_bind, hs] at e; cases e
    | ok a w' => exact ⟨a, (Zpu hs).1⟩
  obtain ⟨a, rfl⟩ := this
  exact ⟨a.block, rfl, fun h1 h2 => Lo.bind (Rd.bind (Vp.pure a).rd fun a => Zeo t a) (Znt t a) (fun _ => (Vp.pure _).lo) _ _ _ _ e h1 h2⟩
def So (b : Nat) (P : Program) (s : Sem α) : Prop := ∀ w r w1, s.run P w = .ok r w1 → Cel w b → Cel w1 b ∧ ∀ k, k ≠ b → w1.heap[k]? = w.heap[k]?
theorem Rd.so {b : Nat} {s : Sem α} (h : Rd P s) : So b P s := fun w r w1 e hc => by rw [h w r w1 e]; exact ⟨hc, fun _ _ => rfl⟩
theorem So.bind {b : Nat} {s : Sem α} {f : α → Sem β} (h : So b P s) (k : ∀ a, So b P (f a)) : So b P (s >>= f) := fun w r w1 e hc => by
  rw [Sem.run_bind] at e
  cases hs : s.run P w with
  | halt x w' => rw [hs] at e; cases e
  | ok a w' =>
    rw [hs] at e
    obtain ⟨h1, h2⟩ := h _ _ _ hs hc
    obtain ⟨h3, h4⟩ := k a _ _ _ e h1
    exact ⟨h3, fun k hk => (h4 k hk).trans (h2 k hk)⟩
theorem Zrj (a : Addr) (v : Value) : So a.block P (store a v) := fun w r w1 e ⟨C, t, f, hC⟩ => by
  unfold store at e
  have key : ∀ w1, w1 = w.setCell a v → Cel w1 a.block ∧ ∀ k, k ≠ a.block → w1.heap[k]? = w.heap[k]? := fun w1 e => by
    subst e
    unfold World.setCell
    constructor
    · refine ⟨(if a.spot.isSome then C else C.setIfInBounds a.off v), t, f, ?_⟩
      show (w.heap.modify a.block _)[a.block]? = _
      rw [Array.getElem?_modify, hC]
      simp
    · intro k hk
      show (w.heap.modify a.block _)[k]? = _
      rw [Array.getElem?_modify]
      simp [Ne.symm hk]
  cases v <;> simp only [Sem.run] at e <;> first
    | (cases e; done)
    | (cases hv : w.cell? a with
       | some x =>
         rw [hv] at e
         simp only at e
         split at e
         · cases e
         · cases e; exact key _ rfl
       | none =>
         rw [hv] at e
         unfold World.farStore at e
         rw [hC] at e
         cases e)
theorem ZdU (a : Addr) : ∀ (vs : List Value) (i : Nat), So a.block P (storeCells a vs i)
  | [], i => (Vp.pure _).rd.so
  | v :: r, i => by
    unfold storeCells
    refine So.bind ?_ fun _ => ZdU a r (i + 1)
    have := Zrj (P := P) (a.add i) v
    rwa [block_add] at this
theorem Zi9 (t : TypeId) (a : Addr) (v : Value) : So a.block P (storeVar t a v) := by
  unfold storeVar
  refine (Za4 t).rd.so.bind fun n => ?_
  by_cases h : v.cells.size ≠ n
  · rw [if_pos h]
    intro w r w1 e
    cases e
  · rw [if_neg h]
    exact ZdU a _ 0
theorem Zn6 {ρ : Operand → Value} {o : Oper} {t : TypeId} {x y : Operand} {w w1 : World} {r : Next} (ho : o.op = .store t x y) (e : (execOp ρ o).run P w = .ok r w1) :
    r = .skip ∧ ∃ b, pb (ρ x) = some b ∧ (Cel w b → Cel w1 b ∧ ∀ k, k ≠ b → w1.heap[k]? = w.heap[k]?) := by
  obtain ⟨dst, op, type, pos, after, guard⟩ := o
  cases ho
  change ((Instr.storeAt t (ρ x) (ρ y)) >>= fun _ => (pure Next.skip : Sem Next)).run P w = _ at e
  generalize ρ x = q at e ⊢
  generalize ρ y = v at e
  have h1 : r = .skip := by
    rw [Sem.run_bind] at e
    cases hs : (Instr.storeAt t q v).run P w with
    | halt _ _ => rw [hs] at e; cases e
    | ok _ _ => rw [hs] at e; cases e; rfl
  refine ⟨h1, ?_⟩
  have : ∃ a, q = .pointer (some a) := by
    cases hs : (Instr.sureAddr q).run P w with
    | halt _ _ => unfold Instr.storeAt at e; simp only [Sem.run_bind, hs] at e; cases e
    | ok a w' => exact ⟨a, (Zpu hs).1⟩
  obtain ⟨a, rfl⟩ := this
  exact ⟨a.block, rfl, fun hc => So.bind (Zi9 t a v) (fun _ => (Vp.pure _).rd.so) _ _ _ e hc⟩
end
def ZfX (z : Nat) : List (Nat × Nat) → Option Nat
  | [] => none
  | (d, r) :: l => match Nat.beq d z with | true => some r | false => ZfX z l
theorem ZbD {z r : Nat} : ∀ {l : List (Nat × Nat)}, ZfX z l = some r → (z, r) ∈ l
  | (d, q) :: l, h => by
    unfold ZfX at h
    split at h
    · rename_i e; cases h; rw [Nat.eq_of_beq_eq_true e]; exact List.mem_cons_self ..
    · exact List.mem_cons_of_mem _ (ZbD h)
def ZjF : Operand → Option Nat
  | .tmp z => some z
  | _ => none
def Zjw (P : Program) (o : Oper) : Option Nat := match vpO P o with
  | true => (match o.op with
    | .fieldAddr _ x _ => ZjF x
    | .move x => ZjF x
    | .nilCheck x => ZjF x
    | _ => none)
  | false => none
def Zb2 (P : Program) (env : List (Nat × Nat)) (o : Oper) : List (Nat × Nat) := match o.dst with
  | none => env
  | some d => (match Zjw P o with | some z => (match ZfX z env with | some r => [(d, r)] | none => []) | none => []) ++ env.filter fun p => !Nat.beq p.1 d
def Zg3 (P : Program) (env : List (Nat × Nat)) (o : Oper) : Bool := rdO P o || grO o || match o.op with
  | .store _ (.tmp y) _ => (ZfX y env).isSome
  | _ => false
def J (β : Nat → Nat) (env : List (Nat × Nat)) (a : Act) (w : World) : Prop := ∀ p ∈ env, ∀ b, pb (a.eval (.tmp p.1)) = some b → b = β p.2 ∧ Cel w b
def ZfL : Next → Option Value
  | .value v => some v
  | .skip => some undef
  | _ => none
section
variable {P : Program} {β : Nat → Nat} {env : List (Nat × Nat)} {a : Act} {w w' : World} {o : Oper} {n : Next}
theorem Ze2 (h : Zg3 P env o = true) (hJ : J β env a w) (e : (execOp a.eval o).run P w = .ok n w') : (∃ u, ZfL n = some u) ∧ ∀ b, Cel w b → Cel w' b := by
  unfold Zg3 at h
  rw [Bool.or_eq_true] at h
  rcases h with h | h
  · obtain ⟨h1, h2⟩ := ZgV (ρ := a.eval) h
    obtain ⟨v, rfl⟩ := h2 _ _ _ e
    exact ⟨⟨v, rfl⟩, fun b ⟨C, t, f, hC⟩ => ⟨C, t, f, h1 _ _ _ e _ _ hC⟩⟩
  · split at h
    · rename_i t y v ho
      obtain ⟨rfl, b0, h1, h2⟩ := Zn6 ho e
      obtain ⟨r, hr⟩ := Option.isSome_iff_exists.1 h
      obtain ⟨_, h3⟩ := hJ _ (ZbD hr) _ h1
      obtain ⟨h4, h5⟩ := h2 h3
      refine ⟨⟨_, rfl⟩, fun b ⟨C, t, f, hC⟩ => ?_⟩
      by_cases hb : b = b0
      · subst hb; exact h4
      · exact ⟨C, t, f, (h5 b hb).trans hC⟩
    · cases h
theorem Ze6 {x : Operand} {z : Nat} (h : ZjF x = some z) : x = .tmp z := by
  cases x <;> simp only [ZjF] at h <;> first | (cases h; done) | skip
  cases h; rfl
theorem ZvR {z : Nat} {b : Nat} {v : Value} (hs : Zjw P o = some z) (e : (execOp a.eval o).run P w = .ok (.value v) w') (hb : pb v = some b) : pb (a.eval (.tmp z)) = some b := by
  unfold Zjw at hs
  cases hv : vpO P o with
  | false => rw [hv] at hs; cases hs
  | true =>
    rw [hv] at hs
    obtain ⟨dst, op, type, pos, after, guard⟩ := o
    cases op <;> simp only at hs <;> first | (cases hs; done) | skip
    case move x => rw [← Ze6 hs]; cases e; exact hb
    case nilCheck x =>
      rw [← Ze6 hs]
      have hr : ∀ w r w1, (runtimePanic .nilDeref : Sem Next).run P w ≠ .ok r w1 := fun w r w1 e => by
        unfold runtimePanic at e
        simp only [Sem.run_bind, run_program, Result.andThen_ok] at e
        repeat (first | (cases e; done) | split at e | (simp [goPanic, stuck, unsupported, Sem.run] at e; done))
      simp only [execOp] at e
      split at e
      · exact absurd e (hr _ _ _)
      · exact absurd e (hr _ _ _)
      · exact absurd e (hr _ _ _)
      · split at e
        · exact absurd e (hr _ _ _)
        · simp only [Sem.run_bind, run_program, Result.andThen_ok] at e
          cases hs : (nilAhead _ _ _ _).run P w with
          | halt x w' => rw [hs] at e; cases e
          | ok q w' =>
            rw [hs] at e
            simp only [Result.andThen_ok] at e
            split at e
            · cases e
            · cases e; first | exact hb | cases hb
        · cases e; first | exact hb | cases hb
      · cases e; first | exact hb | cases hb
    case fieldAddr t x i =>
      rw [← Ze6 hs]
      simp only [vpO] at hv
      split at hv
      · rename_i fs hu
        split at hv
        · rename_i f hf
          have hz : P.cellsOf f.type ≠ 0 := fun h0 => by rw [h0] at hv; cases hv
          have run : ∀ (ad : Addr) (w : World), (Instr.fieldAt t (.pointer (some ad)) i).run P w = .ok (.pointer (some (ad.add f.offset))) w := fun ad w => by
            simp [Instr.fieldAt, run_underlying hu, hf, Instr.sureAddr, fieldPlace, Zbk hz, hz]
          change ((Instr.fieldAt t (a.eval x) i) >>= fun y => (pure (Next.value y) : Sem Next)).run P w = _ at e
          generalize a.eval x = q at e ⊢
          by_cases hq : ∃ ad, q = .pointer (some ad)
          · obtain ⟨ad, rfl⟩ := hq
            rw [Sem.run_bind, run] at e
            cases e
            simp only [pb, block_add] at hb
            exact hb
          · exfalso
            have hs : Instr.sureAddr q = .halt (.stuck "an address expected (no nilCheck in front?)") := by
              unfold Instr.sureAddr
              split
              · rename_i ad; exact absurd ⟨ad, rfl⟩ hq
              · rfl
            simp only [Instr.fieldAt, Sem.run_bind, run_underlying hu, Result.andThen_ok, hf, hs] at e
            cases e
        · cases hv
      · cases hv
theorem J.put (hJ : J β env a w) (ht : Zg3 P env o = true) (e : (execOp a.eval o).run P w = .ok n w') {u : Value} (hu : ZfL n = some u) : J β (Zb2 P env o) (a.put o.dst u) w' := by
  have hc := (Ze2 ht hJ e).2
  unfold Zb2
  have ev : ∀ z : Nat, (∀ d, o.dst = some d → z ≠ d) → (a.put o.dst u).eval (.tmp z) = a.eval (.tmp z) := fun z hz => Act.eval_put fun d hd hx => hz d hd (by cases hx; rfl)
  cases hd : o.dst with
  | none =>
    intro p hp b hb
    rw [← hd, ev _ (fun d h => by rw [hd] at h; cases h)] at hb
    exact ⟨(hJ p hp b hb).1, hc _ (hJ p hp b hb).2⟩
  | some d =>
    intro p hp b hb
    rw [List.mem_append] at hp
    rcases hp with hp | hp
    · split at hp
      · rename_i z hz
        split at hp
        · rename_i r hr
          obtain rfl := List.mem_singleton.1 hp
          simp only at hb ⊢
          have hu' : n = .value u := by
            have : rdO P o = true := by
              unfold Zjw at hz
              unfold rdO
              cases hv : vpO P o with
              | true => rfl
              | false => rw [hv] at hz; cases hz
            obtain ⟨v, rfl⟩ := (ZdB (ρ := a.eval) this).2 _ _ _ e
            cases hu
            rfl
          subst hu'
          have hb' : pb u = some b := by
            have : (a.put (some d) u).eval (.tmp d) = u ∨ (a.put (some d) u).eval (.tmp d) = undef := by
              simp only [Act.eval, Act.put, Array.getD_eq_getD_getElem?, Array.getElem?_setIfInBounds]
              split
              · rename_i h
                split <;> simp_all
              · simp_all
            rcases this with h | h
            · rw [h] at hb; exact hb
            · rw [h] at hb; cases hb
          obtain ⟨h1, h2⟩ := hJ _ (ZbD hr) _ (ZvR hz e hb')
          exact ⟨h1, hc _ h2⟩
        · cases hp
      · cases hp
    · rw [List.mem_filter] at hp
      have hne : p.1 ≠ d := fun he => by have := hp.2; rw [he, Nat.beq_refl] at this; cases this
      rw [← hd, ev _ (fun d' h => by rw [hd] at h; cases h; exact hne)] at hb
      exact ⟨(hJ p hp.1 b hb).1, hc _ (hJ p hp.1 b hb).2⟩
def ldB (P : Program) (env sp : List (Nat × Nat)) (oi oj : Oper) : Bool := rdO P oj || grO oj || match oi.op, oj.op with
  | .load _ (.tmp x), .store _ (.tmp y) _ => (match ZfX x env, ZfX y env with
    | some r, some q => sp.any fun p => Nat.beq p.1 r && Nat.beq p.2 q
    | _, _ => false)
  | _, _ => false
theorem Ztb {sp : List (Nat × Nat)} (hS : ∀ p ∈ sp, β p.1 ≠ β p.2) {oi : Oper} {v : Value} (hi : rdO P oi = true) (hJ : J β env a w) (hl : ldB P env sp oi o = true) (e : (execOp a.eval o).run P w = .ok n w') (hy : (execOp a.eval oi).run P w = .ok (.value v) w) :
    (execOp a.eval oi).run P w' = .ok (.value v) w' := by
  unfold ldB at hl
  rw [Bool.or_eq_true] at hl
  rcases hl with hl | hl
  · exact Zhv hi _ _ _ _ hy ((ZgV (ρ := a.eval) hl).1 _ _ _ e)
  · split at hl
    · rename_i t x t' y v' h1 h2
      split at hl
      · rename_i r q hr hq
        obtain ⟨p, hp, hpe⟩ := List.any_eq_true.1 hl
        rw [Bool.and_eq_true] at hpe
        have e1 := Nat.eq_of_beq_eq_true hpe.1
        have e2 := Nat.eq_of_beq_eq_true hpe.2
        obtain ⟨b, hb, h3⟩ := ZoS (w2 := w') h1 hy
        obtain ⟨_, b', hb', h4⟩ := Zn6 h2 e
        obtain ⟨f1, f2⟩ := hJ _ (ZbD hr) _ hb
        obtain ⟨f3, f4⟩ := hJ _ (ZbD hq) _ hb'
        have hne : b ≠ b' := by
          rw [f1, f3]
          have := hS p hp
          rwa [e1, e2] at this
        exact h3 f2 ((h4 f4).2 b hne)
      · cases hl
    · cases hl
def Zgm (env : List (Nat × Nat)) (o : Oper) : Bool := match o.dst with
  | none => true
  | some d => env.all fun p => !Nat.beq p.1 d
theorem J.keep (hJ : J β env a w) (ht : Zg3 P env o = true) (hf : Zgm env o = true) (e : (execOp a.eval o).run P w = .ok n w') {u : Value} : J β env (a.put o.dst u) w' := by
  have hc := (Ze2 ht hJ e).2
  intro p hp b hb
  have : (a.put o.dst u).eval (.tmp p.1) = a.eval (.tmp p.1) := Act.eval_put fun d hd hx => by
    cases hx
    unfold Zgm at hf
    rw [hd] at hf
    have := List.all_eq_true.1 hf p hp
    rw [Nat.beq_refl] at this
    cases this
  rw [this] at hb
  exact ⟨(hJ p hp b hb).1, hc _ (hJ p hp b hb).2⟩
end
section
variable {P : Program} {ops : Array Oper} {Q : Exit → Act → World → Prop} {β : Nat → Nat}
theorem ZjB {env sp : List (Nat × Nat)} (hS : ∀ p ∈ sp, β p.1 ≠ β p.2) {i : Nat} {oi : Oper} {v : Value} (hi : ops[i]? = some oi) (hro : rdO P oi = true) (hu : ∀ (j : Nat) (o : Oper), ops[j]? = some o → o.guard = none) (hsel : ∀ (j : Nat) (o : Oper) cs b, ops[j]? = some o → o.op ≠ .select cs b)
    (hQ : ∀ c a w, ¬ Q (.panic c) a w) (hO : ¬ LetsOut Q) : ∀ (fuel : Nat) (listed : Array Bool) (a : Act) (w : World), DC ops listed →
      (∀ j oj, ops[j]? = some oj → j ≠ i → listed.getD j true = false → ¬ Waits ops j i → oi.apart ops oj = true ∧ Zg3 P env oj = true ∧ Zgm env oj = true ∧ ldB P env sp oi oj = true) → J β env a w →
      i ∈ Region.ready .any ops listed → (execOp a.eval oi).run P w = .ok (.value v) w →
      wpAny P .any ops Q fuel (listed.setIfInBounds i true) (a.put oi.dst v) w → wpAny P .any ops Q (fuel + 1) listed a w := by
  have self : ∀ {a : Act} {w : World} {K : Act → World → Prop}, (execOp a.eval oi).run P w = .ok (.value v) w → K (a.put oi.dst v) w → wpOp P ops Q i K a w := fun hy h => by
    unfold wpOp
    simp only [hi]
    rw [if_pos (by simp [Region.wanted, hu i oi hi])]
    left
    unfold Oper.wp
    rw [hy]
    exact h
  intro fuel
  induction fuel with
  | zero =>
    intro listed a w _ _ _ hr hy H
    refine ⟨fun h => (by rw [h] at hr; cases hr), fun j hj => ?_⟩
    by_cases hji : j = i
    · subst hji; exact self hy H
    · have := ready_mono hj hji
      rw [H.1] at this
      cases this
  | succ fuel ih =>
    intro listed a w hD hF hJ hr hy H
    refine ⟨fun h => (by rw [h] at hr; cases hr), fun j hj => ?_⟩
    by_cases hji : j = i
    · subst hji; exact self hy H
    · have h1 := H.2 j (ready_mono hj hji)
      obtain ⟨hjun, oj, hoj, hall⟩ := mem_ready.1 hj
      have hiun := (mem_ready.1 hr).1
      obtain ⟨hap, htm, hfr, hld⟩ := hF j oj hoj hji hjun (hD.nowait hj hiun)
      obtain ⟨p1, p2, p3⟩ := Oper.apart_spec hap
      unfold wpOp at h1 ⊢
      simp only [hoj] at h1 ⊢
      have hwt : ∀ y, Region.wanted oj y = true := fun y => by simp [Region.wanted, hu j oj hoj]
      rw [if_pos (hwt _)] at h1 ⊢
      rcases h1 with h1 | ⟨_, h1⟩
      case inr => exact absurd h1 hO
      left
      unfold Oper.wp at h1 ⊢
      rw [execOp_put oj (fun cs b => hsel j oj cs b hoj) a oi.dst v p1] at h1
      cases hrun : (execOp a.eval oj).run P w with
      | halt x w' =>
        rw [hrun] at h1
        cases x <;> simp only [Oper.upon] at h1
        exact absurd h1 (hQ _ _ _)
      | ok n w' =>
        obtain ⟨⟨u, hun⟩, _⟩ := Ze2 htm hJ hrun
        have go : wpAny P .any ops Q fuel (((listed.setIfInBounds i true).setIfInBounds j true)) ((a.put oi.dst v).put oj.dst u) w' → wpAny P .any ops Q (fuel + 1) (listed.setIfInBounds j true) (a.put oj.dst u) w' := fun h1 => by
          refine ih (listed.setIfInBounds j true) (a.put oj.dst u) w' (hD.ready hj) (fun k ok hk hki hun hno => ?_) (hJ.keep htm hfr hrun) (ready_mono hr (Ne.symm hji)) ?_ ?_
          · refine hF k ok hk hki ?_ hno
            by_cases hjk : j = k
            · subst hjk; exact hjun
            · rw [getD_set_ne true hjk] at hun; exact hun
          · rw [execOp_put oi (fun cs b => hsel i oi cs b hi) a oj.dst u p3]; exact Ztb hS hro hJ hld hrun hy
          · rw [Array.setIfInBounds_comm _ _ hji, ← Act.put_comm a v u p2]; exact h1
        rw [hrun] at h1
        cases n <;> simp only [ZfL] at hun <;> first | (cases hun; done) | skip
        · cases hun
          exact go h1
        · cases hun
          exact go h1
end
def ZGG (P : Program) (L : List Oper) (sp env : List (Nat × Nat)) (listed : List Nat) (i : Nat) (oi : Oper) : Nat → List Oper → Bool
  | _, [] => true
  | j, oj :: r => (listed.any (Nat.beq j) || Nat.beq j i || Zi0 L i L.length j || (oi.apart L.toArray oj && (rdO P oi && (Zg3 P env oj && (Zgm env oj && ldB P env sp oi oj))))) && ZGG P L sp env listed i oi (j + 1) r
def Zqv (P : Program) (L : List Oper) (sp : List (Nat × Nat)) : List (Nat × Nat) → List Nat → List Nat → Bool
  | _, listed, [] => (List.range L.length).all fun j => listed.any (Nat.beq j)
  | env, listed, i :: rest => match nth L i with
    | some oi => !(listed.any (Nat.beq i)) && oi.after.toList.all (fun e => !Region.binds .any e || listed.any (Nat.beq e.on)) && (match vpO P oi with | true => ZfT.chkV P L listed i oi 0 L | false => ZGG P L sp env listed i oi 0 L) && Zg3 P env oi && Zqv P L sp (Zb2 P env oi) (i :: listed) rest
    | none => false
theorem ZoK {P : Program} {L : List Oper} {sp env : List (Nat × Nat)} {listed : List Nat} {i : Nat} {oi : Oper} : ∀ {r : List Oper} {j0 k : Nat} {oj : Oper}, ZGG P L sp env listed i oi j0 r = true → r[k]? = some oj →
    (j0 + k) ∈ listed ∨ j0 + k = i ∨ Waits L.toArray (j0 + k) i ∨ (oi.apart L.toArray oj = true ∧ rdO P oi = true ∧ Zg3 P env oj = true ∧ Zgm env oj = true ∧ ldB P env sp oi oj = true)
  | [], j0, k, oj, _, h => by simp at h
  | q :: r, j0, k, oj, hc, h => by
    unfold ZGG at hc
    rw [Bool.and_eq_true] at hc
    cases k with
    | zero =>
      simp only [List.getElem?_cons_zero, Option.some.injEq] at h
      subst h
      have h1 := hc.1
      rw [Bool.or_eq_true, Bool.or_eq_true, Bool.or_eq_true] at h1
      rcases h1 with ((h1 | h1) | h1) | h1
      · exact .inl (ZbJ.1 h1)
      · exact .inr (.inl (Nat.eq_of_beq_eq_true h1))
      · exact .inr (.inr (.inl (ZdG _ _ h1)))
      · simp only [Bool.and_eq_true] at h1
        exact .inr (.inr (.inr h1))
    | succ k =>
      have := ZoK (k := k) hc.2 (by simpa using h)
      rwa [show j0 + 1 + k = j0 + (k + 1) from by omega] at this
section
variable {P : Program} {Q : Exit → Act → World → Prop} {L : List Oper} {β : Nat → Nat} {sp : List (Nat × Nat)}
theorem Zik {A : Array Oper} (hS : ∀ p ∈ sp, β p.1 ≠ β p.2) (hu : ∀ (j : Nat) (o : Oper), L.toArray[j]? = some o → o.guard = none) (hsel : ∀ (j : Nat) (o : Oper) cs b, L.toArray[j]? = some o → o.op ≠ .select cs b) (hQ : ∀ c a w, ¬ Q (.panic c) a w) (hO : ¬ LetsOut Q) :
    ∀ (π listed : List Nat) (env : List (Nat × Nat)) (la : Array Bool) (a : Act) (w : World), la.size = L.length → (∀ j, j < L.length → (la.getD j true = true ↔ j ∈ listed)) → (∀ x ∈ listed, x < L.length) → DC L.toArray la → Zqv P L sp env listed π = true → J β env a w →
      wpList P A Q (π.filterMap (nth L)) a w → wpAny P .any L.toArray Q π.length la a w
  | [], listed, env, la, a, w, hs, hl, hlt, hD, hc, hJ, h => by
    unfold Zqv at hc
    rw [List.all_eq_true] at hc
    refine ⟨?_, h⟩
    cases hr : Region.ready .any L.toArray la with
    | nil => rfl
    | cons x xs =>
      have hx : x ∈ Region.ready .any L.toArray la := by rw [hr]; exact List.mem_cons_self ..
      obtain ⟨h0, o, ho, _⟩ := mem_ready.1 hx
      have hlt : x < L.length := by have := (Array.getElem?_eq_some_iff.1 ho).1; simpa using this
      have := (hl x hlt).2 (ZbJ.1 (hc x (List.mem_range.2 hlt)))
      rw [h0] at this
      cases this
  | i :: rest, listed, env, la, a, w, hs, hl, hlt, hD, hc, hJ, h => by
    unfold Zqv at hc
    rw [Zbh] at hc
    cases hi : L[i]? with
    | none => rw [hi] at hc; simp at hc
    | some oi =>
      rw [hi] at hc
      simp only [Bool.and_eq_true, Bool.not_eq_true'] at hc
      obtain ⟨⟨⟨⟨c1, c2⟩, c3⟩, c5⟩, c4⟩ := hc
      have hiL : i < L.length := (List.getElem?_eq_some_iff.1 hi).1
      have hiA : L.toArray[i]? = some oi := by simpa using hi
      have hun : la.getD i true = false := by
        cases hb : la.getD i true with
        | false => rfl
        | true => have := ZbJ.2 ((hl i hiL).1 hb); rw [c1] at this; cases this
      have hr : i ∈ Region.ready .any L.toArray la := mem_ready.2 ⟨hun, oi, hiA, fun e he hb => by
        have h1 := List.all_eq_true.1 c2 e (by simpa using he)
        rw [hb] at h1
        simp only [Bool.not_true, Bool.false_or] at h1
        have hm := ZbJ.1 h1
        have h2 := hlt _ hm
        have h3 := (hl _ h2).2 hm
        simp only [Array.getD_eq_getD_getElem?] at h3 ⊢
        rw [Array.getElem?_eq_getElem (by omega)] at h3 ⊢
        simpa using h3⟩
      have hl' : ∀ j, j < L.length → ((la.setIfInBounds i true).getD j true = true ↔ j ∈ i :: listed) := fun j hj => by
        by_cases hji : i = j
        · subst hji
          simp only [List.mem_cons, true_or, iff_true]
          simp [hs, hj]
        · rw [getD_set_ne true hji, hl j hj, List.mem_cons]
          exact ⟨.inr, fun h => h.resolve_left (Ne.symm hji)⟩
      have hlt' : ∀ x ∈ i :: listed, x < L.length := fun x hx => by
        rcases List.mem_cons.1 hx with rfl | hx
        · exact hiL
        · exact hlt x hx
      have ih : ∀ a w, J β (Zb2 P env oi) a w → wpList P A Q (rest.filterMap (nth L)) a w → wpAny P .any L.toArray Q rest.length (la.setIfInBounds i true) a w := fun a w hJ h =>
        Zik hS hu hsel hQ hO rest (i :: listed) _ _ a w (by simp [hs]) hl' hlt' (hD.ready hr) c4 hJ h
      rw [List.filterMap_cons_some (by rw [Zbh]; exact hi)] at h
      unfold wpList at h
      rw [if_pos (by simp [Region.wanted, hu i oi hiA])] at h
      rcases h with h | ⟨_, h⟩
      case inr => exact absurd h hO
      have hli : ∀ j, j < L.length → la.getD j true = false → j ∉ listed := fun j hj hun hm => by
        have := (hl j hj).2 hm
        rw [hun] at this
        cases this
      show wpAny P .any L.toArray Q (rest.length + 1) la a w
      unfold Oper.wp at h
      cases hrun : (execOp a.eval oi).run P w with
      | halt x w' =>
        rw [hrun] at h
        cases x <;> simp only [Oper.upon] at h
        exact absurd h (hQ _ _ _)
      | ok n w' =>
        obtain ⟨⟨u, hun'⟩, _⟩ := Ze2 c5 hJ hrun
        have hJ' := hJ.put c5 hrun hun'
        have h' : wpList P A Q (rest.filterMap (nth L)) (a.put oi.dst u) w' := by
          rw [hrun] at h
          cases n <;> simp only [ZfL] at hun' <;> first | (cases hun'; done) | skip
          · cases hun'
            exact h
          · cases hun'
            exact h
        have h2 := ih _ _ hJ' h'
        by_cases hv : vpO P oi = true
        · rw [hv] at c3
          obtain ⟨v1, v2⟩ := Zer (P := P) (ρ := a.eval) hv
          obtain ⟨rfl, v3⟩ := v1 _ _ _ hrun
          obtain ⟨u', rfl⟩ := v2 _ _ _ hrun
          cases hun'
          refine wpAny_first hiA hsel (fun c a w hq => absurd hq (hQ _ _ _)) rest.length la a w' (fun j oj hoj hji hjun hno => ?_) hr (.inl ⟨by simp [Region.wanted, hu i oi hiA], v3⟩) h2
          have hjl : j < L.length := by have := (Array.getElem?_eq_some_iff.1 hoj).1; simpa using this
          have := Zg6 (k := j) c3 (by simpa using hoj)
          rw [Nat.zero_add] at this
          rcases this with h3 | h3 | ⟨e, he, hb, he2⟩ | h3
          · exact absurd h3 (hli j hjl hjun)
          · exact absurd h3 hji
          · exact absurd he2 (hno e he hb)
          · exact h3
        · have hv' : vpO P oi = false := by cases hq : vpO P oi with | false => rfl | true => exact absurd hq hv
          rw [hv'] at c3
          have at_ : ∀ j oj, L.toArray[j]? = some oj → j ≠ i → la.getD j true = false → ¬ Waits L.toArray j i → oi.apart L.toArray oj = true ∧ rdO P oi = true ∧ Zg3 P env oj = true ∧ Zgm env oj = true ∧ ldB P env sp oi oj = true := fun j oj hoj hji hjun hno => by
            have hjl : j < L.length := by have := (Array.getElem?_eq_some_iff.1 hoj).1; simpa using this
            have := ZoK (k := j) c3 (by simpa using hoj)
            rw [Nat.zero_add] at this
            rcases this with h3 | h3 | h3 | h3
            · exact absurd h3 (hli j hjl hjun)
            · exact absurd h3 hji
            · exact absurd h3 hno
            · exact h3
          by_cases hrd : rdO P oi = true
          · obtain ⟨v1, v2⟩ := ZdB (P := P) (ρ := a.eval) hrd
            have e := v1 _ _ _ hrun
            subst e
            obtain ⟨u', rfl⟩ := v2 _ _ _ hrun
            cases hun'
            exact ZjB hS hiA hrd hu hsel hQ hO rest.length la a w' hD (fun j oj hoj hji hjun hno => ⟨(at_ j oj hoj hji hjun hno).1, (at_ j oj hoj hji hjun hno).2.2⟩) hJ hr hrun h2
          · refine ⟨fun h0 => (by rw [h0] at hr; cases hr), fun j hj => ?_⟩
            have hji : j = i := by
              apply Classical.byContradiction
              intro hji
              obtain ⟨hjun, oj, hoj, _⟩ := mem_ready.1 hj
              exact hrd (at_ j oj hoj hji hjun (hD.nowait hj hun)).2.1
            subst hji
            unfold wpOp
            simp only [hiA]
            rw [if_pos (by simp [Region.wanted, hu j oi hiA])]
            left
            unfold Oper.wp
            rw [hrun]
            cases n <;> simp only [ZfL] at hun' <;> first | (cases hun'; done) | skip
            · cases hun'
              exact h2
            · cases hun'
              exact h2
end
def Zfc (τ : St) (z : Nat) : Option Nat := match τ.s z with
  | .ptr k g _ => (match Nat.beq k.1 1, Zbl τ.H k g, (τ.H k).cells with
     | true, true, _ :: _ => some k.2
     | _, _, _ => none)
  | _ => none
theorem ZtV {τ : St} {z d : Nat} (h : Zfc τ z = some d) : ∃ g off, τ.s z = .ptr (1, d) g off ∧ Zbl τ.H (1, d) g = true ∧ (τ.H (1, d)).cells ≠ [] := by
  unfold Zfc at h
  split at h
  · rename_i k g off hs
    split at h
    · rename_i c r e1 e2 e3
      cases h
      obtain ⟨k1, k2⟩ := k
      have := Nat.eq_of_beq_eq_true e1
      simp only at this
      subst this
      exact ⟨g, off, hs, e2, by rw [e3]; simp⟩
    · cases h
  · cases h
def ZIK (τ : St) (Z : List Nat) (sp : List (Nat × Nat)) : Bool := Z.all (fun z => (Zfc τ z).isSome) && sp.all fun p => match Zfc τ p.1, Zfc τ p.2 with
  | some d, some d' => !Nat.beq d d'
  | _, _ => false
def ZCf (P : Program) (π : List Nat) (Z : List Nat) (sp : List (Nat × Nat)) : Code → Bool
  | .region _ ops true => ops.toList.all noG && Nat.beq π.length ops.toList.length && Zqv P ops.toList sp (Z.map fun z => (z, z)) [] π
  | _ => false
theorem ZCM {w : World} {S : Nat → Prop} {H : Hp} {m : Mu} {l : Nat} {k : Key} {off : Nat} {v : Value} {b : Nat} (hO : Ok l H m S w) (hl : (H k).live = true) (hk : k.1 ≤ l) (hc : (H k).cells ≠ []) (h : RepA w S H m l (.ptr k (H k).g off) v) (hb : pb v = some b) : b = (m k).b ∧ Cel w b := by
  have hcap : (m k).cap ≠ 0 := fun h0 => hc (hO.empty k hk hl h0)
  obtain ⟨C, hC, _⟩ := hO.blk k hk hl hcap
  generalize hx : AV.ptr k (H k).g off = x at h
  cases h <;> first | (cases hx; done) | skip
  case ptrL k' off' _ _ =>
    cases hx
    cases hb
    exact ⟨rfl, C, _, _, hC⟩
  case ptrD k' g off' h1 h2 h3 _ =>
    injection hx with e1 e2 e3
    subst e1
    have := h3 e2.symm
    rw [hl] at this
    cases this
theorem ZIL {P : Program} {n os : Nat} {C : Cx} {τ : St} {Q : Exit → St → Prop} {c : Code} (co : CO C os) (hm : P.follows .mixedOrders = true) (π Z : List Nat) (sp : List (Nat × Nat)) (h : LO P n C (ZGN π c) 0 τ (fun e τ' => match e with | .normal => Q .normal τ' | _ => False)) (hk : ZCf P π Z sp c = true := by kernel_rfl) (hz : ZIK τ Z sp = true := by kernel_rfl) : LW P n C c τ Q := by
  cases c with
  | region id ops dr =>
    cases dr with
    | false => cases hk
    | true =>
      obtain ⟨L, rfl⟩ : ∃ l : List Oper, ops = l.toArray := ⟨ops.toList, by simp⟩
      simp only [ZCf, Bool.and_eq_true] at hk
      obtain ⟨⟨k1, k2⟩, k3⟩ := hk
      intro γ σ hg hG a w hR
      have hR' : R C.l n C.B σ a { w with drawn := w.drawn + 1 } := by
        obtain ⟨s, H⟩ := σ
        obtain ⟨m, S, hO, hn, hdf, hS, hex⟩ := hR.un
        obtain ⟨h1, h2⟩ := hO.drew (w' := { w with drawn := w.drawn + 1 }) rfl rfl rfl rfl
        exact R.keep h1 hn hdf hS hex h2
      have h1 := h γ σ a _ hg hG hR'
      obtain ⟨m, S, hO, _, _, hSl, _⟩ := hR'
      simp only [ZIK, Bool.and_eq_true, List.all_eq_true] at hz
      obtain ⟨hz1, hz2⟩ := hz
      have at_ : ∀ z d, Zfc τ z = some d → (C.l + 1, d).1 ≤ C.l + 1 ∧ (σ.H (C.l + 1, d)).live = true ∧ (σ.H (C.l + 1, d)).cells ≠ [] ∧ ∃ off, σ.s z = .ptr (C.l + 1, d) (σ.H (C.l + 1, d)).g off := fun z d hd => by
        obtain ⟨g, off, e1, e2, e3⟩ := ZtV hd
        obtain ⟨e4, e5⟩ := ZaV e2
        have hs : σ.s z = ren (C.r γ) (τ.s z) := (hG.s z).1 (by simp [lk, ZfV])
        have hh := hG.h _ e5
        have hκ : (C.r γ).κ (1, d) = (C.l + 1, d) := co.ok.own d
        rw [hκ] at hh
        rw [e1, ren, hκ] at hs
        refine ⟨Nat.le_refl _, by rw [hh]; rfl, by rw [hh]; exact ZlY e3, off, ?_⟩
        rw [hs, hh, e4]
        rfl
      have hS : ∀ p ∈ sp, (m (C.l + 1, (Zfc τ p.1).getD 0)).b ≠ (m (C.l + 1, (Zfc τ p.2).getD 0)).b := fun p hp he => by
        have := hz2 p hp
        cases h1 : Zfc τ p.1 with
        | none => rw [h1] at this; cases this
        | some d =>
          cases h2 : Zfc τ p.2 with
          | none => rw [h1, h2] at this; cases this
          | some d' =>
            rw [h1, h2] at this he
            obtain ⟨a1, a2, a3, _⟩ := at_ _ _ h1
            obtain ⟨b1, b2, b3, _⟩ := at_ _ _ h2
            have := hO.inj _ _ a1 b1 a2 b2 (fun h0 => a3 (hO.empty _ a1 a2 h0)) (fun h0 => b3 (hO.empty _ b1 b2 h0)) he
            simp only [Prod.mk.injEq, true_and] at this
            subst this
            simp at *
      have hJ : J (fun z => (m (C.l + 1, (Zfc τ z).getD 0)).b) (Z.map fun z => (z, z)) a { w with drawn := w.drawn + 1 } := fun p hp b hb => by
        obtain ⟨z, hzm, rfl⟩ := List.mem_map.1 hp
        obtain ⟨d, hd⟩ := Option.isSome_iff_exists.1 (hz1 z hzm)
        obtain ⟨a1, a2, a3, off, a4⟩ := at_ _ _ hd
        have hr := hSl z
        rw [a4] at hr
        simp only [hd, Option.getD_some]
        exact ZCM hO a2 a1 a3 hr hb
      have hG1 : ∀ (j : Nat) (o : Oper), L.toArray[j]? = some o → noG o = true := fun j o ho => List.all_eq_true.1 k1 o (List.mem_of_getElem? (by simpa using ho))
      have hu : ∀ (j : Nat) (o : Oper), L.toArray[j]? = some o → o.guard = none := fun j o ho => by
        have := hG1 j o ho
        unfold noG at this
        rw [Bool.and_eq_true] at this
        cases hg : o.guard with
        | none => rfl
        | some _ => rw [hg] at this; simp at this
      have hsel : ∀ (j : Nat) (o : Oper) cs b, L.toArray[j]? = some o → o.op ≠ .select cs b := fun j o cs b ho he => by
        have := hG1 j o ho
        unfold noG at this
        rw [he, Bool.and_eq_true] at this
        simp at this
      have hw := Zik (P := P) (L := L) (sp := sp) (A := (π.filterMap (nth L)).toArray) (Q := fun e a' w' => ∃ σ', Is n C (match e with | .normal => Q .normal | _ => fun _ => False) σ' ∧ R C.l n C.B σ' a' w') hS hu hsel
        (fun c a w ⟨σ', ⟨_, _, _, _, hf, _⟩, _⟩ => hf) (fun ⟨a, w, σ', ⟨_, _, _, _, hf, _⟩, _⟩ => hf) π [] _ (Array.replicate L.toArray.size false) a { w with drawn := w.drawn + 1 } (by simp) (fun j hj => by simp [hj]) (fun x hx => by cases hx)
        (fun m om hm hl => by
          have : (Array.replicate L.toArray.size false).getD m false = false := by
            simp only [Array.getD_eq_getD_getElem?, Array.getElem?_replicate]
            split <;> rfl
          rw [this] at hl
          cases hl) (by simpa using k3) hJ (by
          have e : ∀ e : Exit, (fun τ' => match e with | .normal => Q .normal τ' | _ => False) = (match e with | .normal => Q .normal | _ => fun _ => False) := fun e => by cases e <;> rfl
          simp only [ZGN, Zb7, List.drop_zero] at h1
          simpa only [e] using h1)
      have hs : π.length = L.toArray.size := by simpa using Nat.eq_of_beq_eq_true k2
      rw [hs] at hw
      refine wp_mono (wp_region_any hm hw) fun e a' w' ⟨σ', h1, h2⟩ => ⟨σ', ?_, h2⟩
      cases e with
      | normal => exact h1
      | _ => obtain ⟨_, _, _, _, hf, _⟩ := h1; exact hf.elim
  | _ => cases hk
end Go.Eng
namespace Go.Eng
set_option linter.all false
open Go Go.RowKit
section
variable {V : Type} [Mv V]
def ZeM (s : ByteArray) : List (ByteArray × V) → Option V
 | [] => none
 | p :: r => match decide (p.1 = s) with | true => some p.2 | false => ZeM s r
def ZeY (s : ByteArray) (v : V) : List (ByteArray × V) → List (ByteArray × V)
 | [] => [(s, v)]
 | p :: r => match decide (p.1 = s) with | true => (s, v) :: r | false => p :: ZeY s v r
def ZeL (s : ByteArray) : List (ByteArray × V) → List (ByteArray × V)
 | [] => []
 | p :: r => match decide (p.1 = s) with | true => r | false => p :: ZeL s r
theorem Zh8 (s : ByteArray) : ∀ xs : List (ByteArray × V), ZeG s (xs.map eEt) = (ZeM s xs).map Mv.e
 | [] => rfl
 | p :: r => by
  simp only [List.map_cons, ZeG, eEt, Zfe, ZeM]
  cases decide (p.1 = s) with
  | true => rfl
  | false => exact Zh8 s r
theorem ZkO (s : ByteArray) (v : V) : ∀ xs : List (ByteArray × V), ZhV s (Mv.e v) (xs.map eEt) = (ZeY s v xs).map eEt
 | [] => rfl
 | p :: r => by
  simp only [List.map_cons, ZhV, eEt, Zfe, ZeY]
  cases decide (p.1 = s) with
  | true => rfl
  | false => exact congrArg _ (ZkO s v r)
theorem Zlj (s : ByteArray) : ∀ xs : List (ByteArray × V), ZhW s (xs.map eEt) = (ZeL s xs).map eEt
 | [] => rfl
 | p :: r => by
  simp only [List.map_cons, ZhW, eEt, Zfe, ZeL]
  cases decide (p.1 = s) with
  | true => rfl
  | false => exact congrArg _ (Zlj s r)
def lkM (s : ByteArray) (xs : List (ByteArray × V)) : V := (ZeM s xs).getD Mv.z
def inM (s : ByteArray) (xs : List (ByteArray × V)) : Bool := (ZeM s xs).isSome
theorem Zwu (s : ByteArray) (xs : List (ByteArray × V)) : Zo3 (xs.map eEt) s (Mv.e (Mv.z (V := V))) (Mv.e (lkM s xs)) (inM s xs) := by
 unfold Zo3 lkM inM
 rw [Zh8]
 cases ZeM s xs <;> exact ⟨rfl, rfl⟩
variable {os : Nat} {β : Type}
@[reducible] def mlk (xs : List (ByteArray × V)) (s : ByteArray) (k : V → Bool → PT os β) : PT os β :=
 ⟨.av (.d (.bool (inM s xs))) (.ds (Mv.e (lkM s xs)) (k (lkM s xs) (inM s xs)).a), fun E => Zo3 (xs.map eEt) s (Mv.e (Mv.z (V := V))) (Mv.e (lkM s xs)) (inM s xs) ∧ (k (lkM s xs) (inM s xs)).q E, (k (lkM s xs) (inM s xs)).m, fun E => ∀ v b, (k v b).n E,
 fun E hn y hm hL => ⟨Zwu s xs, (k _ _).ok E (hn _ _) y hm hL⟩⟩
@[reducible] def mpu (xs : List (ByteArray × V)) (s : ByteArray) (v : V) (k : PT os β) : PT os β :=
 ⟨.ents ((ZeY s v xs).map eEt) k.a, fun E => ZJf s (Mv.e v) (xs.map eEt) ((ZeY s v xs).map eEt) ∧ k.q E, k.m, k.n, fun E hn y hm hL => ⟨ZkO s v xs, k.ok E hn y hm hL⟩⟩
@[reducible] def mdl (xs : List (ByteArray × V)) (s : ByteArray) (k : PT os β) : PT os β :=
 ⟨.ents ((ZeL s xs).map eEt) k.a, fun E => ZID s (xs.map eEt) ((ZeL s xs).map eEt) ∧ k.q E, k.m, k.n, fun E hn y hm hL => ⟨Zlj s xs, k.ok E hn y hm hL⟩⟩
end
@[reducible] def mvm {os : Nat} {β : Type} (d q : Nat) (k : PT os β) (hq : Nat.ble (q + 1) os = true := by kernel_rfl) : PT os β :=
 ⟨.mv d q k.a, fun E => Ze9 [] ∧ (q < os ∧ E.r.no (E.r.κ (0, q))) ∧ k.q E, k.m, k.n, fun E hn y hm hL =>
  ⟨fun x hx => (by cases hx), ⟨Nat.le_of_ble_eq_true hq, by rw [E.g.no, E.g.κ]; exact E.co.W q (Nat.le_of_ble_eq_true hq)⟩, k.ok E hn y hm hL⟩⟩
theorem ZiL : Zha [] := fun x hx => by cases hx
structure KCN (P : Program) (f : FuncId) (xs : List AV) {γ : Type} (M : Option (List γ)) (e : γ → AV) : Prop where
 k : ∀ l H ys, M = some ys → ZbP P f l xs H (fun z H' => (∃ y ∈ ys, z = e y) ∧ H' = H)
 x : ∀ r, Zap r xs = xs
 e : ∀ r y, ren r (e y) = e y
theorem KCN.one {P : Program} {f : FuncId} {xs : List AV} {γ : Type} {M : Option (List γ)} {e : γ → AV} (K : KCN P f xs M e) (N : Option γ) (h : ∀ y, N = some y → ∃ ys, M = some ys ∧ ∀ z ∈ ys, z = y) : KC P f xs N e :=
 ⟨fun l H y hy => by
  obtain ⟨ys, e1, e2⟩ := h y hy
  exact (K.k l H ys e1).mono fun z H' ⟨⟨y', h1, h2⟩, h3⟩ => ⟨by rw [h2, e2 y' h1], h3⟩, K.x, K.e⟩
structure KON (P : Program) (f : FuncId) (os : Nat) (ys : List AV) (bi : List Blk) (Θ : Cl) {γ : Type} (M : Option (List γ)) (e : γ → AV) (bs : γ → List Blk) : Prop where
 k : ∀ l H (ks : List Key) (gs : List Nat) (θ : Nat → AV), ks.length = os → ZyQ l ks → ks.Nodup → HOk H (rOf l ks gs θ H) (Zn1 0 bi) 0 ks → Θ (fun k => k ∈ ks) l H θ → ∀ zs, M = some zs →
  ZbP P f l (Zap (rOf l ks gs θ H) ys) H (fun z H' => ∃ y ∈ zs, z = ren (rOf l ks gs θ H) (e y) ∧ H' = ZjN H ks (ZcX (rOf l ks gs θ H) 0 (bs y)))
end Go.Eng
