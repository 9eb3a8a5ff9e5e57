import Derived.Test.YthagpbkmakocjaaCn12
import Derived.Test.YthagpbkmakocjaaProg
import Derived.Test.YthagpbkmakocjaaCn08
namespace Go.Eng
set_option linter.all false
open Go Go.RowKit
def pb : Value → Option Nat
  | .pointer (some a) => some a.block
  | _ => none
def Cel (w : World) (b : Nat) : Prop := ∃ C e f, w.heap[b]? = some (.cells C e f)
section
variable {P : Program} {α β : Type}
theorem Zrs {v : Value} {a : Addr} {w w1 : World} (h : (Instr.sureAddr v).run P w = .ok a w1) : v = .pointer (some a) ∧ w1 = w := by
  unfold Instr.sureAddr at h
  split at h
  · cases h; exact ⟨rfl, rfl⟩
  · cases h
def Lo (b : Nat) (P : Program) (s : Sem α) : Prop := ∀ w r w1 w2, s.run P w = .ok r w1 → Cel w b → w2.heap[b]? = w.heap[b]? → s.run P w2 = .ok r w2
theorem Vp.lo {b : Nat} {s : Sem α} (h : Vp P s) : Lo b P s := fun w r w1 w2 e _ _ => (h w r w1 e).2 w2
theorem Lo.bind {b : Nat} {s : Sem α} {f : α → Sem β} (hr : Rd P s) (h : Lo b P s) (k : ∀ a, Lo b P (f a)) : Lo b P (s >>= f) := fun w r w1 w2 e h1 h2 => by
  rw [Sem.run_bind] at e ⊢
  cases hs : s.run P w with
  | halt x w' => rw [hs] at e; cases e
  | ok a w' =>
    rw [hs] at e
    have := hr w a w' hs
    subst this
    rw [h _ _ _ _ hs h1 h2]
    exact k a _ _ _ _ e h1 h2
theorem ZqT (a : Addr) : Lo a.block P (load a) := fun w r w1 w2 e ⟨C, t, f, hC⟩ h2 => by
  unfold load at e ⊢
  simp only [Sem.run] at e ⊢
  have hc : w2.cell? a = w.cell? a := World.cell?_of_block h2
  rw [hc]
  cases hv : w.cell? a with
  | some v => rw [hv] at e; cases e; rfl
  | none =>
    rw [hv] at e
    have : w.farLoad P a (Mode.plain == Mode.atomic) = .error (w.noCell a "load: no such cell") := by unfold World.farLoad; rw [hC]
    rw [this] at e
    cases e
theorem Zfn (a : Addr) : ∀ (n i : Nat) (acc : Array Value), Lo a.block P (loadCellsFrom a i n acc)
  | 0, i, acc => (Vp.pure _).lo
  | n + 1, i, acc => by
    unfold loadCellsFrom
    refine .bind (ZhS _) ?_ fun v => Zfn a n (i + 1) _
    have := ZqT (P := P) (a.add i)
    rwa [block_add] at this
theorem Zm4 (t : TypeId) (a : Addr) : Lo a.block P (loadVar t a) := by
  unfold loadVar
  refine .bind (Zd0 t).rd (Zd0 t).lo fun b => ?_
  cases b with
  | true => exact .bind (ZbV t).rd (ZbV t).lo fun n => .bind (ZcQ a n 0 _) (Zfn a n 0 _) fun _ => (Vp.pure _).lo
  | false => exact ZqT a
theorem ZyV {ρ : Operand → Value} {o : Oper} {t : TypeId} {x : Operand} {w w2 : World} {v : Value} (ho : o.op = .load t x) (e : (execOp ρ o).run P w = .ok (.value v) w) :
    ∃ b, pb (ρ x) = some b ∧ (Cel w b → w2.heap[b]? = w.heap[b]? → (execOp ρ o).run P w2 = .ok (.value v) w2) := by
  obtain ⟨dst, op, type, pos, after, guard⟩ := o
  cases ho
  change ((Instr.loadAt t (ρ x)) >>= fun y => (pure (Next.value y) : Sem Next)).run P w = _ at e
  show ∃ b, pb (ρ x) = some b ∧ (_ → _ → ((Instr.loadAt t (ρ x)) >>= fun y => (pure (Next.value y) : Sem Next)).run P w2 = _)
  generalize ρ x = q at e ⊢
  have : ∃ a, q = .pointer (some a) := by
    cases hs : (Instr.sureAddr q).run P w with
    | halt _ _ => unfold Instr.loadAt at e; simp only [Sem.run_bind, hs] at e; cases e
    | ok a w' => exact ⟨a, (Zrs hs).1⟩
  obtain ⟨a, rfl⟩ := this
  exact ⟨a.block, rfl, fun h1 h2 => Lo.bind (Rd.bind (Vp.pure a).rd fun a => Ze3 t a) (Zm4 t a) (fun _ => (Vp.pure _).lo) _ _ _ _ e h1 h2⟩
def So (b : Nat) (P : Program) (s : Sem α) : Prop := ∀ w r w1, s.run P w = .ok r w1 → Cel w b → Cel w1 b ∧ ∀ k, k ≠ b → w1.heap[k]? = w.heap[k]?
theorem Rd.so {b : Nat} {s : Sem α} (h : Rd P s) : So b P s := fun w r w1 e hc => by rw [h w r w1 e]; exact ⟨hc, fun _ _ => rfl⟩
theorem So.bind {b : Nat} {s : Sem α} {f : α → Sem β} (h : So b P s) (k : ∀ a, So b P (f a)) : So b P (s >>= f) := fun w r w1 e hc => by
  rw [Sem.run_bind] at e
  cases hs : s.run P w with
  | halt x w' => rw [hs] at e; cases e
  | ok a w' =>
    rw [hs] at e
    obtain ⟨h1, h2⟩ := h _ _ _ hs hc
    obtain ⟨h3, h4⟩ := k a _ _ _ e h1
    exact ⟨h3, fun k hk => (h4 k hk).trans (h2 k hk)⟩
theorem Zsu (a : Addr) (v : Value) : So a.block P (store a v) := fun w r w1 e ⟨C, t, f, hC⟩ => by
  unfold store at e
  have key : ∀ w1, w1 = w.setCell a v → Cel w1 a.block ∧ ∀ k, k ≠ a.block → w1.heap[k]? = w.heap[k]? := fun w1 e => by
    subst e
    unfold World.setCell
    constructor
    · refine ⟨(if a.spot.isSome then C else C.setIfInBounds a.off v), t, f, ?_⟩
      show (w.heap.modify a.block _)[a.block]? = _
      rw [Array.getElem?_modify, hC]
      simp
    · intro k hk
      show (w.heap.modify a.block _)[k]? = _
      rw [Array.getElem?_modify]
      simp [Ne.symm hk]
  cases v <;> simp only [Sem.run] at e <;> first
    | (cases e; done)
    | (cases hv : w.cell? a with
       | some x =>
         rw [hv] at e
         simp only at e
         split at e
         · cases e
         · cases e; exact key _ rfl
       | none =>
         rw [hv] at e
         unfold World.farStore at e
         rw [hC] at e
         cases e)
theorem ZeE (a : Addr) : ∀ (vs : List Value) (i : Nat), So a.block P (storeCells a vs i)
  | [], i => (Vp.pure _).rd.so
  | v :: r, i => by
    unfold storeCells
    refine So.bind ?_ fun _ => ZeE a r (i + 1)
    have := Zsu (P := P) (a.add i) v
    rwa [block_add] at this
theorem ZkE (t : TypeId) (a : Addr) (v : Value) : So a.block P (storeVar t a v) := by
  unfold storeVar
  refine (ZbV t).rd.so.bind fun n => ?_
  by_cases h : v.cells.size ≠ n
  · rw [if_pos h]
    intro w r w1 e
    cases e
  · rw [if_neg h]
    exact ZeE a _ 0
theorem Zo2 {ρ : Operand → Value} {o : Oper} {t : TypeId} {x y : Operand} {w w1 : World} {r : Next} (ho : o.op = .store t x y) (e : (execOp ρ o).run P w = .ok r w1) :
    r = .skip ∧ ∃ b, pb (ρ x) = some b ∧ (Cel w b → Cel w1 b ∧ ∀ k, k ≠ b → w1.heap[k]? = w.heap[k]?) := by
  obtain ⟨dst, op, type, pos, after, guard⟩ := o
  cases ho
  change ((Instr.storeAt t (ρ x) (ρ y)) >>= fun _ => (pure Next.skip : Sem Next)).run P w = _ at e
  generalize ρ x = q at e ⊢
  generalize ρ y = v at e
  have h1 : r = .skip := by
    rw [Sem.run_bind] at e
    cases hs : (Instr.storeAt t q v).run P w with
    | halt _ _ => rw [hs] at e; cases e
    | ok _ _ => rw [hs] at e; cases e; rfl
  refine ⟨h1, ?_⟩
  have : ∃ a, q = .pointer (some a) := by
    cases hs : (Instr.sureAddr q).run P w with
    | halt _ _ => unfold Instr.storeAt at e; simp only [Sem.run_bind, hs] at e; cases e
    | ok a w' => exact ⟨a, (Zrs hs).1⟩
  obtain ⟨a, rfl⟩ := this
  exact ⟨a.block, rfl, fun hc => So.bind (ZkE t a v) (fun _ => (Vp.pure _).rd.so) _ _ _ e hc⟩
end
def ZkQ (z : Nat) : List (Nat × Nat) → Option Nat
  | [] => none
  | (d, r) :: l => match Nat.beq d z with | true => some r | false => ZkQ z l
theorem ZdO {z r : Nat} : ∀ {l : List (Nat × Nat)}, ZkQ z l = some r → (z, r) ∈ l
  | (d, q) :: l, h => by
    unfold ZkQ at h
    split at h
    · rename_i e; cases h; rw [Nat.eq_of_beq_eq_true e]; exact List.mem_cons_self ..
    · exact List.mem_cons_of_mem _ (ZdO h)
def ZpW : Operand → Option Nat
  | .tmp z => some z
  | _ => none
def ZsP (P : Program) (o : Oper) : Option Nat := match vpO P o with
  | true => (match o.op with
    | .fieldAddr _ x _ => ZpW x
    | .move x => ZpW x
    | .nilCheck x => ZpW x
    | _ => none)
  | false => none
def Zmr (P : Program) (env : List (Nat × Nat)) (o : Oper) : List (Nat × Nat) := match o.dst with
  | none => env
  | some d => (match ZsP P o with | some z => (match ZkQ z env with | some r => [(d, r)] | none => []) | none => []) ++ env.filter fun p => !Nat.beq p.1 d
def ZhX (P : Program) (env : List (Nat × Nat)) (o : Oper) : Bool := rdO P o || grO o || match o.op with
  | .store _ (.tmp y) _ => (ZkQ y env).isSome
  | _ => false
def J (β : Nat → Nat) (env : List (Nat × Nat)) (a : Act) (w : World) : Prop := ∀ p ∈ env, ∀ b, pb (a.eval (.tmp p.1)) = some b → b = β p.2 ∧ Cel w b
def Zgs : Next → Option Value
  | .value v => some v
  | .skip => some undef
  | _ => none
section
variable {P : Program} {β : Nat → Nat} {env : List (Nat × Nat)} {a : Act} {w w' : World} {o : Oper} {n : Next}
theorem ZfE (h : ZhX P env o = true) (hJ : J β env a w) (e : (execOp a.eval o).run P w = .ok n w') : (∃ u, Zgs n = some u) ∧ ∀ b, Cel w b → Cel w' b := by
  unfold ZhX at h
  rw [Bool.or_eq_true] at h
  rcases h with h | h
  · obtain ⟨h1, h2⟩ := Zk1 (ρ := a.eval) h
    obtain ⟨v, rfl⟩ := h2 _ _ _ e
    exact ⟨⟨v, rfl⟩, fun b ⟨C, t, f, hC⟩ => ⟨C, t, f, h1 _ _ _ e _ _ hC⟩⟩
  · split at h
    · rename_i t y v ho
      obtain ⟨rfl, b0, h1, h2⟩ := Zo2 ho e
      obtain ⟨r, hr⟩ := Option.isSome_iff_exists.1 h
      obtain ⟨_, h3⟩ := hJ _ (ZdO hr) _ h1
      obtain ⟨h4, h5⟩ := h2 h3
      refine ⟨⟨_, rfl⟩, fun b ⟨C, t, f, hC⟩ => ?_⟩
      by_cases hb : b = b0
      · subst hb; exact h4
      · exact ⟨C, t, f, (h5 b hb).trans hC⟩
    · cases h
theorem Zix {x : Operand} {z : Nat} (h : ZpW x = some z) : x = .tmp z := by
  cases x <;> simp only [ZpW] at h <;> first | (cases h; done) | skip
  cases h; rfl
theorem ZDp {z : Nat} {b : Nat} {v : Value} (hs : ZsP P o = some z) (e : (execOp a.eval o).run P w = .ok (.value v) w') (hb : pb v = some b) : pb (a.eval (.tmp z)) = some b := by
  unfold ZsP at hs
  cases hv : vpO P o with
  | false => rw [hv] at hs; cases hs
  | true =>
    rw [hv] at hs
    obtain ⟨dst, op, type, pos, after, guard⟩ := o
    cases op <;> simp only at hs <;> first | (cases hs; done) | skip
    case move x => rw [← Zix hs]; cases e; exact hb
    case nilCheck x =>
      rw [← Zix hs]
      have hr : ∀ w r w1, (runtimePanic .nilDeref : Sem Next).run P w ≠ .ok r w1 := fun w r w1 e => by
        unfold runtimePanic at e
        simp only [Sem.run_bind, run_program, Result.andThen_ok] at e
        repeat (first | (cases e; done) | split at e | (simp [goPanic, stuck, unsupported, Sem.run] at e; done))
      simp only [execOp] at e
      split at e
      · exact absurd e (hr _ _ _)
      · exact absurd e (hr _ _ _)
      · exact absurd e (hr _ _ _)
      · split at e
        · exact absurd e (hr _ _ _)
        · simp only [Sem.run_bind, run_program, Result.andThen_ok] at e
          cases hs : (nilAhead _ _ _ _).run P w with
          | halt x w' => rw [hs] at e; cases e
          | ok q w' =>
            rw [hs] at e
            simp only [Result.andThen_ok] at e
            split at e
            · cases e
            · cases e; first | exact hb | cases hb
        · cases e; first | exact hb | cases hb
      · cases e; first | exact hb | cases hb
    case fieldAddr t x i =>
      rw [← Zix hs]
      simp only [vpO] at hv
      split at hv
      · rename_i fs hu
        split at hv
        · rename_i f hf
          have hz : P.cellsOf f.type ≠ 0 := fun h0 => by rw [h0] at hv; cases hv
          have run : ∀ (ad : Addr) (w : World), (Instr.fieldAt t (.pointer (some ad)) i).run P w = .ok (.pointer (some (ad.add f.offset))) w := fun ad w => by
            simp [Instr.fieldAt, run_underlying hu, hf, Instr.sureAddr, fieldPlace, ZbG hz, hz]
          change ((Instr.fieldAt t (a.eval x) i) >>= fun y => (pure (Next.value y) : Sem Next)).run P w = _ at e
          generalize a.eval x = q at e ⊢
          by_cases hq : ∃ ad, q = .pointer (some ad)
          · obtain ⟨ad, rfl⟩ := hq
            rw [Sem.run_bind, run] at e
            cases e
            simp only [pb, block_add] at hb
            exact hb
          · exfalso
            have hs : Instr.sureAddr q = .halt (.stuck "an address expected (no nilCheck in front?)") := by
              unfold Instr.sureAddr
              split
              · rename_i ad; exact absurd ⟨ad, rfl⟩ hq
              · rfl
            simp only [Instr.fieldAt, Sem.run_bind, run_underlying hu, Result.andThen_ok, hf, hs] at e
            cases e
        · cases hv
      · cases hv
theorem J.put (hJ : J β env a w) (ht : ZhX P env o = true) (e : (execOp a.eval o).run P w = .ok n w') {u : Value} (hu : Zgs n = some u) : J β (Zmr P env o) (a.put o.dst u) w' := by
  have hc := (ZfE ht hJ e).2
  unfold Zmr
  have ev : ∀ z : Nat, (∀ d, o.dst = some d → z ≠ d) → (a.put o.dst u).eval (.tmp z) = a.eval (.tmp z) := fun z hz => Act.eval_put fun d hd hx => hz d hd (by cases hx; rfl)
  cases hd : o.dst with
  | none =>
    intro p hp b hb
    rw [← hd, ev _ (fun d h => by rw [hd] at h; cases h)] at hb
    exact ⟨(hJ p hp b hb).1, hc _ (hJ p hp b hb).2⟩
  | some d =>
    intro p hp b hb
    rw [List.mem_append] at hp
    rcases hp with hp | hp
    · split at hp
      · rename_i z hz
        split at hp
        · rename_i r hr
          obtain rfl := List.mem_singleton.1 hp
          simp only at hb ⊢
          have hu' : n = .value u := by
            have : rdO P o = true := by
              unfold ZsP at hz
              unfold rdO
              cases hv : vpO P o with
              | true => rfl
              | false => rw [hv] at hz; cases hz
            obtain ⟨v, rfl⟩ := (Zgd (ρ := a.eval) this).2 _ _ _ e
            cases hu
            rfl
          subst hu'
          have hb' : pb u = some b := by
            have : (a.put (some d) u).eval (.tmp d) = u ∨ (a.put (some d) u).eval (.tmp d) = undef := by
              simp only [Act.eval, Act.put, Array.getD_eq_getD_getElem?, Array.getElem?_setIfInBounds]
              split
              · rename_i h
                split <;> simp_all
              · simp_all
            rcases this with h | h
            · rw [h] at hb; exact hb
            · rw [h] at hb; cases hb
          obtain ⟨h1, h2⟩ := hJ _ (ZdO hr) _ (ZDp hz e hb')
          exact ⟨h1, hc _ h2⟩
        · cases hp
      · cases hp
    · rw [List.mem_filter] at hp
      have hne : p.1 ≠ d := fun he => by have := hp.2; rw [he, Nat.beq_refl] at this; cases this
      rw [← hd, ev _ (fun d' h => by rw [hd] at h; cases h; exact hne)] at hb
      exact ⟨(hJ p hp.1 b hb).1, hc _ (hJ p hp.1 b hb).2⟩
def ldB (P : Program) (env sp : List (Nat × Nat)) (oi oj : Oper) : Bool := rdO P oj || grO oj || match oi.op, oj.op with
  | .load _ (.tmp x), .store _ (.tmp y) _ => (match ZkQ x env, ZkQ y env with
    | some r, some q => sp.any fun p => Nat.beq p.1 r && Nat.beq p.2 q
    | _, _ => false)
  | _, _ => false
theorem ZtI {sp : List (Nat × Nat)} (hS : ∀ p ∈ sp, β p.1 ≠ β p.2) {oi : Oper} {v : Value} (hi : rdO P oi = true) (hJ : J β env a w) (hl : ldB P env sp oi o = true) (e : (execOp a.eval o).run P w = .ok n w') (hy : (execOp a.eval oi).run P w = .ok (.value v) w) :
    (execOp a.eval oi).run P w' = .ok (.value v) w' := by
  unfold ldB at hl
  rw [Bool.or_eq_true] at hl
  rcases hl with hl | hl
  · exact Zml hi _ _ _ _ hy ((Zk1 (ρ := a.eval) hl).1 _ _ _ e)
  · split at hl
    · rename_i t x t' y v' h1 h2
      split at hl
      · rename_i r q hr hq
        obtain ⟨p, hp, hpe⟩ := List.any_eq_true.1 hl
        rw [Bool.and_eq_true] at hpe
        have e1 := Nat.eq_of_beq_eq_true hpe.1
        have e2 := Nat.eq_of_beq_eq_true hpe.2
        obtain ⟨b, hb, h3⟩ := ZyV (w2 := w') h1 hy
        obtain ⟨_, b', hb', h4⟩ := Zo2 h2 e
        obtain ⟨f1, f2⟩ := hJ _ (ZdO hr) _ hb
        obtain ⟨f3, f4⟩ := hJ _ (ZdO hq) _ hb'
        have hne : b ≠ b' := by
          rw [f1, f3]
          have := hS p hp
          rwa [e1, e2] at this
        exact h3 f2 ((h4 f4).2 b hne)
      · cases hl
    · cases hl
def ZhB (env : List (Nat × Nat)) (o : Oper) : Bool := match o.dst with
  | none => true
  | some d => env.all fun p => !Nat.beq p.1 d
theorem J.keep (hJ : J β env a w) (ht : ZhX P env o = true) (hf : ZhB env o = true) (e : (execOp a.eval o).run P w = .ok n w') {u : Value} : J β env (a.put o.dst u) w' := by
  have hc := (ZfE ht hJ e).2
  intro p hp b hb
  have : (a.put o.dst u).eval (.tmp p.1) = a.eval (.tmp p.1) := Act.eval_put fun d hd hx => by
    cases hx
    unfold ZhB at hf
    rw [hd] at hf
    have := List.all_eq_true.1 hf p hp
    rw [Nat.beq_refl] at this
    cases this
  rw [this] at hb
  exact ⟨(hJ p hp b hb).1, hc _ (hJ p hp b hb).2⟩
end
section
variable {P : Program} {ops : Array Oper} {Q : Exit → Act → World → Prop} {β : Nat → Nat}
theorem Zk7 {env sp : List (Nat × Nat)} (hS : ∀ p ∈ sp, β p.1 ≠ β p.2) {i : Nat} {oi : Oper} {v : Value} (hi : ops[i]? = some oi) (hro : rdO P oi = true) (hu : ∀ (j : Nat) (o : Oper), ops[j]? = some o → o.guard = none) (hsel : ∀ (j : Nat) (o : Oper) cs b, ops[j]? = some o → o.op ≠ .select cs b)
    (hQ : ∀ c a w, ¬ Q (.panic c) a w) (hO : ¬ LetsOut Q) : ∀ (fuel : Nat) (listed : Array Bool) (a : Act) (w : World), DC ops listed →
      (∀ j oj, ops[j]? = some oj → j ≠ i → listed.getD j true = false → ¬ Waits ops j i → oi.apart ops oj = true ∧ ZhX P env oj = true ∧ ZhB env oj = true ∧ ldB P env sp oi oj = true) → J β env a w →
      i ∈ Region.ready .any ops listed → (execOp a.eval oi).run P w = .ok (.value v) w →
      wpAny P .any ops Q fuel (listed.setIfInBounds i true) (a.put oi.dst v) w → wpAny P .any ops Q (fuel + 1) listed a w := by
  have self : ∀ {a : Act} {w : World} {K : Act → World → Prop}, (execOp a.eval oi).run P w = .ok (.value v) w → K (a.put oi.dst v) w → wpOp P ops Q i K a w := fun hy h => by
    unfold wpOp
    simp only [hi]
    rw [if_pos (by simp [Region.wanted, hu i oi hi])]
    left
    unfold Oper.wp
    rw [hy]
    exact h
  intro fuel
  induction fuel with
  | zero =>
    intro listed a w _ _ _ hr hy H
    refine ⟨fun h => (by rw [h] at hr; cases hr), fun j hj => ?_⟩
    by_cases hji : j = i
    · subst hji; exact self hy H
    · have := ready_mono hj hji
      rw [H.1] at this
      cases this
  | succ fuel ih =>
    intro listed a w hD hF hJ hr hy H
    refine ⟨fun h => (by rw [h] at hr; cases hr), fun j hj => ?_⟩
    by_cases hji : j = i
    · subst hji; exact self hy H
    · have h1 := H.2 j (ready_mono hj hji)
      obtain ⟨hjun, oj, hoj, hall⟩ := mem_ready.1 hj
      have hiun := (mem_ready.1 hr).1
      obtain ⟨hap, htm, hfr, hld⟩ := hF j oj hoj hji hjun (hD.nowait hj hiun)
      obtain ⟨p1, p2, p3⟩ := Oper.apart_spec hap
      unfold wpOp at h1 ⊢
      simp only [hoj] at h1 ⊢
      have hwt : ∀ y, Region.wanted oj y = true := fun y => by simp [Region.wanted, hu j oj hoj]
      rw [if_pos (hwt _)] at h1 ⊢
      rcases h1 with h1 | ⟨_, h1⟩
      case inr => exact absurd h1 hO
      left
      unfold Oper.wp at h1 ⊢
      rw [execOp_put oj (fun cs b => hsel j oj cs b hoj) a oi.dst v p1] at h1
      cases hrun : (execOp a.eval oj).run P w with
      | halt x w' =>
        rw [hrun] at h1
        cases x <;> simp only [Oper.upon] at h1
        exact absurd h1 (hQ _ _ _)
      | ok n w' =>
        obtain ⟨⟨u, hun⟩, _⟩ := ZfE htm hJ hrun
        have go : wpAny P .any ops Q fuel (((listed.setIfInBounds i true).setIfInBounds j true)) ((a.put oi.dst v).put oj.dst u) w' → wpAny P .any ops Q (fuel + 1) (listed.setIfInBounds j true) (a.put oj.dst u) w' := fun h1 => by
          refine ih (listed.setIfInBounds j true) (a.put oj.dst u) w' (hD.ready hj) (fun k ok hk hki hun hno => ?_) (hJ.keep htm hfr hrun) (ready_mono hr (Ne.symm hji)) ?_ ?_
          · refine hF k ok hk hki ?_ hno
            by_cases hjk : j = k
            · subst hjk; exact hjun
            · rw [getD_set_ne true hjk] at hun; exact hun
          · rw [execOp_put oi (fun cs b => hsel i oi cs b hi) a oj.dst u p3]; exact ZtI hS hro hJ hld hrun hy
          · rw [Array.setIfInBounds_comm _ _ hji, ← Act.put_comm a v u p2]; exact h1
        rw [hrun] at h1
        cases n <;> simp only [Zgs] at hun <;> first | (cases hun; done) | skip
        · cases hun
          exact go h1
        · cases hun
          exact go h1
end
def ZEA (P : Program) (L : List Oper) (sp env : List (Nat × Nat)) (listed : List Nat) (i : Nat) (oi : Oper) : Nat → List Oper → Bool
  | _, [] => true
  | j, oj :: r => (listed.any (Nat.beq j) || Nat.beq j i || Zjv L i L.length j || (oi.apart L.toArray oj && (rdO P oi && (ZhX P env oj && (ZhB env oj && ldB P env sp oi oj))))) && ZEA P L sp env listed i oi (j + 1) r
def ZqN (P : Program) (L : List Oper) (sp : List (Nat × Nat)) : List (Nat × Nat) → List Nat → List Nat → Bool
  | _, listed, [] => (List.range L.length).all fun j => listed.any (Nat.beq j)
  | env, listed, i :: rest => match nth L i with
    | some oi => !(listed.any (Nat.beq i)) && oi.after.toList.all (fun e => !Region.binds .any e || listed.any (Nat.beq e.on)) && (match vpO P oi with | true => ZiN.chkV P L listed i oi 0 L | false => ZEA P L sp env listed i oi 0 L) && ZhX P env oi && ZqN P L sp (Zmr P env oi) (i :: listed) rest
    | none => false
theorem Zqu {P : Program} {L : List Oper} {sp env : List (Nat × Nat)} {listed : List Nat} {i : Nat} {oi : Oper} : ∀ {r : List Oper} {j0 k : Nat} {oj : Oper}, ZEA P L sp env listed i oi j0 r = true → r[k]? = some oj →
    (j0 + k) ∈ listed ∨ j0 + k = i ∨ Waits L.toArray (j0 + k) i ∨ (oi.apart L.toArray oj = true ∧ rdO P oi = true ∧ ZhX P env oj = true ∧ ZhB env oj = true ∧ ldB P env sp oi oj = true)
  | [], j0, k, oj, _, h => by simp at h
  | q :: r, j0, k, oj, hc, h => by
    unfold ZEA at hc
    rw [Bool.and_eq_true] at hc
    cases k with
    | zero =>
      simp only [List.getElem?_cons_zero, Option.some.injEq] at h
      subst h
      have h1 := hc.1
      rw [Bool.or_eq_true, Bool.or_eq_true, Bool.or_eq_true] at h1
      rcases h1 with ((h1 | h1) | h1) | h1
      · exact .inl (Zdo.1 h1)
      · exact .inr (.inl (Nat.eq_of_beq_eq_true h1))
      · exact .inr (.inr (.inl (Zee _ _ h1)))
      · simp only [Bool.and_eq_true] at h1
        exact .inr (.inr (.inr h1))
    | succ k =>
      have := Zqu (k := k) hc.2 (by simpa using h)
      rwa [show j0 + 1 + k = j0 + (k + 1) from by omega] at this
section
variable {P : Program} {Q : Exit → Act → World → Prop} {L : List Oper} {β : Nat → Nat} {sp : List (Nat × Nat)}
theorem ZjL {A : Array Oper} (hS : ∀ p ∈ sp, β p.1 ≠ β p.2) (hu : ∀ (j : Nat) (o : Oper), L.toArray[j]? = some o → o.guard = none) (hsel : ∀ (j : Nat) (o : Oper) cs b, L.toArray[j]? = some o → o.op ≠ .select cs b) (hQ : ∀ c a w, ¬ Q (.panic c) a w) (hO : ¬ LetsOut Q) :
    ∀ (π listed : List Nat) (env : List (Nat × Nat)) (la : Array Bool) (a : Act) (w : World), la.size = L.length → (∀ j, j < L.length → (la.getD j true = true ↔ j ∈ listed)) → (∀ x ∈ listed, x < L.length) → DC L.toArray la → ZqN P L sp env listed π = true → J β env a w →
      wpList P A Q (π.filterMap (nth L)) a w → wpAny P .any L.toArray Q π.length la a w
  | [], listed, env, la, a, w, hs, hl, hlt, hD, hc, hJ, h => by
    unfold ZqN at hc
    rw [List.all_eq_true] at hc
    refine ⟨?_, h⟩
    cases hr : Region.ready .any L.toArray la with
    | nil => rfl
    | cons x xs =>
      have hx : x ∈ Region.ready .any L.toArray la := by rw [hr]; exact List.mem_cons_self ..
      obtain ⟨h0, o, ho, _⟩ := mem_ready.1 hx
      have hlt : x < L.length := by have := (Array.getElem?_eq_some_iff.1 ho).1; simpa using this
      have := (hl x hlt).2 (Zdo.1 (hc x (List.mem_range.2 hlt)))
      rw [h0] at this
      cases this
  | i :: rest, listed, env, la, a, w, hs, hl, hlt, hD, hc, hJ, h => by
    unfold ZqN at hc
    rw [Zct] at hc
    cases hi : L[i]? with
    | none => rw [hi] at hc; simp at hc
    | some oi =>
      rw [hi] at hc
      simp only [Bool.and_eq_true, Bool.not_eq_true'] at hc
      obtain ⟨⟨⟨⟨c1, c2⟩, c3⟩, c5⟩, c4⟩ := hc
      have hiL : i < L.length := (List.getElem?_eq_some_iff.1 hi).1
      have hiA : L.toArray[i]? = some oi := by simpa using hi
      have hun : la.getD i true = false := by
        cases hb : la.getD i true with
        | false => rfl
        | true => have := Zdo.2 ((hl i hiL).1 hb); rw [c1] at this; cases this
      have hr : i ∈ Region.ready .any L.toArray la := mem_ready.2 ⟨hun, oi, hiA, fun e he hb => by
        have h1 := List.all_eq_true.1 c2 e (by simpa using he)
        rw [hb] at h1
        simp only [Bool.not_true, Bool.false_or] at h1
        have hm := Zdo.1 h1
        have h2 := hlt _ hm
        have h3 := (hl _ h2).2 hm
        simp only [Array.getD_eq_getD_getElem?] at h3 ⊢
        rw [Array.getElem?_eq_getElem (by omega)] at h3 ⊢
        simpa using h3⟩
      have hl' : ∀ j, j < L.length → ((la.setIfInBounds i true).getD j true = true ↔ j ∈ i :: listed) := fun j hj => by
        by_cases hji : i = j
        · subst hji
          simp only [List.mem_cons, true_or, iff_true]
          simp [hs, hj]
        · rw [getD_set_ne true hji, hl j hj, List.mem_cons]
          exact ⟨.inr, fun h => h.resolve_left (Ne.symm hji)⟩
      have hlt' : ∀ x ∈ i :: listed, x < L.length := fun x hx => by
        rcases List.mem_cons.1 hx with rfl | hx
        · exact hiL
        · exact hlt x hx
      have ih : ∀ a w, J β (Zmr P env oi) a w → wpList P A Q (rest.filterMap (nth L)) a w → wpAny P .any L.toArray Q rest.length (la.setIfInBounds i true) a w := fun a w hJ h =>
        ZjL hS hu hsel hQ hO rest (i :: listed) _ _ a w (by simp [hs]) hl' hlt' (hD.ready hr) c4 hJ h
      rw [List.filterMap_cons_some (by rw [Zct]; exact hi)] at h
      unfold wpList at h
      rw [if_pos (by simp [Region.wanted, hu i oi hiA])] at h
      rcases h with h | ⟨_, h⟩
      case inr => exact absurd h hO
      have hli : ∀ j, j < L.length → la.getD j true = false → j ∉ listed := fun j hj hun hm => by
        have := (hl j hj).2 hm
        rw [hun] at this
        cases this
      show wpAny P .any L.toArray Q (rest.length + 1) la a w
      unfold Oper.wp at h
      cases hrun : (execOp a.eval oi).run P w with
      | halt x w' =>
        rw [hrun] at h
        cases x <;> simp only [Oper.upon] at h
        exact absurd h (hQ _ _ _)
      | ok n w' =>
        obtain ⟨⟨u, hun'⟩, _⟩ := ZfE c5 hJ hrun
        have hJ' := hJ.put c5 hrun hun'
        have h' : wpList P A Q (rest.filterMap (nth L)) (a.put oi.dst u) w' := by
          rw [hrun] at h
          cases n <;> simp only [Zgs] at hun' <;> first | (cases hun'; done) | skip
          · cases hun'
            exact h
          · cases hun'
            exact h
        have h2 := ih _ _ hJ' h'
        by_cases hv : vpO P oi = true
        · rw [hv] at c3
          obtain ⟨v1, v2⟩ := ZiC (P := P) (ρ := a.eval) hv
          obtain ⟨rfl, v3⟩ := v1 _ _ _ hrun
          obtain ⟨u', rfl⟩ := v2 _ _ _ hrun
          cases hun'
          refine wpAny_first hiA hsel (fun c a w hq => absurd hq (hQ _ _ _)) rest.length la a w' (fun j oj hoj hji hjun hno => ?_) hr (.inl ⟨by simp [Region.wanted, hu i oi hiA], v3⟩) h2
          have hjl : j < L.length := by have := (Array.getElem?_eq_some_iff.1 hoj).1; simpa using this
          have := Zko (k := j) c3 (by simpa using hoj)
          rw [Nat.zero_add] at this
          rcases this with h3 | h3 | ⟨e, he, hb, he2⟩ | h3
          · exact absurd h3 (hli j hjl hjun)
          · exact absurd h3 hji
          · exact absurd he2 (hno e he hb)
          · exact h3
        · have hv' : vpO P oi = false := by cases hq : vpO P oi with | false => rfl | true => exact absurd hq hv
          rw [hv'] at c3
          have at_ : ∀ j oj, L.toArray[j]? = some oj → j ≠ i → la.getD j true = false → ¬ Waits L.toArray j i → oi.apart L.toArray oj = true ∧ rdO P oi = true ∧ ZhX P env oj = true ∧ ZhB env oj = true ∧ ldB P env sp oi oj = true := fun j oj hoj hji hjun hno => by
            have hjl : j < L.length := by have := (Array.getElem?_eq_some_iff.1 hoj).1; simpa using this
            have := Zqu (k := j) c3 (by simpa using hoj)
            rw [Nat.zero_add] at this
            rcases this with h3 | h3 | h3 | h3
            · exact absurd h3 (hli j hjl hjun)
            · exact absurd h3 hji
            · exact absurd h3 hno
            · exact h3
          by_cases hrd : rdO P oi = true
          · obtain ⟨v1, v2⟩ := Zgd (P := P) (ρ := a.eval) hrd
            have e := v1 _ _ _ hrun
            subst e
            obtain ⟨u', rfl⟩ := v2 _ _ _ hrun
            cases hun'
            exact Zk7 hS hiA hrd hu hsel hQ hO rest.length la a w' hD (fun j oj hoj hji hjun hno => ⟨(at_ j oj hoj hji hjun hno).1, (at_ j oj hoj hji hjun hno).2.2⟩) hJ hr hrun h2
          · refine ⟨fun h0 => (by rw [h0] at hr; cases hr), fun j hj => ?_⟩
            have hji : j = i := by
              apply Classical.byContradiction
              intro hji
              obtain ⟨hjun, oj, hoj, _⟩ := mem_ready.1 hj
              exact hrd (at_ j oj hoj hji hjun (hD.nowait hj hun)).2.1
            subst hji
            unfold wpOp
            simp only [hiA]
            rw [if_pos (by simp [Region.wanted, hu j oi hiA])]
            left
            unfold Oper.wp
            rw [hrun]
            cases n <;> simp only [Zgs] at hun' <;> first | (cases hun'; done) | skip
            · cases hun'
              exact h2
            · cases hun'
              exact h2
end
def ZfT (τ : St) (z : Nat) : Option Nat := match τ.s z with
  | .ptr k g _ => (match Nat.beq k.1 1, Zcy τ.H k g, (τ.H k).cells with
     | true, true, _ :: _ => some k.2
     | _, _, _ => none)
  | _ => none
theorem Zup {τ : St} {z d : Nat} (h : ZfT τ z = some d) : ∃ g off, τ.s z = .ptr (1, d) g off ∧ Zcy τ.H (1, d) g = true ∧ (τ.H (1, d)).cells ≠ [] := by
  unfold ZfT at h
  split at h
  · rename_i k g off hs
    split at h
    · rename_i c r e1 e2 e3
      cases h
      obtain ⟨k1, k2⟩ := k
      have := Nat.eq_of_beq_eq_true e1
      simp only at this
      subst this
      exact ⟨g, off, hs, e2, by rw [e3]; simp⟩
    · cases h
  · cases h
def ZGM (τ : St) (Z : List Nat) (sp : List (Nat × Nat)) : Bool := Z.all (fun z => (ZfT τ z).isSome) && sp.all fun p => match ZfT τ p.1, ZfT τ p.2 with
  | some d, some d' => !Nat.beq d d'
  | _, _ => false
def ZDF (P : Program) (π : List Nat) (Z : List Nat) (sp : List (Nat × Nat)) : Code → Bool
  | .region _ ops true => ops.toList.all noG && Nat.beq π.length ops.toList.length && ZqN P ops.toList sp (Z.map fun z => (z, z)) [] π
  | _ => false
theorem ZCJ {w : World} {S : Nat → Prop} {H : Hp} {m : Mu} {l : Nat} {k : Key} {off : Nat} {v : Value} {b : Nat} (hO : Ok l H m S w) (hl : (H k).live = true) (hk : k.1 ≤ l) (hc : (H k).cells ≠ []) (h : RepA w S H m l (.ptr k (H k).g off) v) (hb : pb v = some b) : b = (m k).b ∧ Cel w b := by
  have hcap : (m k).cap ≠ 0 := fun h0 => hc (hO.empty k hk hl h0)
  obtain ⟨C, hC, _⟩ := hO.blk k hk hl hcap
  generalize hx : AV.ptr k (H k).g off = x at h
  cases h <;> first | (cases hx; done) | skip
  case ptrL k' off' _ _ =>
    cases hx
    cases hb
    exact ⟨rfl, C, _, _, hC⟩
  case ptrD k' g off' h1 h2 h3 _ =>
    injection hx with e1 e2 e3
    subst e1
    have := h3 e2.symm
    rw [hl] at this
    cases this
theorem ZGx {P : Program} {n os : Nat} {C : Cx} {τ : St} {Q : Exit → St → Prop} {c : Code} (co : CO C os) (hm : P.follows .mixedOrders = true) (π Z : List Nat) (sp : List (Nat × Nat)) (h : LO P n C (perm π c) 0 τ (fun e τ' => match e with | .normal => Q .normal τ' | _ => False)) (hk : ZDF P π Z sp c = true := by kernel_rfl) (hz : ZGM τ Z sp = true := by kernel_rfl) : LW P n C c τ Q := by
  cases c with
  | region id ops dr =>
    cases dr with
    | false => cases hk
    | true =>
      obtain ⟨L, rfl⟩ : ∃ l : List Oper, ops = l.toArray := ⟨ops.toList, by simp⟩
      simp only [ZDF, Bool.and_eq_true] at hk
      obtain ⟨⟨k1, k2⟩, k3⟩ := hk
      intro γ σ hg hG a w hR
      have hR' : R C.l n C.B σ a { w with drawn := w.drawn + 1 } := by
        obtain ⟨s, H⟩ := σ
        obtain ⟨m, S, hO, hn, hdf, hS, hex⟩ := hR.un
        obtain ⟨h1, h2⟩ := hO.drew (w' := { w with drawn := w.drawn + 1 }) rfl rfl rfl rfl
        exact R.keep h1 hn hdf hS hex h2
      have h1 := h γ σ a _ hg hG hR'
      obtain ⟨m, S, hO, _, _, hSl, _⟩ := hR'
      simp only [ZGM, Bool.and_eq_true, List.all_eq_true] at hz
      obtain ⟨hz1, hz2⟩ := hz
      have at_ : ∀ z d, ZfT τ z = some d → (C.l + 1, d).1 ≤ C.l + 1 ∧ (σ.H (C.l + 1, d)).live = true ∧ (σ.H (C.l + 1, d)).cells ≠ [] ∧ ∃ off, σ.s z = .ptr (C.l + 1, d) (σ.H (C.l + 1, d)).g off := fun z d hd => by
        obtain ⟨g, off, e1, e2, e3⟩ := Zup hd
        obtain ⟨e4, e5⟩ := Zb9 e2
        have hs : σ.s z = ren (C.r γ) (τ.s z) := (hG.s z).1 (by simp [lk, Zhh])
        have hh := hG.h _ e5
        have hκ : (C.r γ).κ (1, d) = (C.l + 1, d) := co.ok.own d
        rw [hκ] at hh
        rw [e1, ren, hκ] at hs
        refine ⟨Nat.le_refl _, by rw [hh]; rfl, by rw [hh]; exact Zmm e3, off, ?_⟩
        rw [hs, hh, e4]
        rfl
      have hS : ∀ p ∈ sp, (m (C.l + 1, (ZfT τ p.1).getD 0)).b ≠ (m (C.l + 1, (ZfT τ p.2).getD 0)).b := fun p hp he => by
        have := hz2 p hp
        cases h1 : ZfT τ p.1 with
        | none => rw [h1] at this; cases this
        | some d =>
          cases h2 : ZfT τ p.2 with
          | none => rw [h1, h2] at this; cases this
          | some d' =>
            rw [h1, h2] at this he
            obtain ⟨a1, a2, a3, _⟩ := at_ _ _ h1
            obtain ⟨b1, b2, b3, _⟩ := at_ _ _ h2
            have := hO.inj _ _ a1 b1 a2 b2 (fun h0 => a3 (hO.empty _ a1 a2 h0)) (fun h0 => b3 (hO.empty _ b1 b2 h0)) he
            simp only [Prod.mk.injEq, true_and] at this
            subst this
            simp at *
      have hJ : J (fun z => (m (C.l + 1, (ZfT τ z).getD 0)).b) (Z.map fun z => (z, z)) a { w with drawn := w.drawn + 1 } := fun p hp b hb => by
        obtain ⟨z, hzm, rfl⟩ := List.mem_map.1 hp
        obtain ⟨d, hd⟩ := Option.isSome_iff_exists.1 (hz1 z hzm)
        obtain ⟨a1, a2, a3, off, a4⟩ := at_ _ _ hd
        have hr := hSl z
        rw [a4] at hr
        simp only [hd, Option.getD_some]
        exact ZCJ hO a2 a1 a3 hr hb
      have hG1 : ∀ (j : Nat) (o : Oper), L.toArray[j]? = some o → noG o = true := fun j o ho => List.all_eq_true.1 k1 o (List.mem_of_getElem? (by simpa using ho))
      have hu : ∀ (j : Nat) (o : Oper), L.toArray[j]? = some o → o.guard = none := fun j o ho => by
        have := hG1 j o ho
        unfold noG at this
        rw [Bool.and_eq_true] at this
        cases hg : o.guard with
        | none => rfl
        | some _ => rw [hg] at this; simp at this
      have hsel : ∀ (j : Nat) (o : Oper) cs b, L.toArray[j]? = some o → o.op ≠ .select cs b := fun j o cs b ho he => by
        have := hG1 j o ho
        unfold noG at this
        rw [he, Bool.and_eq_true] at this
        simp at this
      have hw := ZjL (P := P) (L := L) (sp := sp) (A := (π.filterMap (nth L)).toArray) (Q := fun e a' w' => ∃ σ', Is n C (match e with | .normal => Q .normal | _ => fun _ => False) σ' ∧ R C.l n C.B σ' a' w') hS hu hsel
        (fun c a w ⟨σ', ⟨_, _, _, _, hf, _⟩, _⟩ => hf) (fun ⟨a, w, σ', ⟨_, _, _, _, hf, _⟩, _⟩ => hf) π [] _ (Array.replicate L.toArray.size false) a { w with drawn := w.drawn + 1 } (by simp) (fun j hj => by simp [hj]) (fun x hx => by cases hx)
        (fun m om hm hl => by
          have : (Array.replicate L.toArray.size false).getD m false = false := by
            simp only [Array.getD_eq_getD_getElem?, Array.getElem?_replicate]
            split <;> rfl
          rw [this] at hl
          cases hl) (by simpa using k3) hJ (by
          have e : ∀ e : Exit, (fun τ' => match e with | .normal => Q .normal τ' | _ => False) = (match e with | .normal => Q .normal | _ => fun _ => False) := fun e => by cases e <;> rfl
          simp only [perm, ZcJ, List.drop_zero] at h1
          simpa only [e] using h1)
      have hs : π.length = L.toArray.size := by simpa using Nat.eq_of_beq_eq_true k2
      rw [hs] at hw
      refine wp_mono (wp_region_any hm hw) fun e a' w' ⟨σ', h1, h2⟩ => ⟨σ', ?_, h2⟩
      cases e with
      | normal => exact h1
      | _ => obtain ⟨_, _, _, _, hf, _⟩ := h1; exact hf.elim
  | _ => cases hk
end Go.Eng
namespace Go.Proofs.Ythagpbkmakocjaa
open Go Go.Eng
def ti3 : TI := { agg := false, kin := 3, siz := 1, zer := some [.d (.int .i64 0)], ik := some .i64, byt := some 256 }
theorem tk3 : TIok Try.prog 3 ti3 := .of (by kernel_rfl) (by kernel_rfl) (by kernel_rfl) (.inl rfl) (by kernel_rfl) (.inr (by kernel_rfl)) (.inl rfl) (.inl rfl) (.inr (by kernel_rfl)) (.inr ⟨256, by decide +kernel, by decide +kernel, rfl⟩) (.inr rfl)
def ti4 : TI := { agg := false, kin := 1, siz := 1, zer := some [.d (.bool false)], byt := some 256 }
theorem tk4 : TIok Try.prog 4 ti4 := .of (by kernel_rfl) (by kernel_rfl) (by kernel_rfl) (.inl rfl) (by kernel_rfl) (.inr (by kernel_rfl)) (.inl rfl) (.inl rfl) (.inl rfl) (.inr ⟨256, by decide +kernel, by decide +kernel, rfl⟩) (.inr rfl)
def ti5 : TI := { agg := false, kin := 3, siz := 1, zer := some [.d (.int .u8 0)], ik := some .u8, byt := some 256 }
theorem tk5 : TIok Try.prog 5 ti5 := .of (by kernel_rfl) (by kernel_rfl) (by kernel_rfl) (.inl rfl) (by kernel_rfl) (.inr (by kernel_rfl)) (.inl rfl) (.inl rfl) (.inr (by kernel_rfl)) (.inr ⟨256, by decide +kernel, by decide +kernel, rfl⟩) (.inr rfl)
def ti9 : TI := { agg := false, kin := 2, siz := 1, zer := some [.d (.str ⟨#[]⟩)], byt := some 256 }
theorem tk9 : TIok Try.prog 9 ti9 := .of (by kernel_rfl) (by kernel_rfl) (by kernel_rfl) (.inl rfl) (by kernel_rfl) (.inr (by kernel_rfl)) (.inl rfl) (.inl rfl) (.inl rfl) (.inr ⟨256, by decide +kernel, by decide +kernel, rfl⟩) (.inr rfl)
def ZGF : TI := { agg := false, kin := 4, siz := 1, elm := some (61, 6), zer := some [.e0], byt := some 256 }
theorem ZHL : TIok Try.prog 22 ZGF := .of (by kernel_rfl) (by kernel_rfl) (by kernel_rfl) (.inr (by kernel_rfl)) (by kernel_rfl) (.inr (by kernel_rfl)) (.inl rfl) (.inl rfl) (.inl rfl) (.inr ⟨256, by decide +kernel, by decide +kernel, rfl⟩) (.inr rfl)
def ZG8 : TI := { agg := false, kin := 4, siz := 1, elm := some (39, 5), zer := some [.e0], byt := some 256 }
theorem ZHU : TIok Try.prog 23 ZG8 := .of (by kernel_rfl) (by kernel_rfl) (by kernel_rfl) (.inr (by kernel_rfl)) (by kernel_rfl) (.inr (by kernel_rfl)) (.inl rfl) (.inl rfl) (.inl rfl) (.inr ⟨256, by decide +kernel, by decide +kernel, rfl⟩) (.inr rfl)
def ZGZ : TI := { agg := false, kin := 4, siz := 1, elm := some (42, 5), zer := some [.e0], byt := some 256 }
theorem ZHX : TIok Try.prog 24 ZGZ := .of (by kernel_rfl) (by kernel_rfl) (by kernel_rfl) (.inr (by kernel_rfl)) (by kernel_rfl) (.inr (by kernel_rfl)) (.inl rfl) (.inl rfl) (.inl rfl) (.inr ⟨256, by decide +kernel, by decide +kernel, rfl⟩) (.inr rfl)
def ZG5 : TI := { agg := false, kin := 4, siz := 1, elm := some (57, 3), zer := some [.e0], byt := some 256 }
theorem ZHz : TIok Try.prog 25 ZG5 := .of (by kernel_rfl) (by kernel_rfl) (by kernel_rfl) (.inr (by kernel_rfl)) (by kernel_rfl) (.inr (by kernel_rfl)) (.inl rfl) (.inl rfl) (.inl rfl) (.inr ⟨256, by decide +kernel, by decide +kernel, rfl⟩) (.inr rfl)
def ZGv : TI := { agg := true, kin := 0, siz := 3, fld := [(0, 1, false), (1, 1, false), (2, 1, false)], zer := some [.e0, .e0, .e0], str := true, byt := some 256 }
theorem ZIx : TIok Try.prog 27 ZGv := .of (by kernel_rfl) (by kernel_rfl) (by kernel_rfl) (.inl rfl) (by kernel_rfl) (.inr (by kernel_rfl)) (.inl rfl) (.inr (by kernel_rfl)) (.inl rfl) (.inr ⟨256, by decide +kernel, by decide +kernel, rfl⟩) (.inr rfl)
def ZGI : TI := { agg := false, kin := 3, siz := 1, zer := some [.d (.int .i64 0)], ik := some .i64, byt := some 256 }
theorem ZH6 : TIok Try.prog 28 ZGI := .of (by kernel_rfl) (by kernel_rfl) (by kernel_rfl) (.inl rfl) (by kernel_rfl) (.inr (by kernel_rfl)) (.inl rfl) (.inl rfl) (.inr (by kernel_rfl)) (.inr ⟨256, by decide +kernel, by decide +kernel, rfl⟩) (.inr rfl)
def ZGR : TI := { agg := false, kin := 4, siz := 1, elm := some (9, 1), zer := some [.e0], byt := some 256 }
theorem ZIb : TIok Try.prog 34 ZGR := .of (by kernel_rfl) (by kernel_rfl) (by kernel_rfl) (.inr (by kernel_rfl)) (by kernel_rfl) (.inr (by kernel_rfl)) (.inl rfl) (.inl rfl) (.inl rfl) (.inr ⟨256, by decide +kernel, by decide +kernel, rfl⟩) (.inr rfl)
def ZGn : TI := { agg := false, kin := 4, siz := 1, elm := some (53, 16), zer := some [.e0], byt := some 256 }
theorem ZHq : TIok Try.prog 35 ZGn := .of (by kernel_rfl) (by kernel_rfl) (by kernel_rfl) (.inr (by kernel_rfl)) (by kernel_rfl) (.inr (by kernel_rfl)) (.inl rfl) (.inl rfl) (.inl rfl) (.inr ⟨256, by decide +kernel, by decide +kernel, rfl⟩) (.inr rfl)
def ZGp : TI := { agg := false, kin := 4, siz := 1, elm := some (157, 2), zer := some [.e0], byt := some 256 }
theorem ZIq : TIok Try.prog 36 ZGp := .of (by kernel_rfl) (by kernel_rfl) (by kernel_rfl) (.inr (by kernel_rfl)) (by kernel_rfl) (.inr (by kernel_rfl)) (.inl rfl) (.inl rfl) (.inl rfl) (.inr ⟨256, by decide +kernel, by decide +kernel, rfl⟩) (.inr rfl)
def ZGb : TI := { agg := false, kin := 4, siz := 1, elm := some (159, 8), zer := some [.e0], byt := some 256 }
theorem ZIM : TIok Try.prog 37 ZGb := .of (by kernel_rfl) (by kernel_rfl) (by kernel_rfl) (.inr (by kernel_rfl)) (by kernel_rfl) (.inr (by kernel_rfl)) (.inl rfl) (.inl rfl) (.inl rfl) (.inr ⟨256, by decide +kernel, by decide +kernel, rfl⟩) (.inr rfl)
def ZGV : TI := { agg := true, kin := 0, siz := 5, fld := [(0, 1, false), (1, 1, false), (2, 1, false), (3, 1, false), (4, 1, false)], zer := some [.d (.str ⟨#[]⟩), .e0, .e0, .e0, .e0], str := true, byt := some 256 }
theorem ZHi : TIok Try.prog 39 ZGV := .of (by kernel_rfl) (by kernel_rfl) (by kernel_rfl) (.inl rfl) (by kernel_rfl) (.inr (by kernel_rfl)) (.inl rfl) (.inr (by kernel_rfl)) (.inl rfl) (.inr ⟨256, by decide +kernel, by decide +kernel, rfl⟩) (.inr rfl)
def ZGk : TI := { agg := false, kin := 4, siz := 1, elm := some (127, 3), zer := some [.e0], byt := some 256 }
theorem ZHu : TIok Try.prog 40 ZGk := .of (by kernel_rfl) (by kernel_rfl) (by kernel_rfl) (.inr (by kernel_rfl)) (by kernel_rfl) (.inr (by kernel_rfl)) (.inl rfl) (.inl rfl) (.inl rfl) (.inr ⟨256, by decide +kernel, by decide +kernel, rfl⟩) (.inr rfl)
def ZGG : TI := { agg := true, kin := 0, siz := 5, fld := [(0, 1, false), (1, 1, false), (2, 1, false), (3, 1, false), (4, 1, false)], zer := some [.d (.str ⟨#[]⟩), .d (.bool false), .e0, .e0, .e0], str := true, byt := some 256 }
theorem ZHJ : TIok Try.prog 42 ZGG := .of (by kernel_rfl) (by kernel_rfl) (by kernel_rfl) (.inl rfl) (by kernel_rfl) (.inr (by kernel_rfl)) (.inl rfl) (.inr (by kernel_rfl)) (.inl rfl) (.inr ⟨256, by decide +kernel, by decide +kernel, rfl⟩) (.inr rfl)
def ZGh : TI := { agg := true, kin := 0, siz := 2, fld := [(0, 1, false), (1, 1, false)], zer := some [.d (.int .i64 0), .d (.str ⟨#[]⟩)], eqt := some [3, 2], str := true, byt := some 256 }
theorem ZHg : TIok Try.prog 44 ZGh := .of (by kernel_rfl) (by kernel_rfl) (by kernel_rfl) (.inl rfl) (by kernel_rfl) (.inr (by kernel_rfl)) (.inr (by kernel_rfl)) (.inr (by kernel_rfl)) (.inl rfl) (.inr ⟨256, by decide +kernel, by decide +kernel, rfl⟩) (.inr rfl)
def ZGt : TI := { agg := false, kin := 3, siz := 1, zer := some [.d (.int .u64 0)], ik := some .u64, byt := some 256 }
theorem ZId : TIok Try.prog 45 ZGt := .of (by kernel_rfl) (by kernel_rfl) (by kernel_rfl) (.inl rfl) (by kernel_rfl) (.inr (by kernel_rfl)) (.inl rfl) (.inl rfl) (.inr (by kernel_rfl)) (.inr ⟨256, by decide +kernel, by decide +kernel, rfl⟩) (.inr rfl)
def ZGz : TI := { agg := false, kin := 4, siz := 1, elm := some (51, 7), zer := some [.e0], byt := some 256 }
theorem ZH5 : TIok Try.prog 46 ZGz := .of (by kernel_rfl) (by kernel_rfl) (by kernel_rfl) (.inr (by kernel_rfl)) (by kernel_rfl) (.inr (by kernel_rfl)) (.inl rfl) (.inl rfl) (.inl rfl) (.inr ⟨256, by decide +kernel, by decide +kernel, rfl⟩) (.inr rfl)
def ZGC : TI := { agg := false, kin := 4, siz := 1, elm := some (214, 14), zer := some [.e0], byt := some 256 }
theorem ZIC : TIok Try.prog 47 ZGC := .of (by kernel_rfl) (by kernel_rfl) (by kernel_rfl) (.inr (by kernel_rfl)) (by kernel_rfl) (.inr (by kernel_rfl)) (.inl rfl) (.inl rfl) (.inl rfl) (.inr ⟨256, by decide +kernel, by decide +kernel, rfl⟩) (.inr rfl)
def ZGD : TI := { agg := false, kin := 4, siz := 1, elm := some (216, 8), zer := some [.e0], byt := some 256 }
theorem ZIv : TIok Try.prog 48 ZGD := .of (by kernel_rfl) (by kernel_rfl) (by kernel_rfl) (.inr (by kernel_rfl)) (by kernel_rfl) (.inr (by kernel_rfl)) (.inl rfl) (.inl rfl) (.inl rfl) (.inr ⟨256, by decide +kernel, by decide +kernel, rfl⟩) (.inr rfl)
def ZGB : TI := { agg := false, kin := 4, siz := 1, elm := some (218, 4), zer := some [.e0], byt := some 256 }
theorem ZIp : TIok Try.prog 49 ZGB := .of (by kernel_rfl) (by kernel_rfl) (by kernel_rfl) (.inr (by kernel_rfl)) (by kernel_rfl) (.inr (by kernel_rfl)) (.inl rfl) (.inl rfl) (.inl rfl) (.inr ⟨256, by decide +kernel, by decide +kernel, rfl⟩) (.inr rfl)
def ZGO : TI := { agg := true, kin := 0, siz := 7, fld := [(0, 1, false), (1, 1, false), (2, 1, false), (3, 1, false), (4, 1, false), (5, 1, false), (6, 1, false)], zer := some [.d (.int .i64 0), .d (.int .u64 0), .d (.str ⟨#[]⟩), .e0, .e0, .e0, .e0], str := true, byt := some 256 }
theorem ZIi : TIok Try.prog 51 ZGO := .of (by kernel_rfl) (by kernel_rfl) (by kernel_rfl) (.inl rfl) (by kernel_rfl) (.inr (by kernel_rfl)) (.inl rfl) (.inr (by kernel_rfl)) (.inl rfl) (.inr ⟨256, by decide +kernel, by decide +kernel, rfl⟩) (.inr rfl)
def ZG9 : TI := { agg := true, kin := 0, siz := 16, fld := [(0, 1, false), (1, 1, false), (2, 1, false), (3, 1, false), (4, 2, true), (6, 1, false), (7, 1, false), (8, 7, true), (15, 1, false)], zer := some [.d (.int .i64 0), .d (.str ⟨#[]⟩), .d (.int .i64 0), .d (.int .i64 0), .d (.int .i64 0), .d (.str ⟨#[]⟩), .d (.str ⟨#[]⟩), .d (.bool false), .d (.int .i64 0), .d (.int .u64 0), .d (.str ⟨#[]⟩), .e0, .e0, .e0, .e0, .e0], str := true, byt := some 256 }
theorem ZHm : TIok Try.prog 53 ZG9 := .of (by kernel_rfl) (by kernel_rfl) (by kernel_rfl) (.inl rfl) (by kernel_rfl) (.inr (by kernel_rfl)) (.inl rfl) (.inr (by kernel_rfl)) (.inl rfl) (.inr ⟨256, by decide +kernel, by decide +kernel, rfl⟩) (.inr rfl)
def ZGJ : TI := { agg := false, kin := 4, siz := 1, elm := some (59, 5), zer := some [.e0], byt := some 256 }
theorem ZIG : TIok Try.prog 55 ZGJ := .of (by kernel_rfl) (by kernel_rfl) (by kernel_rfl) (.inr (by kernel_rfl)) (by kernel_rfl) (.inr (by kernel_rfl)) (.inl rfl) (.inl rfl) (.inl rfl) (.inr ⟨256, by decide +kernel, by decide +kernel, rfl⟩) (.inr rfl)
def ZGQ : TI := { agg := true, kin := 0, siz := 3, fld := [(0, 1, false), (1, 1, false), (2, 1, false)], zer := some [.d (.str ⟨#[]⟩), .e0, .e0], str := true, byt := some 256 }
theorem ZHn : TIok Try.prog 57 ZGQ := .of (by kernel_rfl) (by kernel_rfl) (by kernel_rfl) (.inl rfl) (by kernel_rfl) (.inr (by kernel_rfl)) (.inl rfl) (.inr (by kernel_rfl)) (.inl rfl) (.inr ⟨256, by decide +kernel, by decide +kernel, rfl⟩) (.inr rfl)
def ZGl : TI := { agg := true, kin := 0, siz := 5, fld := [(0, 1, false), (1, 1, false), (2, 1, false), (3, 1, false), (4, 1, false)], zer := some [.d (.str ⟨#[]⟩), .d (.str ⟨#[]⟩), .d (.str ⟨#[]⟩), .d (.int .i64 0), .e0], str := true, byt := some 256 }
theorem ZHS : TIok Try.prog 59 ZGl := .of (by kernel_rfl) (by kernel_rfl) (by kernel_rfl) (.inl rfl) (by kernel_rfl) (.inr (by kernel_rfl)) (.inl rfl) (.inr (by kernel_rfl)) (.inl rfl) (.inr ⟨256, by decide +kernel, by decide +kernel, rfl⟩) (.inr rfl)
def ZHb : TI := { agg := true, kin := 0, siz := 6, fld := [(0, 1, false), (1, 1, false), (2, 1, false), (3, 1, false), (4, 1, false), (5, 1, false)], zer := some [.d (.str ⟨#[]⟩), .d (.str ⟨#[]⟩), .e0, .e0, .e0, .e0], str := true, byt := some 256 }
theorem ZHx : TIok Try.prog 61 ZHb := .of (by kernel_rfl) (by kernel_rfl) (by kernel_rfl) (.inl rfl) (by kernel_rfl) (.inr (by kernel_rfl)) (.inl rfl) (.inr (by kernel_rfl)) (.inl rfl) (.inr ⟨256, by decide +kernel, by decide +kernel, rfl⟩) (.inr rfl)
def ZGS : TI := { agg := false, kin := 4, siz := 1, elm := some (3, 1), zer := some [.e0], byt := some 256 }
theorem ZHw : TIok Try.prog 62 ZGS := .of (by kernel_rfl) (by kernel_rfl) (by kernel_rfl) (.inr (by kernel_rfl)) (by kernel_rfl) (.inr (by kernel_rfl)) (.inl rfl) (.inl rfl) (.inl rfl) (.inr ⟨256, by decide +kernel, by decide +kernel, rfl⟩) (.inr rfl)
def ZGy : TI := { agg := false, kin := 0, siz := 1, zer := some [.p (.pointer none)] }
theorem ZHR : TIok Try.prog 74 ZGy := .of (by kernel_rfl) (by kernel_rfl) (by kernel_rfl) (.inl rfl) (by kernel_rfl) (.inr (by kernel_rfl)) (.inl rfl) (.inl rfl) (.inl rfl) (.inl rfl) (.inr rfl)
def ZGd : TI := { agg := true, kin := 0, siz := 10, fld := [(0, 1, false), (1, 6, true), (7, 1, false), (8, 1, false), (9, 1, false)], zer := some [.e0, .d (.str ⟨#[]⟩), .d (.str ⟨#[]⟩), .e0, .e0, .e0, .e0, .e0, .e0, .e0], str := true, byt := some 256 }
theorem ZHt : TIok Try.prog 76 ZGd := .of (by kernel_rfl) (by kernel_rfl) (by kernel_rfl) (.inl rfl) (by kernel_rfl) (.inr (by kernel_rfl)) (.inl rfl) (.inr (by kernel_rfl)) (.inl rfl) (.inr ⟨256, by decide +kernel, by decide +kernel, rfl⟩) (.inr rfl)
def ZC5 : TI := { agg := false, kin := 0, siz := 1, zer := some [.p .nilFunc] }
theorem ZF1 : TIok Try.prog 114 ZC5 := .of (by kernel_rfl) (by kernel_rfl) (by kernel_rfl) (.inl rfl) (by kernel_rfl) (.inr (by kernel_rfl)) (.inl rfl) (.inl rfl) (.inl rfl) (.inl rfl) (.inr rfl)
def ZCK : TI := { agg := false, kin := 0, siz := 1, zer := some [.p .nilFunc] }
theorem ZF2 : TIok Try.prog 116 ZCK := .of (by kernel_rfl) (by kernel_rfl) (by kernel_rfl) (.inl rfl) (by kernel_rfl) (.inr (by kernel_rfl)) (.inl rfl) (.inl rfl) (.inl rfl) (.inl rfl) (.inr rfl)
def ZCd : TI := { agg := false, kin := 0, siz := 1, zer := some [.p .nilFunc] }
theorem ZE5 : TIok Try.prog 118 ZCd := .of (by kernel_rfl) (by kernel_rfl) (by kernel_rfl) (.inl rfl) (by kernel_rfl) (.inr (by kernel_rfl)) (.inl rfl) (.inl rfl) (.inl rfl) (.inl rfl) (.inr rfl)
def ZCG : TI := { agg := false, kin := 4, siz := 1, elm := some (4, 1), zer := some [.e0], byt := some 256 }
theorem ZEU : TIok Try.prog 120 ZCG := .of (by kernel_rfl) (by kernel_rfl) (by kernel_rfl) (.inr (by kernel_rfl)) (by kernel_rfl) (.inr (by kernel_rfl)) (.inl rfl) (.inl rfl) (.inl rfl) (.inr ⟨256, by decide +kernel, by decide +kernel, rfl⟩) (.inr rfl)
def ZCU : TI := { agg := true, kin := 0, siz := 3, fld := [(0, 1, false), (1, 1, false), (2, 1, false)], zer := some [.d (.str ⟨#[]⟩), .d (.int .i64 0), .e0], str := true, byt := some 256 }
theorem ZFm : TIok Try.prog 127 ZCU := .of (by kernel_rfl) (by kernel_rfl) (by kernel_rfl) (.inl rfl) (by kernel_rfl) (.inr (by kernel_rfl)) (.inl rfl) (.inr (by kernel_rfl)) (.inl rfl) (.inr ⟨256, by decide +kernel, by decide +kernel, rfl⟩) (.inr rfl)
def ZCh : TI := { agg := false, kin := 4, siz := 1, elm := some (34, 1), zer := some [.e0], byt := some 256 }
theorem ZFQ : TIok Try.prog 136 ZCh := .of (by kernel_rfl) (by kernel_rfl) (by kernel_rfl) (.inr (by kernel_rfl)) (by kernel_rfl) (.inr (by kernel_rfl)) (.inl rfl) (.inl rfl) (.inl rfl) (.inr ⟨256, by decide +kernel, by decide +kernel, rfl⟩) (.inr rfl)
def ZBJ : TI := { agg := false, kin := 3, siz := 1, zer := some [.d (.int .u64 0)], ik := some .u64, byt := some 256 }
theorem ZF9 : TIok Try.prog 140 ZBJ := .of (by kernel_rfl) (by kernel_rfl) (by kernel_rfl) (.inl rfl) (by kernel_rfl) (.inr (by kernel_rfl)) (.inl rfl) (.inl rfl) (.inr (by kernel_rfl)) (.inr ⟨256, by decide +kernel, by decide +kernel, rfl⟩) (.inr rfl)
def ZCv : TI := { agg := false, kin := 0, siz := 1, zer := some [.p .nilFunc] }
theorem ZF8 : TIok Try.prog 142 ZCv := .of (by kernel_rfl) (by kernel_rfl) (by kernel_rfl) (.inl rfl) (by kernel_rfl) (.inr (by kernel_rfl)) (.inl rfl) (.inl rfl) (.inl rfl) (.inl rfl) (.inr rfl)
def ZDe : TI := { agg := false, kin := 0, siz := 1, zer := some [.p .nilFunc] }
theorem ZFe : TIok Try.prog 145 ZDe := .of (by kernel_rfl) (by kernel_rfl) (by kernel_rfl) (.inl rfl) (by kernel_rfl) (.inr (by kernel_rfl)) (.inl rfl) (.inl rfl) (.inl rfl) (.inl rfl) (.inr rfl)
def ZB9 : TI := { agg := true, kin := 0, siz := 2, fld := [(0, 1, false), (1, 1, false)], zer := some [.d (.int .i64 0), .d (.int .i64 0)], eqt := some [3, 3], str := true, byt := some 256 }
theorem ZFP : TIok Try.prog 157 ZB9 := .of (by kernel_rfl) (by kernel_rfl) (by kernel_rfl) (.inl rfl) (by kernel_rfl) (.inr (by kernel_rfl)) (.inr (by kernel_rfl)) (.inr (by kernel_rfl)) (.inl rfl) (.inr ⟨256, by decide +kernel, by decide +kernel, rfl⟩) (.inr rfl)
def ZB6 : TI := { agg := true, kin := 0, siz := 8, fld := [(0, 1, false), (1, 7, true)], zer := some [.d (.str ⟨#[]⟩), .d (.int .i64 0), .d (.int .u64 0), .d (.str ⟨#[]⟩), .e0, .e0, .e0, .e0], str := true, byt := some 256 }
theorem ZEQ : TIok Try.prog 159 ZB6 := .of (by kernel_rfl) (by kernel_rfl) (by kernel_rfl) (.inl rfl) (by kernel_rfl) (.inr (by kernel_rfl)) (.inl rfl) (.inr (by kernel_rfl)) (.inl rfl) (.inr ⟨256, by decide +kernel, by decide +kernel, rfl⟩) (.inr rfl)
def ZBI : TI := { agg := true, kin := 0, siz := 14, fld := [(0, 7, true), (7, 7, true)], zer := some [.d (.int .i64 0), .d (.int .u64 0), .d (.str ⟨#[]⟩), .e0, .e0, .e0, .e0, .d (.int .i64 0), .d (.int .u64 0), .d (.str ⟨#[]⟩), .e0, .e0, .e0, .e0], str := true, byt := some 256 }
theorem ZFj : TIok Try.prog 214 ZBI := .of (by kernel_rfl) (by kernel_rfl) (by kernel_rfl) (.inl rfl) (by kernel_rfl) (.inr (by kernel_rfl)) (.inl rfl) (.inr (by kernel_rfl)) (.inl rfl) (.inr ⟨256, by decide +kernel, by decide +kernel, rfl⟩) (.inr rfl)
def ZBl : TI := { agg := true, kin := 0, siz := 8, fld := [(0, 1, false), (1, 7, true)], zer := some [.d (.int .i64 0), .d (.int .i64 0), .d (.int .u64 0), .d (.str ⟨#[]⟩), .e0, .e0, .e0, .e0], str := true, byt := some 256 }
theorem ZFH : TIok Try.prog 216 ZBl := .of (by kernel_rfl) (by kernel_rfl) (by kernel_rfl) (.inl rfl) (by kernel_rfl) (.inr (by kernel_rfl)) (.inl rfl) (.inr (by kernel_rfl)) (.inl rfl) (.inr ⟨256, by decide +kernel, by decide +kernel, rfl⟩) (.inr rfl)
def ZBr : TI := { agg := true, kin := 0, siz := 4, fld := [(0, 1, false), (1, 1, false), (2, 1, false), (3, 1, false)], zer := some [.d (.int .i64 0), .d (.int .i64 0), .d (.int .u64 0), .d (.str ⟨#[]⟩)], eqt := some [3, 3, 3, 2], str := true, byt := some 256 }
theorem ZFa : TIok Try.prog 218 ZBr := .of (by kernel_rfl) (by kernel_rfl) (by kernel_rfl) (.inl rfl) (by kernel_rfl) (.inr (by kernel_rfl)) (.inr (by kernel_rfl)) (.inr (by kernel_rfl)) (.inl rfl) (.inr ⟨256, by decide +kernel, by decide +kernel, rfl⟩) (.inr rfl)
def tl : List (Nat × TI) := [(3, ti3), (4, ti4), (5, ti5), (9, ti9), (22, ZGF), (23, ZG8), (24, ZGZ), (25, ZG5), (27, ZGv), (28, ZGI), (34, ZGR), (35, ZGn), (36, ZGp), (37, ZGb), (39, ZGV), (40, ZGk), (42, ZGG), (44, ZGh), (45, ZGt), (46, ZGz), (47, ZGC), (48, ZGD), (49, ZGB), (51, ZGO), (53, ZG9), (55, ZGJ), (57, ZGQ), (59, ZGl), (61, ZHb), (62, ZGS), (74, ZGy), (76, ZGd), (114, ZC5), (116, ZCK), (118, ZCd), (120, ZCG), (127, ZCU), (136, ZCh), (140, ZBJ), (142, ZCv), (145, ZDe), (157, ZB9), (159, ZB6), (214, ZBI), (216, ZBl), (218, ZBr)]
theorem tok : TOk Try.prog (lkT tl) := ZvB tl (by
 intro p hp
 simp only [tl, List.mem_cons, List.not_mem_nil, or_false] at hp
 rcases hp with rfl | rfl | rfl | rfl | rfl | rfl | rfl | rfl | rfl | rfl | rfl | rfl | rfl | rfl | rfl | rfl | rfl | rfl | rfl | rfl | rfl | rfl | rfl | rfl | rfl | rfl | rfl | rfl | rfl | rfl | rfl | rfl | rfl | rfl | rfl | rfl | rfl | rfl | rfl | rfl | rfl | rfl | rfl | rfl | rfl | rfl
 ·exact tk3
 ·exact tk4
 ·exact tk5
 ·exact tk9
 ·exact ZHL
 ·exact ZHU
 ·exact ZHX
 ·exact ZHz
 ·exact ZIx
 ·exact ZH6
 ·exact ZIb
 ·exact ZHq
 ·exact ZIq
 ·exact ZIM
 ·exact ZHi
 ·exact ZHu
 ·exact ZHJ
 ·exact ZHg
 ·exact ZId
 ·exact ZH5
 ·exact ZIC
 ·exact ZIv
 ·exact ZIp
 ·exact ZIi
 ·exact ZHm
 ·exact ZIG
 ·exact ZHn
 ·exact ZHS
 ·exact ZHx
 ·exact ZHw
 ·exact ZHR
 ·exact ZHt
 ·exact ZF1
 ·exact ZF2
 ·exact ZE5
 ·exact ZEU
 ·exact ZFm
 ·exact ZFQ
 ·exact ZF9
 ·exact ZF8
 ·exact ZFe
 ·exact ZFP
 ·exact ZEQ
 ·exact ZFj
 ·exact ZFH
 ·exact ZFa)
theorem tmo : Try.prog.follows .mixedOrders = true := by kernel_rfl
end Go.Proofs.Ythagpbkmakocjaa
