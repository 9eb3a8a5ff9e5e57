import Derived.Test.YthagpbkmakocjaaGreatCy13
namespace Go.Eng
set_option linter.all false
open Go Go.RowKit
def pb : Value → Option Nat
  | .pointer (some a) => some a.block
  | _ => none
def Cel (w : World) (b : Nat) : Prop := ∃ C e f, w.heap[b]? = some (.cells C e f)
section
variable {P : Program} {α β : Type}
theorem ZqS {v : Value} {a : Addr} {w w1 : World} (h : (Instr.sureAddr v).run P w = .ok a w1) : v = .pointer (some a) ∧ w1 = w := by
  unfold Instr.sureAddr at h
  split at h
  · cases h; exact ⟨rfl, rfl⟩
  · cases h
def Lo (b : Nat) (P : Program) (s : Sem α) : Prop := ∀ w r w1 w2, s.run P w = .ok r w1 → Cel w b → w2.heap[b]? = w.heap[b]? → s.run P w2 = .ok r w2
theorem Vp.lo {b : Nat} {s : Sem α} (h : Vp P s) : Lo b P s := fun w r w1 w2 e _ _ => (h w r w1 e).2 w2
theorem Lo.bind {b : Nat} {s : Sem α} {f : α → Sem β} (hr : Rd P s) (h : Lo b P s) (k : ∀ a, Lo b P (f a)) : Lo b P (s >>= f) := fun w r w1 w2 e h1 h2 => by
  rw [Sem.run_bind] at e ⊢
  cases hs : s.run P w with
  | halt x w' => rw [hs] at e; cases e
  | ok a w' =>
    rw [hs] at e
    have := hr w a w' hs
    subst this
    rw [h _ _ _ _ hs h1 h2]
    exact k a _ _ _ _ e h1 h2
theorem Zq7 (a : Addr) : Lo a.block P (load a) := fun w r w1 w2 e ⟨C, t, f, hC⟩ h2 => by
  unfold load at e ⊢
  simp only [Sem.run] at e ⊢
  have hc : w2.cell? a = w.cell? a := World.cell?_of_block h2
  rw [hc]
  cases hv : w.cell? a with
  | some v => rw [hv] at e; cases e; rfl
  | none =>
    rw [hv] at e
    have : w.farLoad P a (Mode.plain == Mode.atomic) = .error (w.noCell a "load: no such cell") := by unfold World.farLoad; rw [hC]
    rw [this] at e
    cases e
theorem Zfp (a : Addr) : ∀ (n i : Nat) (acc : Array Value), Lo a.block P (loadCellsFrom a i n acc)
  | 0, i, acc => (Vp.pure _).lo
  | n + 1, i, acc => by
    unfold loadCellsFrom
    refine .bind (Zia _) ?_ fun v => Zfp a n (i + 1) _
    have := Zq7 (P := P) (a.add i)
    rwa [block_add] at this
theorem ZnK (t : TypeId) (a : Addr) : Lo a.block P (loadVar t a) := by
  unfold loadVar
  refine .bind (Zeg t).rd (Zeg t).lo fun b => ?_
  cases b with
  | true => exact .bind (Zbw t).rd (Zbw t).lo fun n => .bind (Zdb a n 0 _) (Zfp a n 0 _) fun _ => (Vp.pure _).lo
  | false => exact Zq7 a
theorem Zyo {ρ : Operand → Value} {o : Oper} {t : TypeId} {x : Operand} {w w2 : World} {v : Value} (ho : o.op = .load t x) (e : (execOp ρ o).run P w = .ok (.value v) w) :
    ∃ b, pb (ρ x) = some b ∧ (Cel w b → w2.heap[b]? = w.heap[b]? → (execOp ρ o).run P w2 = .ok (.value v) w2) := by
  obtain ⟨dst, op, type, pos, after, guard⟩ := o
  cases ho
  change ((Instr.loadAt t (ρ x)) >>= fun y => (pure (Next.value y) : Sem Next)).run P w = _ at e
  show ∃ b, pb (ρ x) = some b ∧ (_ → _ → ((Instr.loadAt t (ρ x)) >>= fun y => (pure (Next.value y) : Sem Next)).run P w2 = _)
  generalize ρ x = q at e ⊢
  have : ∃ a, q = .pointer (some a) := by
    cases hs : (Instr.sureAddr q).run P w with
    | halt _ _ => unfold Instr.loadAt at e; simp only [Sem.run_bind, hs] at e; cases e
    | ok a w' => exact ⟨a, (ZqS hs).1⟩
  obtain ⟨a, rfl⟩ := this
  exact ⟨a.block, rfl, fun h1 h2 => Lo.bind (Rd.bind (Vp.pure a).rd fun a => Zfi t a) (ZnK t a) (fun _ => (Vp.pure _).lo) _ _ _ _ e h1 h2⟩
def So (b : Nat) (P : Program) (s : Sem α) : Prop := ∀ w r w1, s.run P w = .ok r w1 → Cel w b → Cel w1 b ∧ ∀ k, k ≠ b → w1.heap[k]? = w.heap[k]?
theorem Rd.so {b : Nat} {s : Sem α} (h : Rd P s) : So b P s := fun w r w1 e hc => by rw [h w r w1 e]; exact ⟨hc, fun _ _ => rfl⟩
theorem So.bind {b : Nat} {s : Sem α} {f : α → Sem β} (h : So b P s) (k : ∀ a, So b P (f a)) : So b P (s >>= f) := fun w r w1 e hc => by
  rw [Sem.run_bind] at e
  cases hs : s.run P w with
  | halt x w' => rw [hs] at e; cases e
  | ok a w' =>
    rw [hs] at e
    obtain ⟨h1, h2⟩ := h _ _ _ hs hc
    obtain ⟨h3, h4⟩ := k a _ _ _ e h1
    exact ⟨h3, fun k hk => (h4 k hk).trans (h2 k hk)⟩
theorem Ztq (a : Addr) (v : Value) : So a.block P (store a v) := fun w r w1 e ⟨C, t, f, hC⟩ => by
  unfold store at e
  have key : ∀ w1, w1 = w.setCell a v → Cel w1 a.block ∧ ∀ k, k ≠ a.block → w1.heap[k]? = w.heap[k]? := fun w1 e => by
    subst e
    unfold World.setCell
    constructor
    · refine ⟨(if a.spot.isSome then C else C.setIfInBounds a.off v), t, f, ?_⟩
      show (w.heap.modify a.block _)[a.block]? = _
      rw [Array.getElem?_modify, hC]
      simp
    · intro k hk
      show (w.heap.modify a.block _)[k]? = _
      rw [Array.getElem?_modify]
      simp [Ne.symm hk]
  cases v <;> simp only [Sem.run] at e <;> first
    | (cases e; done)
    | (cases hv : w.cell? a with
       | some x =>
         rw [hv] at e
         simp only at e
         split at e
         · cases e
         · cases e; exact key _ rfl
       | none =>
         rw [hv] at e
         unfold World.farStore at e
         rw [hC] at e
         cases e)
theorem ZeW (a : Addr) : ∀ (vs : List Value) (i : Nat), So a.block P (storeCells a vs i)
  | [], i => (Vp.pure _).rd.so
  | v :: r, i => by
    unfold storeCells
    refine So.bind ?_ fun _ => ZeW a r (i + 1)
    have := Ztq (P := P) (a.add i) v
    rwa [block_add] at this
theorem ZkJ (t : TypeId) (a : Addr) (v : Value) : So a.block P (storeVar t a v) := by
  unfold storeVar
  refine (Zbw t).rd.so.bind fun n => ?_
  by_cases h : v.cells.size ≠ n
  · rw [if_pos h]
    intro w r w1 e
    cases e
  · rw [if_neg h]
    exact ZeW a _ 0
theorem Zx9 {ρ : Operand → Value} {o : Oper} {t : TypeId} {x y : Operand} {w w1 : World} {r : Next} (ho : o.op = .store t x y) (e : (execOp ρ o).run P w = .ok r w1) :
    r = .skip ∧ ∃ b, pb (ρ x) = some b ∧ (Cel w b → Cel w1 b ∧ ∀ k, k ≠ b → w1.heap[k]? = w.heap[k]?) := by
  obtain ⟨dst, op, type, pos, after, guard⟩ := o
  cases ho
  change ((Instr.storeAt t (ρ x) (ρ y)) >>= fun _ => (pure Next.skip : Sem Next)).run P w = _ at e
  generalize ρ x = q at e ⊢
  generalize ρ y = v at e
  have h1 : r = .skip := by
    rw [Sem.run_bind] at e
    cases hs : (Instr.storeAt t q v).run P w with
    | halt _ _ => rw [hs] at e; cases e
    | ok _ _ => rw [hs] at e; cases e; rfl
  refine ⟨h1, ?_⟩
  have : ∃ a, q = .pointer (some a) := by
    cases hs : (Instr.sureAddr q).run P w with
    | halt _ _ => unfold Instr.storeAt at e; simp only [Sem.run_bind, hs] at e; cases e
    | ok a w' => exact ⟨a, (ZqS hs).1⟩
  obtain ⟨a, rfl⟩ := this
  exact ⟨a.block, rfl, fun hc => So.bind (ZkJ t a v) (fun _ => (Vp.pure _).rd.so) _ _ _ e hc⟩
end
def ZjJ (z : Nat) : List (Nat × Nat) → Option Nat
  | [] => none
  | (d, r) :: l => match Nat.beq d z with | true => some r | false => ZjJ z l
theorem ZcX {z r : Nat} : ∀ {l : List (Nat × Nat)}, ZjJ z l = some r → (z, r) ∈ l
  | (d, q) :: l, h => by
    unfold ZjJ at h
    split at h
    · rename_i e; cases h; rw [Nat.eq_of_beq_eq_true e]; exact List.mem_cons_self ..
    · exact List.mem_cons_of_mem _ (ZcX h)
def Zkr : Operand → Option Nat
  | .tmp z => some z
  | _ => none
def Zk1 (P : Program) (o : Oper) : Option Nat := match vpO P o with
  | true => (match o.op with
    | .fieldAddr _ x _ => Zkr x
    | .move x => Zkr x
    | .nilCheck x => Zkr x
    | _ => none)
  | false => none
def ZcO (P : Program) (env : List (Nat × Nat)) (o : Oper) : List (Nat × Nat) := match o.dst with
  | none => env
  | some d => (match Zk1 P o with | some z => (match ZjJ z env with | some r => [(d, r)] | none => []) | none => []) ++ env.filter fun p => !Nat.beq p.1 d
def Zsj (P : Program) (env : List (Nat × Nat)) (o : Oper) : Bool := rdO P o || grO o || match o.op with
  | .store _ (.tmp y) _ => (ZjJ y env).isSome
  | _ => false
def J (β : Nat → Nat) (env : List (Nat × Nat)) (a : Act) (w : World) : Prop := ∀ p ∈ env, ∀ b, pb (a.eval (.tmp p.1)) = some b → b = β p.2 ∧ Cel w b
def Zp5 : Next → Option Value
  | .value v => some v
  | .skip => some undef
  | _ => none
section
variable {P : Program} {β : Nat → Nat} {env : List (Nat × Nat)} {a : Act} {w w' : World} {o : Oper} {n : Next}
theorem ZlZ (h : Zsj P env o = true) (hJ : J β env a w) (e : (execOp a.eval o).run P w = .ok n w') : (∃ u, Zp5 n = some u) ∧ ∀ b, Cel w b → Cel w' b := by
  unfold Zsj at h
  rw [Bool.or_eq_true] at h
  rcases h with h | h
  · obtain ⟨h1, h2⟩ := Zpd (ρ := a.eval) h
    obtain ⟨v, rfl⟩ := h2 _ _ _ e
    exact ⟨⟨v, rfl⟩, fun b ⟨C, t, f, hC⟩ => ⟨C, t, f, h1 _ _ _ e _ _ hC⟩⟩
  · split at h
    · rename_i t y v ho
      obtain ⟨rfl, b0, h1, h2⟩ := Zx9 ho e
      obtain ⟨r, hr⟩ := Option.isSome_iff_exists.1 h
      obtain ⟨_, h3⟩ := hJ _ (ZcX hr) _ h1
      obtain ⟨h4, h5⟩ := h2 h3
      refine ⟨⟨_, rfl⟩, fun b ⟨C, t, f, hC⟩ => ?_⟩
      by_cases hb : b = b0
      · subst hb; exact h4
      · exact ⟨C, t, f, (h5 b hb).trans hC⟩
    · cases h
theorem ZfH {x : Operand} {z : Nat} (h : Zkr x = some z) : x = .tmp z := by
  cases x <;> simp only [Zkr] at h <;> first | (cases h; done) | skip
  cases h; rfl
theorem Zvy {z : Nat} {b : Nat} {v : Value} (hs : Zk1 P o = some z) (e : (execOp a.eval o).run P w = .ok (.value v) w') (hb : pb v = some b) : pb (a.eval (.tmp z)) = some b := by
  unfold Zk1 at hs
  cases hv : vpO P o with
  | false => rw [hv] at hs; cases hs
  | true =>
    rw [hv] at hs
    obtain ⟨dst, op, type, pos, after, guard⟩ := o
    cases op <;> simp only at hs <;> first | (cases hs; done) | skip
    case move x => rw [← ZfH hs]; cases e; exact hb
    case nilCheck x =>
      rw [← ZfH hs]
      have hr : ∀ w r w1, (runtimePanic .nilDeref : Sem Next).run P w ≠ .ok r w1 := fun w r w1 e => by
        unfold runtimePanic at e
        simp only [Sem.run_bind, run_program, Result.andThen_ok] at e
        repeat (first | (cases e; done) | split at e | (simp [goPanic, stuck, unsupported, Sem.run] at e; done))
      simp only [execOp] at e
      split at e
      · exact absurd e (hr _ _ _)
      · exact absurd e (hr _ _ _)
      · exact absurd e (hr _ _ _)
      · split at e
        · exact absurd e (hr _ _ _)
        · simp only [Sem.run_bind, run_program, Result.andThen_ok] at e
          cases hs : (nilAhead _ _ _ _).run P w with
          | halt x w' => rw [hs] at e; cases e
          | ok q w' =>
            rw [hs] at e
            simp only [Result.andThen_ok] at e
            split at e
            · cases e
            · cases e; first | exact hb | cases hb
        · cases e; first | exact hb | cases hb
      · cases e; first | exact hb | cases hb
    case fieldAddr t x i =>
      rw [← ZfH hs]
      simp only [vpO] at hv
      split at hv
      · rename_i fs hu
        split at hv
        · rename_i f hf
          have hz : P.cellsOf f.type ≠ 0 := fun h0 => by rw [h0] at hv; cases hv
          have run : ∀ (ad : Addr) (w : World), (Instr.fieldAt t (.pointer (some ad)) i).run P w = .ok (.pointer (some (ad.add f.offset))) w := fun ad w => by
            simp [Instr.fieldAt, run_underlying hu, hf, Instr.sureAddr, fieldPlace, ZbP hz, hz]
          change ((Instr.fieldAt t (a.eval x) i) >>= fun y => (pure (Next.value y) : Sem Next)).run P w = _ at e
          generalize a.eval x = q at e ⊢
          by_cases hq : ∃ ad, q = .pointer (some ad)
          · obtain ⟨ad, rfl⟩ := hq
            rw [Sem.run_bind, run] at e
            cases e
            simp only [pb, block_add] at hb
            exact hb
          · exfalso
            have hs : Instr.sureAddr q = .halt (.stuck "an address expected (no nilCheck in front?)") := by
              unfold Instr.sureAddr
              split
              · rename_i ad; exact absurd ⟨ad, rfl⟩ hq
              · rfl
            simp only [Instr.fieldAt, Sem.run_bind, run_underlying hu, Result.andThen_ok, hf, hs] at e
            cases e
        · cases hv
      · cases hv
theorem J.put (hJ : J β env a w) (ht : Zsj P env o = true) (e : (execOp a.eval o).run P w = .ok n w') {u : Value} (hu : Zp5 n = some u) : J β (ZcO P env o) (a.put o.dst u) w' := by
  have hc := (ZlZ ht hJ e).2
  unfold ZcO
  have ev : ∀ z : Nat, (∀ d, o.dst = some d → z ≠ d) → (a.put o.dst u).eval (.tmp z) = a.eval (.tmp z) := fun z hz => Act.eval_put fun d hd hx => hz d hd (by cases hx; rfl)
  cases hd : o.dst with
  | none =>
    intro p hp b hb
    rw [← hd, ev _ (fun d h => by rw [hd] at h; cases h)] at hb
    exact ⟨(hJ p hp b hb).1, hc _ (hJ p hp b hb).2⟩
  | some d =>
    intro p hp b hb
    rw [List.mem_append] at hp
    rcases hp with hp | hp
    · split at hp
      · rename_i z hz
        split at hp
        · rename_i r hr
          obtain rfl := List.mem_singleton.1 hp
          simp only at hb ⊢
          have hu' : n = .value u := by
            have : rdO P o = true := by
              unfold Zk1 at hz
              unfold rdO
              cases hv : vpO P o with
              | true => rfl
              | false => rw [hv] at hz; cases hz
            obtain ⟨v, rfl⟩ := (Zgb (ρ := a.eval) this).2 _ _ _ e
            cases hu
            rfl
          subst hu'
          have hb' : pb u = some b := by
            have : (a.put (some d) u).eval (.tmp d) = u ∨ (a.put (some d) u).eval (.tmp d) = undef := by
              simp only [Act.eval, Act.put, Array.getD_eq_getD_getElem?, Array.getElem?_setIfInBounds]
              split
              · rename_i h
                split <;> simp_all
              · simp_all
            rcases this with h | h
            · rw [h] at hb; exact hb
            · rw [h] at hb; cases hb
          obtain ⟨h1, h2⟩ := hJ _ (ZcX hr) _ (Zvy hz e hb')
          exact ⟨h1, hc _ h2⟩
        · cases hp
      · cases hp
    · rw [List.mem_filter] at hp
      have hne : p.1 ≠ d := fun he => by have := hp.2; rw [he, Nat.beq_refl] at this; cases this
      rw [← hd, ev _ (fun d' h => by rw [hd] at h; cases h; exact hne)] at hb
      exact ⟨(hJ p hp.1 b hb).1, hc _ (hJ p hp.1 b hb).2⟩
def Zv6 (env : List (Nat × Nat)) (o : Oper) : Bool := match o.dst with
  | none => true
  | some d => env.all fun p => !Nat.beq p.1 d
theorem J.keep (hJ : J β env a w) (ht : Zsj P env o = true) (hf : Zv6 env o = true) (e : (execOp a.eval o).run P w = .ok n w') {u : Value} : J β env (a.put o.dst u) w' := by
  have hc := (ZlZ ht hJ e).2
  intro p hp b hb
  have : (a.put o.dst u).eval (.tmp p.1) = a.eval (.tmp p.1) := Act.eval_put fun d hd hx => by
    cases hx
    unfold Zv6 at hf
    rw [hd] at hf
    have := List.all_eq_true.1 hf p hp
    rw [Nat.beq_refl] at this
    cases this
  rw [this] at hb
  exact ⟨(hJ p hp b hb).1, hc _ (hJ p hp b hb).2⟩
end
end Go.Eng
namespace Go.Eng
set_option linter.all false
open Go Go.RowKit
section
variable {V : Type} [Mv V]
def ZkC (s : ByteArray) : List (ByteArray × V) → Option V
 | [] => none
 | p :: r => match decide (p.1 = s) with | true => some p.2 | false => ZkC s r
def Zky (s : ByteArray) (v : V) : List (ByteArray × V) → List (ByteArray × V)
 | [] => [(s, v)]
 | p :: r => match decide (p.1 = s) with | true => (s, v) :: r | false => p :: Zky s v r
def ZGC (s : ByteArray) : List (ByteArray × V) → List (ByteArray × V)
 | [] => []
 | p :: r => match decide (p.1 = s) with | true => r | false => p :: ZGC s r
theorem Zi0 (s : ByteArray) : ∀ xs : List (ByteArray × V), ZfA s (xs.map eEt) = (ZkC s xs).map Mv.e
 | [] => rfl
 | p :: r => by
  simp only [List.map_cons, ZfA, eEt, ZgY, ZkC]
  cases decide (p.1 = s) with
  | true => rfl
  | false => exact Zi0 s r
theorem Zla (s : ByteArray) (v : V) : ∀ xs : List (ByteArray × V), ZiQ s (Mv.e v) (xs.map eEt) = (Zky s v xs).map eEt
 | [] => rfl
 | p :: r => by
  simp only [List.map_cons, ZiQ, eEt, ZgY, Zky]
  cases decide (p.1 = s) with
  | true => rfl
  | false => exact congrArg _ (Zla s v r)
theorem Zll (s : ByteArray) : ∀ xs : List (ByteArray × V), ZiR s (xs.map eEt) = (ZGC s xs).map eEt
 | [] => rfl
 | p :: r => by
  simp only [List.map_cons, ZiR, eEt, ZgY, ZGC]
  cases decide (p.1 = s) with
  | true => rfl
  | false => exact congrArg _ (Zll s r)
def lkM (s : ByteArray) (xs : List (ByteArray × V)) : V := (ZkC s xs).getD Mv.z
def inM (s : ByteArray) (xs : List (ByteArray × V)) : Bool := (ZkC s xs).isSome
theorem ZoH (s : ByteArray) (xs : List (ByteArray × V)) : Znd (xs.map eEt) s (Mv.e (Mv.z (V := V))) (Mv.e (lkM s xs)) (inM s xs) := by
 unfold Znd lkM inM
 rw [Zi0]
 cases ZkC s xs <;> exact ⟨rfl, rfl⟩
variable {os : Nat} {β : Type}
@[reducible] def mlk (xs : List (ByteArray × V)) (s : ByteArray) (k : V → Bool → PT os β) : PT os β :=
 ⟨.av (.d (.bool (inM s xs))) (.ds (Mv.e (lkM s xs)) (k (lkM s xs) (inM s xs)).a), fun E => Znd (xs.map eEt) s (Mv.e (Mv.z (V := V))) (Mv.e (lkM s xs)) (inM s xs) ∧ (k (lkM s xs) (inM s xs)).q E, (k (lkM s xs) (inM s xs)).m, fun E => ∀ v b, (k v b).n E,
 fun E hn y hm hL => ⟨ZoH s xs, (k _ _).ok E (hn _ _) y hm hL⟩⟩
@[reducible] def mlg (g : Bool) (xs : List (ByteArray × V)) (s : ByteArray) (k : V → Bool → PT os β) : PT os β :=
 ⟨.av (.d (.bool (inM s xs))) (.ds (Mv.e (lkM s xs)) (k (lkM s xs) (inM s xs)).a), fun E => (g = true → Znd (xs.map eEt) s (Mv.e (Mv.z (V := V))) (Mv.e (lkM s xs)) (inM s xs)) ∧ (k (lkM s xs) (inM s xs)).q E, (k (lkM s xs) (inM s xs)).m, fun E => ∀ v b, (k v b).n E,
 fun E hn y hm hL => ⟨fun _ => ZoH s xs, (k _ _).ok E (hn _ _) y hm hL⟩⟩
@[reducible] def mpu (xs : List (ByteArray × V)) (s : ByteArray) (v : V) (k : PT os β) : PT os β :=
 ⟨.ents ((Zky s v xs).map eEt) k.a, fun E => ZMp s (Mv.e v) (xs.map eEt) ((Zky s v xs).map eEt) ∧ k.q E, k.m, k.n, fun E hn y hm hL => ⟨Zla s v xs, k.ok E hn y hm hL⟩⟩
@[reducible] def mdl (xs : List (ByteArray × V)) (s : ByteArray) (k : PT os β) : PT os β :=
 ⟨.ents ((ZGC s xs).map eEt) k.a, fun E => ZLu s (xs.map eEt) ((ZGC s xs).map eEt) ∧ k.q E, k.m, k.n, fun E hn y hm hL => ⟨Zll s xs, k.ok E hn y hm hL⟩⟩
end
@[reducible] def mvm {os : Nat} {β : Type} (d q : Nat) (k : PT os β) (hq : Nat.ble (q + 1) os = true := by kernel_rfl) : PT os β :=
 ⟨.mv d q k.a, fun E => Zhb [] ∧ (q < os ∧ E.r.no (E.r.κ (0, q))) ∧ k.q E, k.m, k.n, fun E hn y hm hL =>
  ⟨fun x hx => (by cases hx), ⟨Nat.le_of_ble_eq_true hq, by rw [E.g.no, E.g.κ]; exact E.co.W q (Nat.le_of_ble_eq_true hq)⟩, k.ok E hn y hm hL⟩⟩
structure KCN (P : Program) (f : FuncId) (xs : List AV) {γ : Type} (M : Option (List γ)) (e : γ → AV) : Prop where
 k : ∀ l H ys, M = some ys → Zcw P f l xs H (fun z H' => (∃ y ∈ ys, z = e y) ∧ H' = H)
 x : ∀ r, Zas r xs = xs
 e : ∀ r y, ren r (e y) = e y
theorem KCN.one {P : Program} {f : FuncId} {xs : List AV} {γ : Type} {M : Option (List γ)} {e : γ → AV} (K : KCN P f xs M e) (N : Option γ) (h : ∀ y, N = some y → ∃ ys, M = some ys ∧ ∀ z ∈ ys, z = y) : KC P f xs N e :=
 ⟨fun l H y hy => by
  obtain ⟨ys, e1, e2⟩ := h y hy
  exact (K.k l H ys e1).mono fun z H' ⟨⟨y', h1, h2⟩, h3⟩ => ⟨by rw [h2, e2 y' h1], h3⟩, K.x, K.e⟩
structure KON (P : Program) (f : FuncId) (os : Nat) (ys : List AV) (bi : List Blk) (Θ : Cl) {γ : Type} (M : Option (List γ)) (e : γ → AV) (bs : γ → List Blk) : Prop where
 k : ∀ l H (ks : List Key) (gs : List Nat) (θ : Nat → AV), ks.length = os → ZxA l ks → ks.Nodup → HOk H (rOf l ks gs θ H) (Zon 0 bi) 0 ks → Θ (fun k => k ∈ ks) l H θ → ∀ zs, M = some zs →
  Zcw P f l (Zas (rOf l ks gs θ H) ys) H (fun z H' => ∃ y ∈ zs, z = ren (rOf l ks gs θ H) (e y) ∧ H' = Zkq H ks (ZdN (rOf l ks gs θ H) 0 (bs y)))
end Go.Eng
