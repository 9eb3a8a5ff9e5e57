import Derived.Test.YthagpbkmakocjaaCx13
namespace Go.Eng
set_option linter.all false
open Go Go.RowKit
section
variable {α β : Type} (P : Program)
def Vp (s : Sem α) : Prop := ∀ w r w1, s.run P w = .ok r w1 → w1 = w ∧ ∀ w2, s.run P w2 = .ok r w2
def Rd (s : Sem α) : Prop := ∀ w r w1, s.run P w = .ok r w1 → w1 = w
variable {P}
theorem Vp.rd {s : Sem α} (h : Vp P s) : Rd P s := fun w r w1 e => (h w r w1 e).1
theorem Vp.pure (a : α) : Vp P (Pure.pure a : Sem α) := fun w r w1 e => by cases e; exact ⟨rfl, fun _ => rfl⟩
theorem Vp.halt (h : Halt) : Vp P (.halt h : Sem α) := fun w r w1 e => by cases e
theorem Vp.program : Vp P Go.program := fun w r w1 e => by cases e; exact ⟨rfl, fun _ => rfl⟩
theorem Vp.bind {s : Sem α} {f : α → Sem β} (h : Vp P s) (k : ∀ a, Vp P (f a)) : Vp P (s >>= f) := fun w r w1 e => by
 rw [Sem.run_bind] at e
 cases hs : s.run P w with
 | halt x w' => rw [hs] at e; cases e
 | ok a w' =>
  rw [hs] at e
  obtain ⟨rfl, h2⟩ := h w a w' hs
  obtain ⟨h3, h4⟩ := k a _ _ _ e
  exact ⟨h3, fun w2 => by rw [Sem.run_bind, h2 w2]; exact h4 w2⟩
theorem Rd.bind {s : Sem α} {f : α → Sem β} (h : Rd P s) (k : ∀ a, Rd P (f a)) : Rd P (s >>= f) := fun w r w1 e => by
 rw [Sem.run_bind] at e
 cases hs : s.run P w with
 | halt x w' => rw [hs] at e; cases e
 | ok a w' =>
  rw [hs] at e
  have h1 := h w a w' hs
  subst h1
  exact k a _ _ _ e
theorem Zdw (t : TypeId) : Vp P (typeInfo t) := by
 unfold typeInfo
 refine Vp.program.bind fun p => ?_
 split
 ·exact .pure _
 ·exact .halt _
theorem ZaY (t : TypeId) : Vp P (underlying t) := by
 unfold underlying
 refine Vp.program.bind fun p => ?_
 split
 ·exact .pure _
 ·exact .halt _
theorem Za4 (t : TypeId) : Vp P (sizeOf t) := by unfold sizeOf; exact (Zdw t).bind fun _ => .pure _
theorem Zdg (t : TypeId) : Vp P (isAgg t) := by
 unfold isAgg
 refine (ZaY t).bind fun d => ?_
 split <;> exact .pure _
theorem ZxU (t : TypeId) (cs : Array Value) (o : Nat) : Vp P (part t cs o) := by
 unfold part
 refine (Zdg t).bind fun b => ?_
 cases b with
 | true => exact (Za4 t).bind fun _ => .pure _
 | false =>
  show Vp P (match cs[o]? with | some v => _ | none => _)
  split
  ·exact .pure _
  ·exact .halt _
theorem ZbS : ∀ (l : List FieldStep) (t : TypeId) (x : Option Value), Vp P (followBlind l t x)
 | [], t, x => .pure _
 | s :: rest, t, x => by
  unfold followBlind
  refine (ZaY _).bind fun d => ?_
  split
  ·split
   ·split
    ·exact .pure _
    ·exact ZbS rest _ _
    ·exact .halt _
    ·exact .pure _
    ·exact (ZxU _ _ _).bind fun _ => ZbS rest _ _
    ·exact .halt _
    ·exact ZbS rest _ _
   ·exact .halt _
  ·exact .halt _
theorem ZfC : ∀ (n : Nat) (t : TypeId) (v : Value) (s : String), Vp P (nilAhead n t v s)
 | 0, t, v, s => .pure _
 | n + 1, t, v, s => by
  unfold nilAhead
  refine (Zdw _).bind fun i => ?_
  split
  ·refine (ZbS _ _ _).bind fun r => ?_
   split
   ·exact .pure _
   ·split
    ·exact ZfC n _ _ _
    ·exact .pure _
    ·exact .halt _
    ·exact .pure _
    ·exact .pure _
    ·refine (ZaY _).bind fun d => ?_
     split <;> exact .pure _
  ·exact .halt _
def VV (P : Program) (s : Sem Next) : Prop := ∀ w r w1, s.run P w = .ok r w1 → ∃ v, r = .value v
theorem VV.val {s : Sem Value} : VV P (s >>= fun x => Pure.pure (Next.value x) : Sem Next) := fun w r w1 e => by
 rw [Sem.run_bind] at e
 cases hs : s.run P w with
 | halt x w' => rw [hs] at e; cases e
 | ok a w' => rw [hs] at e; cases e; exact ⟨a, rfl⟩
theorem Vp.val {s : Sem Value} (h : Vp P s) : Vp P (s >>= fun x => Pure.pure (Next.value x) : Sem Next) := h.bind fun _ => .pure _
theorem Rd.val {s : Sem Value} (h : Rd P s) : Rd P (s >>= fun x => Pure.pure (Next.value x) : Sem Next) := h.bind fun _ => (Vp.pure _).rd
end
theorem Zc6 {P : Program} (t : TypeId) : Vp P (zeroValue t) := by
 unfold zeroValue
 refine (Zdw t).bind fun i => ?_
 split
 ·exact .pure _
 ·exact .halt _
theorem Zqn {α β : Type} {P : Program} {f : α → Sem β} (h : ∀ x, Vp P (f x)) : ∀ l : List α, Vp P (l.mapM f)
 | [] => by rw [List.mapM_nil]; exact .pure _
 | x :: l => by rw [List.mapM_cons]; exact (h x).bind fun _ => (Zqn h l).bind fun _ => .pure _
theorem Zzn {α β : Type} {P : Program} {f : α → Sem β} (h : ∀ x, Vp P (f x)) (l : Array α) : Vp P (l.mapM f) := by
 rw [Array.mapM_eq_mapM_toList]
 exact (Zqn h _).bind fun _ => .pure _
theorem Zto {P : Program} (t : TypeId) (ps : Array (Nat × Value)) : Vp P (Instr.build t ps) := by
 unfold Instr.build
 refine (Zc6 t).bind fun z => (ZaY t).bind fun d => ?_
 split
 ·refine (Zzn (fun f => (Za4 _).bind fun _ => .pure _) _).bind fun pl => ?_
  split
  ·exact .pure _
  ·exact .halt _
 ·refine (Za4 _).bind fun n => ?_
  split
  ·exact .pure _
  ·exact .halt _
 ·exact .halt _
def Nv {α : Type} (P : Program) (s : Sem α) : Prop := ∀ w r w1, s.run P w ≠ .ok r w1
theorem Nv.vp {α : Type} {P : Program} {s : Sem α} (h : Nv P s) : Vp P s := fun w r w1 e => absurd e (h w r w1)
theorem Zil {α : Type} {P : Program} (k : IntKind) (x y : Int) (c : BoundsCode) : Nv P (boundsPanic k x y c : Sem α) := fun w r w1 e => by
 unfold boundsPanic at e
 dsimp only at e
 have h2 : ∀ (s : Bool) w r w1, (runtimePanic (.bounds (IntKind.i64.wrap x) y s c) : Sem α).run P w ≠ .ok r w1 := fun s w r w1 e => by
  unfold runtimePanic at e
  simp only [Sem.run_bind, run_program, Result.andThen_ok] at e
  repeat (first | (cases e; done) | split at e | (simp [goPanic, stuck, unsupported, Sem.run] at e; done))
 split at e
 all_goals
  rw [Sem.run_bind] at e
  generalize hs : Sem.run P _ w = q at e
  cases q with
  | halt x w' => cases e
  | ok a w' => exact h2 _ _ _ _ e
theorem ZBM {α : Type} {P : Program} : Nv P (runtimePanic .nilDeref : Sem α) := fun w r w1 e => by
 unfold runtimePanic at e
 simp only [Sem.run_bind, run_program, Result.andThen_ok] at e
 repeat (first | (cases e; done) | split at e | (simp [goPanic, stuck, unsupported, Sem.run] at e; done))
theorem Zgh {P : Program} (v : Value) : Vp P (asIntOf v) := by
 unfold asIntOf
 split
 ·exact .pure _
 ·exact .halt _
 ·exact .halt _
theorem Zo9 {P : Program} (v : Value) : Vp P (Instr.sureAddr v) := by
 unfold Instr.sureAddr
 split
 ·exact .pure _
 ·exact .halt _
theorem Zov {P : Program} (v : Value) : Vp P (asAddr v) := by
 unfold asAddr
 split
 ·exact .pure _
 ·first | exact ZBM.vp | exact .halt _
 ·exact .halt _
theorem ZhQ {P : Program} (x : Value) (y : Nat) (c : BoundsCode) : Vp P (Instr.sliceBound x y c) := by
 unfold Instr.sliceBound
 refine (Zgh _).bind fun p => ?_
 dsimp only
 split
 ·exact .pure _
 ·exact (Zil _ _ _ _).vp
theorem Zdq {P : Program} (b : Bool) (n m : Nat) (lo hi mx : Option Value) : Vp P (Instr.sliceBounds b n m lo hi mx) := by
 unfold Instr.sliceBounds
 dsimp only
 repeat' (first | exact Vp.pure _ | exact ZhQ _ _ _ | exact Vp.halt _ | refine Vp.bind ?_ fun _ => ?_ | split)
theorem Zss {P : Program} (t : TypeId) (x : Value) (lo hi mx : Option Value) : Vp P (Instr.slice t x lo hi mx) := by
 unfold Instr.slice
 dsimp only
 repeat' (first | exact Vp.pure _ | exact Zdq _ _ _ _ _ _ | exact ZaY _ | exact Za4 _ | exact Zov _ | exact Vp.halt _ | refine Vp.bind ?_ fun _ => ?_ | split)
theorem ZnR {P : Program} (t : TypeId) (x : Value) (lo hi mx : Option Value) : Vp P (Instr.sliceAt t x lo hi mx) := by
 unfold Instr.sliceAt
 repeat' (first | exact Vp.pure _ | exact Zdq _ _ _ _ _ _ | exact ZaY _ | exact Za4 _ | exact Zo9 _ | exact Zss _ _ _ _ _ | exact Vp.halt _ | refine Vp.bind ?_ fun _ => ?_ | split)
theorem Zm8 {P : Program} (t : TypeId) (x i : Value) : Vp P (Instr.indexAt t x i) := by
 unfold Instr.indexAt
 dsimp only
 repeat' (first | exact Vp.pure _ | exact Zgh _ | exact ZaY _ | exact Za4 _ | exact Zo9 _ | exact (Zil _ _ _ _).vp | exact Vp.halt _ | refine Vp.bind ?_ fun _ => ?_ | split)
theorem ZmF {P : Program} (v : Value) (i : Nat) : Vp P (Instr.extract v i) := by
 unfold Instr.extract
 split
 ·split
  ·exact .pure _
  ·exact .halt _
 ·exact .halt _
def ZI1 (P : Program) (c : Call) : Bool := match c.callee, c.args.toList, c.argTypes.toList with
 | .builtin .len, [_], [t] => (match P.underlying t with | some (.slice _) => true | some .string => true | _ => false)
 | _, _, _ => false
theorem ZDB {P : Program} {t : TypeId} {ty : TypeId} (x : Value) (h : (match P.underlying t with | some (.slice _) => true | some .string => true | _ => false) = true) : Vp P (Builtin.len_ #[t] ty #[x]) := by
 unfold Builtin.len_
 simp only [List.getElem?_toArray, List.getElem?_cons_zero]
 intro w r w1 e
 have hu : ∃ d, P.underlying t = some d ∧ ((∃ q, d = .slice q) ∨ d = .string) := by
  split at h
  ·rename_i q hq; exact ⟨_, hq, .inl ⟨q, rfl⟩⟩
  ·rename_i hq; exact ⟨_, hq, .inr rfl⟩
  ·cases h
 obtain ⟨d, hu, hd⟩ := hu
 simp only [Sem.run_bind, run_underlying hu, Result.andThen_ok] at e ⊢
 rcases hd with ⟨q, rfl⟩ | rfl
 ·cases x <;> first | (cases e; exact ⟨rfl, fun _ => rfl⟩) | (cases e; done)
 ·cases x <;> first | (cases e; exact ⟨rfl, fun _ => rfl⟩) | (cases e; done)
def vpO (P : Program) (o : Oper) : Bool := match o.op with
 | .build _ _ => true
 | .extract _ _ => true
 | .indexAddr _ _ _ => true
 | .slice _ _ _ _ _ => true
 | .makeFunc _ _ _ => true
 | .call c => ZI1 P c
 | .move _ => true
 | .assign _ => true
 | .nilCheck _ => true
 | .fieldAddr t _ i => (match P.underlying t with | some (.struct fs) => (match fs[i]? with | some f => !(Nat.beq (P.cellsOf f.type) 0) | none => false) | _ => false)
 | _ => false
def rdO (P : Program) (o : Oper) : Bool := vpO P o || match o.op with | .load _ _ => true | _ => false
section
variable {P : Program} {ρ : Operand → Value} {o : Oper}
theorem Zer (h : vpO P o = true) : Vp P (execOp ρ o) ∧ VV P (execOp ρ o) := by
 obtain ⟨dst, op, type, pos, after, guard⟩ := o
 cases op <;> simp only [vpO] at h <;> first | (cases h; done) | skip
 case move x => exact ⟨.pure _, fun w r w1 e => by cases e; exact ⟨_, rfl⟩⟩
 case assign x => exact ⟨.pure _, fun w r w1 e => by cases e; exact ⟨_, rfl⟩⟩
 case build t ps => exact ⟨(Zto _ _).val, VV.val⟩
 case makeFunc f a b => exact ⟨(Vp.pure _).val, VV.val⟩
 case extract x i => exact ⟨(ZmF _ _).val, VV.val⟩
 case indexAddr t x i => exact ⟨(Zm8 _ _ _).val, VV.val⟩
 case slice t x a b c => exact ⟨(ZnR _ _ _ _ _).val, VV.val⟩
 case call c =>
  unfold ZI1 at h
  split at h
  ·rename_i x t hc ha ht
   obtain ⟨cal, az, ts⟩ := c
   simp only at hc ha ht
   subst hc
   have e1 : az = #[x] := Array.ext' (by simpa using ha)
   have e2 : ts = #[t] := Array.ext' (by simpa using ht)
   subst e1; subst e2
   have : execOp ρ ⟨dst, .call ⟨.builtin .len, #[x], #[t]⟩, type, pos, after, guard⟩ = (Builtin.len_ #[t] type #[ρ x] >>= fun v => (Pure.pure (Next.value v) : Sem Next)) := by
    simp [execOp, resolve, invoke, Go.builtin]
   rw [this]
   exact ⟨(ZDB _ h).val, VV.val⟩
  ·cases h
 case nilCheck x =>
  have hp : ∀ v : Value, Vp P (pure (.value v) : Sem Next) ∧ VV P (pure (.value v) : Sem Next) := fun v => ⟨.pure _, fun w r w1 e => by cases e; exact ⟨_, rfl⟩⟩
  have hr : Vp P (runtimePanic .nilDeref : Sem Next) ∧ VV P (runtimePanic .nilDeref : Sem Next) := by
   have : ∀ w r w1, (runtimePanic .nilDeref : Sem Next).run P w ≠ .ok r w1 := fun w r w1 e => by
    unfold runtimePanic at e
    simp only [Sem.run_bind, run_program, Result.andThen_ok] at e
    repeat (first | (cases e; done) | split at e | (simp [goPanic, stuck, unsupported, Sem.run] at e; done))
   exact ⟨fun w r w1 e => absurd e (this w r w1), fun w r w1 e => absurd e (this w r w1)⟩
  show Vp P (execOp ρ _) ∧ _
  simp only [execOp]
  split
  ·exact hr
  ·exact hr
  ·exact hr
  ·split
   ·exact hr
   ·refine ⟨Vp.program.bind fun p => (ZfC _ _ _ _).bind fun b => ?_, fun w r w1 e => ?_⟩
    ·split
     ·exact .halt _
     ·exact .pure _
    ·simp only [Sem.run_bind, run_program, Result.andThen_ok] at e
     cases hs : (nilAhead _ _ _ _).run P w with
     | halt x w' => rw [hs] at e; cases e
     | ok a w' =>
      rw [hs] at e
      simp only [Result.andThen_ok] at e
      split at e
      ·cases e
      ·cases e; exact ⟨_, rfl⟩
   ·exact hp _
  ·exact hp _
 case fieldAddr t x i =>
  refine ⟨Vp.val ?_, VV.val⟩
  unfold Instr.fieldAt
  intro w r w1 e
  split at h
  ·rename_i fs hu
   split at h
   ·rename_i f hf
    have hz : P.cellsOf f.type ≠ 0 := fun h0 => by rw [h0] at h; cases h
    have run : ∀ (ad : Addr) (w : World), (Instr.fieldAt t (.pointer (some ad)) i).run P w = .ok (.pointer (some (ad.add f.offset))) w := fun ad w => by
     simp [Instr.fieldAt, run_underlying hu, hf, Instr.sureAddr, fieldPlace, Zbk hz, hz]
    have bad : ∀ v : Value, (∀ ad, v ≠ .pointer (some ad)) → (Instr.fieldAt t v i).run P w ≠ .ok r w1 := fun v hv e => by
     have hs : Instr.sureAddr v = .halt (.stuck "an address expected (no nilCheck in front?)") := by
      unfold Instr.sureAddr
      split
      ·rename_i a; exact absurd rfl (hv a)
      ·rfl
     simp only [Instr.fieldAt, Sem.run_bind, run_underlying hu, Result.andThen_ok, hf, hs] at e
     cases e
    change (Instr.fieldAt t (ρ x) i).run P w = .ok r w1 at e
    show w1 = w ∧ ∀ w2, (Instr.fieldAt t (ρ x) i).run P w2 = .ok r w2
    generalize ρ x = v at e ⊢
    by_cases hv : ∃ ad, v = .pointer (some ad)
    ·obtain ⟨ad, rfl⟩ := hv
     rw [run] at e
     cases e
     exact ⟨rfl, fun w2 => run ad w2⟩
    ·exact absurd e (bad v fun ad h => hv ⟨ad, h⟩)
   ·cases h
  ·cases h
theorem Zg7 (a : Addr) : Rd P (load a) := fun w r w1 e => by
 unfold load at e
 simp only [Sem.run] at e
 split at e
 ·cases e; rfl
 ·split at e
  ·cases e; rfl
  ·cases e
theorem Zcl (a : Addr) : ∀ (n i : Nat) (acc : Array Value), Rd P (loadCellsFrom a i n acc)
 | 0, i, acc => (Vp.pure _).rd
 | n + 1, i, acc => by unfold loadCellsFrom; exact (Zg7 _).bind fun v => Zcl a n (i + 1) _
theorem Zeo (t : TypeId) (a : Addr) : Rd P (loadVar t a) := by
 unfold loadVar
 refine (Zdg t).rd.bind fun b => ?_
 cases b with
 | true => exact (Za4 t).rd.bind fun n => (Zcl a n 0 _).bind fun _ => (Vp.pure _).rd
 | false => exact Zg7 a
theorem ZdB (h : rdO P o = true) : Rd P (execOp ρ o) ∧ VV P (execOp ρ o) := by
 unfold rdO at h
 rw [Bool.or_eq_true] at h
 rcases h with h | h
 ·obtain ⟨h1, h2⟩ := Zer (ρ := ρ) h
  exact ⟨h1.rd, h2⟩
 ·obtain ⟨dst, op, type, pos, after, guard⟩ := o
  cases op <;> simp only at h <;> first | (cases h; done) | skip
  refine ⟨Rd.val ?_, VV.val⟩
  unfold Instr.loadAt
  refine Rd.bind ?_ fun a => Zeo _ _
  unfold Instr.sureAddr
  split
  ·exact (Vp.pure _).rd
  ·exact (Vp.halt _).rd
def ZoB (w w1 : World) : Prop := ∀ (k : Nat) (o : Obj), w.heap[k]? = some o → w1.heap[k]? = some o
theorem ZoB.refl (w : World) : ZoB w w := fun _ _ h => h
theorem ZoB.cell {w w1 : World} {a : Addr} {v : Value} (h : ZoB w w1) (hc : w.cell? a = some v) : w1.cell? a = some v := by
 unfold World.cell? at hc ⊢
 cases hb : w.heap[a.block]? with
 | none => rw [hb] at hc; cases hc
 | some o => rw [hb] at hc; rw [h _ _ hb]; exact hc
theorem ZoB.seen {w w1 : World} {p : Program} {at_ : Addr} {u : TypeId} {k : Addr} {b : Bool} (h : ZoB w w1) {r} (hc : w.seen p at_ u k b = .ok r) : w1.seen p at_ u k b = .ok r := by
 cases hb : w.heap[at_.block]? with
 | none =>
  exfalso
  unfold World.seen at hc
  rw [hb] at hc
  have T : ∀ (α : Type) (e : String), (MonadExcept.throw e : Except String α) = .error e := fun _ _ => rfl
  simp only [bind, Except.bind, pure, Except.pure, throw, throwThe, T] at hc
  repeat (first | (cases hc; done) | split at hc)
  all_goals (simp_all)
  all_goals (repeat (first | cases hc | split at hc))
 | some o =>
  unfold World.seen at hc ⊢
  rw [h _ _ hb]
  rw [hb] at hc
  exact hc
theorem ZoB.far {w w1 : World} {p : Program} {a : Addr} {b : Bool} (h : ZoB w w1) {r} (hc : w.farLoad p a b = .ok r) : w1.farLoad p a b = .ok r := by
 unfold World.farLoad at hc ⊢
 cases hb : w.heap[a.block]? with
 | none => rw [hb] at hc; cases hc
 | some o =>
  rw [hb] at hc
  rw [h _ _ hb]
  cases o <;> simp only at hc ⊢ <;> first | (cases hc; done) | skip
  rename_i at_ u
  cases hv : w.viewLoad p at_ u a b with
  | error e => rw [hv] at hc; cases hc
  | ok q =>
   rw [hv] at hc
   have : w1.viewLoad p at_ u a b = .ok q := by
    unfold World.viewLoad at hv ⊢
    cases hs : w.seen p at_ u a b with
    | error e => rw [hs] at hv; cases hv
    | ok z => rw [hs] at hv; rw [h.seen hs]; exact hv
   rw [this]
   exact hc
variable {α β : Type}
def Sta (P : Program) (s : Sem α) : Prop := ∀ w r w1 w2, s.run P w = .ok r w1 → ZoB w w2 → s.run P w2 = .ok r w2
theorem Vp.sta {s : Sem α} (h : Vp P s) : Sta P s := fun w r w1 w2 e _ => (h w r w1 e).2 w2
theorem Sta.bind {s : Sem α} {f : α → Sem β} (hr : Rd P s) (h : Sta P s) (k : ∀ a, Sta P (f a)) : Sta P (s >>= f) := fun w r w1 w2 e hx => by
 rw [Sem.run_bind] at e ⊢
 cases hs : s.run P w with
 | halt x w' => rw [hs] at e; cases e
 | ok a w' =>
  rw [hs] at e
  have h1 := hr w a w' hs
  subst h1
  rw [h _ _ _ _ hs hx]
  exact k a _ _ _ _ e hx
theorem Zk3 (a : Addr) : Sta P (load a) := fun w r w1 w2 e hx => by
 unfold load at e ⊢
 simp only [Sem.run] at e ⊢
 cases hc : w.cell? a with
 | some v => rw [hc] at e; rw [hx.cell hc]; cases e; rfl
 | none =>
  rw [hc] at e
  cases hf : w.farLoad P a (Mode.plain == Mode.atomic) with
  | error x => rw [hf] at e; cases e
  | ok q =>
   have e2 : w2.cell? a = none := by
    unfold World.farLoad at hf
    unfold World.cell?
    cases hb : w.heap[a.block]? with
    | none => rw [hb] at hf; cases hf
    | some o =>
     rw [hb] at hf
     rw [hx _ _ hb]
     cases o <;> first | rfl | (cases hf; done)
   rw [hf] at e
   rw [e2, hx.far hf]
   cases e
   rfl
theorem Zea (a : Addr) : ∀ (n i : Nat) (acc : Array Value), Sta P (loadCellsFrom a i n acc)
 | 0, i, acc => (Vp.pure _).sta
 | n + 1, i, acc => by unfold loadCellsFrom; exact .bind (Zg7 _) (Zk3 _) fun v => Zea a n (i + 1) _
theorem ZjD (t : TypeId) (a : Addr) : Sta P (loadVar t a) := by
 unfold loadVar
 refine .bind (Zdg t).rd (Zdg t).sta fun b => ?_
 cases b with
 | true => exact .bind (Za4 t).rd (Za4 t).sta fun n => .bind (Zcl a n 0 _) (Zea a n 0 _) fun _ => (Vp.pure _).sta
 | false => exact Zk3 a
theorem Zhv (h : rdO P o = true) : Sta P (execOp ρ o) := by
 unfold rdO at h
 rw [Bool.or_eq_true] at h
 rcases h with h | h
 ·exact (Zer (ρ := ρ) h).1.sta
 ·obtain ⟨dst, op, type, pos, after, guard⟩ := o
  cases op <;> simp only at h <;> first | (cases h; done) | skip
  have hs : ∀ v : Value, Rd P (Instr.sureAddr v) ∧ Sta P (Instr.sureAddr v) := fun v => by
   unfold Instr.sureAddr
   split
   ·exact ⟨(Vp.pure _).rd, (Vp.pure _).sta⟩
   ·exact ⟨(Vp.halt _).rd, (Vp.halt _).sta⟩
  refine Sta.bind (s := Instr.loadAt _ _) (Rd.bind (hs _).1 fun a => Zeo _ _) (.bind (hs _).1 (hs _).2 fun a => ZjD _ _) fun _ => (Vp.pure _).sta
def grO (o : Oper) : Bool := match o.op with | .buildSlice _ _ _ => true | .alloc _ => true | _ => false
theorem ZqY {w : World} {o : Obj} : ZoB w { w with heap := w.heap.push o } := fun k o' h => by
 show (w.heap.push o)[k]? = some o'
 rw [Array.getElem?_push]
 split
 ·rename_i e; subst e; simp at h
 ·exact h
def Gr (P : Program) (s : Sem α) : Prop := ∀ w r w1, s.run P w = .ok r w1 → ZoB w w1
theorem Rd.gr {s : Sem α} (h : Rd P s) : Gr P s := fun w r w1 e => by rw [h w r w1 e]; exact .refl _
theorem Gr.bind {s : Sem α} {f : α → Sem β} (h : Gr P s) (k : ∀ a, Gr P (f a)) : Gr P (s >>= f) := fun w r w1 e => by
 rw [Sem.run_bind] at e
 cases hs : s.run P w with
 | halt x w' => rw [hs] at e; cases e
 | ok a w' =>
  rw [hs] at e
  exact fun q o hq => k a _ _ _ e _ _ (h _ _ _ hs _ _ hq)
theorem Zfl (t : TypeId) (cs : Array Value) : Gr P (newRow t cs) := fun w r w1 e => by
 unfold newRow newObj at e
 cases e
 exact ZqY
theorem ZgN (t : TypeId) (n : Nat) (ps : Array (Nat × Value)) : Gr P (Instr.buildSlice t n ps) := by
 unfold Instr.buildSlice
 refine (ZaY t).rd.gr.bind fun d => ?_
 split
 ·refine (Za4 _).rd.gr.bind fun size => ?_
  by_cases h1 : n * size > 2 ^ 24
  ·rw [if_pos h1]
   intro w r w1 e
   cases e
  ·rw [if_neg h1]
   by_cases h2 : n * size = 0
   ·rw [if_pos h2]
    refine Gr.bind (s := Pure.pure _) (Vp.pure _).rd.gr fun z => ?_
    dsimp only
    split
    ·exact (Zfl _ _).bind fun _ => (Vp.pure _).rd.gr
    ·exact (Vp.halt _).rd.gr
   ·rw [if_neg h2]
    refine (Zc6 _).rd.gr.bind fun z => Gr.bind (s := Pure.pure _) (Vp.pure _).rd.gr fun z => ?_
    dsimp only
    split
    ·exact (Zfl _ _).bind fun _ => (Vp.pure _).rd.gr
    ·exact (Vp.halt _).rd.gr
 ·exact (Vp.halt _).rd.gr
theorem ZyE (h : grO o = true) : Gr P (execOp ρ o) ∧ VV P (execOp ρ o) := by
 obtain ⟨dst, op, type, pos, after, guard⟩ := o
 cases op <;> simp only [grO] at h <;> first | (cases h; done) | skip
 case buildSlice => exact ⟨(ZgN _ _ _).bind fun _ => (Vp.pure _).rd.gr, VV.val⟩
 case alloc t => exact ⟨Gr.bind (s := Instr.alloc _ _ _) ((Zc6 _).rd.gr.bind fun z => Gr.bind (s := newVar _ _) (Zfl _ _ |>.bind fun _ => (Vp.pure _).rd.gr) fun _ => (Vp.pure _).rd.gr) fun _ => (Vp.pure _).rd.gr, VV.val⟩
theorem ZgV (h : (rdO P o || grO o) = true) : Gr P (execOp ρ o) ∧ VV P (execOp ρ o) := by
 rw [Bool.or_eq_true] at h
 rcases h with h | h
 ·exact ⟨(ZdB h).1.gr, (ZdB h).2⟩
 ·exact ZyE h
end
inductive Waits (ops : Array Oper) : Nat → Nat → Prop
 | one {j i : Nat} {oj : Oper} {e : Edge} (hj : ops[j]? = some oj) (he : e ∈ oj.after) (hb : Region.binds .any e = true) (hi : e.on = i) : Waits ops j i
 | more {j m i : Nat} {oj : Oper} {e : Edge} (hj : ops[j]? = some oj) (he : e ∈ oj.after) (hb : Region.binds .any e = true) (hm : e.on = m) (h : Waits ops m i) : Waits ops j i
def Zi0 (L : List Oper) (i : Nat) : Nat → Nat → Bool
 | 0, _ => false
 | fu + 1, j => match nth L j with | some oj => oj.after.toList.any fun e => Region.binds .any e && (Nat.beq e.on i || Zi0 L i fu e.on) | none => false
theorem ZdG {L : List Oper} {i : Nat} : ∀ (fu j : Nat), Zi0 L i fu j = true → Waits L.toArray j i
 | 0, j, h => by cases h
 | fu + 1, j, h => by
  unfold Zi0 at h
  rw [Zbh] at h
  split at h
  ·rename_i oj ho
   obtain ⟨e, he, h⟩ := List.any_eq_true.1 h
   rw [Bool.and_eq_true, Bool.or_eq_true] at h
   have hj : L.toArray[j]? = some oj := by simpa using ho
   rcases h.2 with h2 | h2
   ·exact .one hj (by simpa using he) h.1 (Nat.eq_of_beq_eq_true h2)
   ·exact .more hj (by simpa using he) h.1 rfl (ZdG fu _ h2)
  ·cases h
def DC (ops : Array Oper) (listed : Array Bool) : Prop := ∀ (m : Nat) (om : Oper), ops[m]? = some om → listed.getD m false = true → ∀ e ∈ om.after, Region.binds .any e = true → listed.getD e.on false = true
theorem DC.waits {ops : Array Oper} {listed : Array Bool} (h : DC ops listed) {j i : Nat} (hw : Waits ops j i) : listed.getD j false = true → listed.getD i false = true := by
 induction hw with
 | one hj he hb hi => intro hl; rw [← hi]; exact h _ _ hj hl _ he hb
 | more hj he hb hm _ ih => intro hl; exact ih (by rw [← hm]; exact h _ _ hj hl _ he hb)
theorem ZwC {listed : Array Bool} {i : Nat} (h : listed.getD i true = false) : listed.getD i false = false := by
 rcases Nat.lt_or_ge i listed.size with h' | h'
 ·simp [h'] at h ⊢; exact h
 ·simp [Array.getElem?_eq_none h'] at h
theorem DC.ready {ops : Array Oper} {listed : Array Bool} (h : DC ops listed) {j : Nat} (hj : j ∈ Region.ready .any ops listed) : DC ops (listed.setIfInBounds j true) := by
 obtain ⟨h0, oj, hoj, hall⟩ := mem_ready.1 hj
 intro m om hm hl e he hb
 by_cases hmj : j = m
 ·subst hmj
  rw [hoj] at hm
  cases hm
  exact getD_set_true (hall e he hb)
 ·rw [getD_set_ne false hmj] at hl
  exact getD_set_true (h m om hm hl e he hb)
theorem DC.nowait {ops : Array Oper} {listed : Array Bool} (h : DC ops listed) {j i : Nat} (hj : j ∈ Region.ready .any ops listed) (hi : listed.getD i true = false) : ¬ Waits ops j i := fun hw => by
 obtain ⟨h0, oj, hoj, hall⟩ := mem_ready.1 hj
 have hi := ZwC hi
 cases hw with
 | one hj' he hb he2 =>
  rw [hoj] at hj'
  cases hj'
  have := hall _ he hb
  rw [he2, hi] at this
  cases this
 | more hj' he hb hm hw' =>
  rw [hoj] at hj'
  cases hj'
  have := h.waits hw' (by rw [← hm]; exact hall _ he hb)
  rw [hi] at this
  cases this
section
variable {P : Program} {ops : Array Oper} {Q : Exit → Act → World → Prop}
theorem Zng {i : Nat} {oi : Oper} {v : Value} (hi : ops[i]? = some oi) (hro : rdO P oi = true) (hu : ∀ (j : Nat) (o : Oper), ops[j]? = some o → o.guard = none) (hsel : ∀ (j : Nat) (o : Oper) cs b, ops[j]? = some o → o.op ≠ .select cs b)
  (hQ : ∀ c a w, ¬ Q (.panic c) a w) (hO : ¬ LetsOut Q) : ∀ (fuel : Nat) (listed : Array Bool) (a : Act) (w : World), DC ops listed →
   (∀ j oj, ops[j]? = some oj → j ≠ i → listed.getD j true = false → ¬ Waits ops j i → oi.apart ops oj = true ∧ (rdO P oj || grO oj) = true) →
   i ∈ Region.ready .any ops listed → (execOp a.eval oi).run P w = .ok (.value v) w →
   wpAny P .any ops Q fuel (listed.setIfInBounds i true) (a.put oi.dst v) w → wpAny P .any ops Q (fuel + 1) listed a w := by
 have self : ∀ {a : Act} {w : World} {K : Act → World → Prop}, (execOp a.eval oi).run P w = .ok (.value v) w → K (a.put oi.dst v) w → wpOp P ops Q i K a w := fun hy h => by
  unfold wpOp
  simp only [hi]
  rw [if_pos (by simp [Region.wanted, hu i oi hi])]
  left
  unfold Oper.wp
  rw [hy]
  exact h
 intro fuel
 induction fuel with
 | zero =>
  intro listed a w _ _ hr hy H
  refine ⟨fun h => (by rw [h] at hr; cases hr), fun j hj => ?_⟩
  by_cases hji : j = i
  ·subst hji; exact self hy H
  ·have := ready_mono hj hji
   rw [H.1] at this
   cases this
 | succ fuel ih =>
  intro listed a w hD hF hr hy H
  refine ⟨fun h => (by rw [h] at hr; cases hr), fun j hj => ?_⟩
  by_cases hji : j = i
  ·subst hji; exact self hy H
  ·have h1 := H.2 j (ready_mono hj hji)
   obtain ⟨hjun, oj, hoj, hall⟩ := mem_ready.1 hj
   have hiun := (mem_ready.1 hr).1
   obtain ⟨hap, hrd⟩ := hF j oj hoj hji hjun (hD.nowait hj hiun)
   obtain ⟨p1, p2, p3⟩ := Oper.apart_spec hap
   obtain ⟨q1, q2⟩ := ZgV (P := P) (ρ := a.eval) hrd
   unfold wpOp at h1 ⊢
   simp only [hoj] at h1 ⊢
   have hwt : ∀ y, Region.wanted oj y = true := fun y => by simp [Region.wanted, hu j oj hoj]
   rw [if_pos (hwt _)] at h1 ⊢
   rcases h1 with h1 | ⟨_, h1⟩
   case inr => exact absurd h1 hO
   left
   unfold Oper.wp at h1 ⊢
   rw [execOp_put oj (fun cs b => hsel j oj cs b hoj) a oi.dst v p1] at h1
   cases hrun : (execOp a.eval oj).run P w with
   | halt x w' =>
    rw [hrun] at h1
    cases x <;> simp only [Oper.upon] at h1
    exact absurd h1 (hQ _ _ _)
   | ok n w' =>
    have hw' := q1 _ _ _ hrun
    obtain ⟨u, rfl⟩ := q2 _ _ _ hrun
    rw [hrun] at h1
    simp only [Oper.upon] at h1 ⊢
    refine ih (listed.setIfInBounds j true) (a.put oj.dst u) w' (hD.ready hj) (fun k ok hk hki hun hno => ?_) (ready_mono hr (Ne.symm hji)) ?_ ?_
    ·refine hF k ok hk hki ?_ hno
     by_cases hjk : j = k
     ·subst hjk; exact hjun
     ·rw [getD_set_ne true hjk] at hun; exact hun
    ·rw [execOp_put oi (fun cs b => hsel i oi cs b hi) a oj.dst u p3]; exact Zhv hro _ _ _ _ hy hw'
    ·rw [Array.setIfInBounds_comm _ _ hji, ← Act.put_comm a v u p2]; exact h1
end
def ZEE (P : Program) (L : List Oper) (listed : List Nat) (i : Nat) (oi : Oper) : Nat → List Oper → Bool
 | _, [] => true
 | j, oj :: r => (listed.any (Nat.beq j) || Nat.beq j i || Zi0 L i L.length j || (oi.apart L.toArray oj && (vpO P oi || (rdO P oi && (rdO P oj || grO oj))))) && ZEE P L listed i oi (j + 1) r
def ZfT (P : Program) (L : List Oper) : List Nat → List Nat → Bool
 | listed, [] => (List.range L.length).all fun j => listed.any (Nat.beq j)
 | listed, i :: rest => (match nth L i with
  | some oi => !(listed.any (Nat.beq i)) && oi.after.toList.all (fun e => !Region.binds .any e || listed.any (Nat.beq e.on)) && (match vpO P oi with | true => chkV P L listed i oi 0 L | false => ZEE P L listed i oi 0 L)
  | none => false) && ZfT P L (i :: listed) rest
where chkV (P : Program) (L : List Oper) (listed : List Nat) (i : Nat) (oi : Oper) : Nat → List Oper → Bool
 | _, [] => true
 | j, oj :: r => (listed.any (Nat.beq j) || Nat.beq j i || oj.after.toList.any (fun e => Region.binds .any e && Nat.beq e.on i) || oi.apart L.toArray oj) && chkV P L listed i oi (j + 1) r
theorem ZbJ {l : List Nat} {j : Nat} : l.any (Nat.beq j) = true ↔ j ∈ l := by
 rw [List.any_eq_true]
 exact ⟨fun ⟨x, hx, h⟩ => Nat.eq_of_beq_eq_true h ▸ hx, fun h => ⟨j, h, Nat.beq_refl j⟩⟩
theorem Zjk {P : Program} {L : List Oper} {listed : List Nat} {i : Nat} {oi : Oper} : ∀ {r : List Oper} {j0 k : Nat} {oj : Oper}, ZEE P L listed i oi j0 r = true → r[k]? = some oj →
  (j0 + k) ∈ listed ∨ j0 + k = i ∨ Waits L.toArray (j0 + k) i ∨ (oi.apart L.toArray oj = true ∧ (vpO P oi = true ∨ rdO P oi = true ∧ (rdO P oj || grO oj) = true))
 | [], j0, k, oj, _, h => by simp at h
 | q :: r, j0, k, oj, hc, h => by
  unfold ZEE at hc
  rw [Bool.and_eq_true] at hc
  cases k with
  | zero =>
   simp only [List.getElem?_cons_zero, Option.some.injEq] at h
   subst h
   have h1 := hc.1
   simp only [Bool.or_eq_true, Bool.and_eq_true] at h1
   rcases h1 with ((h1 | h1) | h1) | h1
   ·exact .inl (ZbJ.1 h1)
   ·exact .inr (.inl (Nat.eq_of_beq_eq_true h1))
   ·exact .inr (.inr (.inl (ZdG _ _ h1)))
   ·exact .inr (.inr (.inr ⟨h1.1, by simpa only [Bool.or_eq_true] using h1.2⟩))
  | succ k =>
   have := Zjk (k := k) hc.2 (by simpa using h)
   rwa [show j0 + 1 + k = j0 + (k + 1) from by omega] at this
theorem Zg6 {P : Program} {L : List Oper} {listed : List Nat} {i : Nat} {oi : Oper} : ∀ {r : List Oper} {j0 k : Nat} {oj : Oper}, ZfT.chkV P L listed i oi j0 r = true → r[k]? = some oj →
  (j0 + k) ∈ listed ∨ j0 + k = i ∨ (∃ e ∈ oj.after, Region.binds .any e = true ∧ e.on = i) ∨ oi.apart L.toArray oj = true
 | [], j0, k, oj, _, h => by simp at h
 | q :: r, j0, k, oj, hc, h => by
  unfold ZfT.chkV at hc
  rw [Bool.and_eq_true] at hc
  cases k with
  | zero =>
   simp only [List.getElem?_cons_zero, Option.some.injEq] at h
   subst h
   have h1 := hc.1
   simp only [Bool.or_eq_true] at h1
   rcases h1 with ((h1 | h1) | h1) | h1
   ·exact .inl (ZbJ.1 h1)
   ·exact .inr (.inl (Nat.eq_of_beq_eq_true h1))
   ·obtain ⟨e, he, h2⟩ := List.any_eq_true.1 h1
    rw [Bool.and_eq_true] at h2
    exact .inr (.inr (.inl ⟨e, by simpa using he, h2.1, Nat.eq_of_beq_eq_true h2.2⟩))
   ·exact .inr (.inr (.inr h1))
  | succ k =>
   have := Zg6 (k := k) hc.2 (by simpa using h)
   rwa [show j0 + 1 + k = j0 + (k + 1) from by omega] at this
section
variable {P : Program} {Q : Exit → Act → World → Prop} {L : List Oper}
theorem Zii {A : Array Oper} (hu : ∀ (j : Nat) (o : Oper), L.toArray[j]? = some o → o.guard = none) (hsel : ∀ (j : Nat) (o : Oper) cs b, L.toArray[j]? = some o → o.op ≠ .select cs b) (hQ : ∀ c a w, ¬ Q (.panic c) a w) (hO : ¬ LetsOut Q) :
  ∀ (π listed : List Nat) (la : Array Bool) (a : Act) (w : World), la.size = L.length → (∀ j, j < L.length → (la.getD j true = true ↔ j ∈ listed)) → (∀ x ∈ listed, x < L.length) → DC L.toArray la → ZfT P L listed π = true →
   wpList P A Q (π.filterMap (nth L)) a w → wpAny P .any L.toArray Q π.length la a w
 | [], listed, la, a, w, hs, hl, hlt, hD, hc, h => by
  unfold ZfT at hc
  rw [List.all_eq_true] at hc
  refine ⟨?_, h⟩
  cases hr : Region.ready .any L.toArray la with
  | nil => rfl
  | cons x xs =>
   have hx : x ∈ Region.ready .any L.toArray la := by rw [hr]; exact List.mem_cons_self ..
   obtain ⟨h0, o, ho, _⟩ := mem_ready.1 hx
   have hlt : x < L.length := by have := (Array.getElem?_eq_some_iff.1 ho).1; simpa using this
   have := (hl x hlt).2 (ZbJ.1 (hc x (List.mem_range.2 hlt)))
   rw [h0] at this
   cases this
 | i :: rest, listed, la, a, w, hs, hl, hlt, hD, hc, h => by
  unfold ZfT at hc
  rw [Zbh] at hc
  cases hi : L[i]? with
  | none => rw [hi] at hc; simp at hc
  | some oi =>
   rw [hi] at hc
   simp only [Bool.and_eq_true, Bool.not_eq_true'] at hc
   obtain ⟨⟨⟨c1, c2⟩, c3⟩, c4⟩ := hc
   have hiL : i < L.length := (List.getElem?_eq_some_iff.1 hi).1
   have hiA : L.toArray[i]? = some oi := by simpa using hi
   have hun : la.getD i true = false := by
    cases hb : la.getD i true with
    | false => rfl
    | true => have := ZbJ.2 ((hl i hiL).1 hb); rw [c1] at this; cases this
   have hr : i ∈ Region.ready .any L.toArray la := mem_ready.2 ⟨hun, oi, hiA, fun e he hb => by
    have h1 := List.all_eq_true.1 c2 e (by simpa using he)
    rw [hb] at h1
    simp only [Bool.not_true, Bool.false_or] at h1
    have hm := ZbJ.1 h1
    have h2 := hlt _ hm
    have h3 := (hl _ h2).2 hm
    simp only [Array.getD_eq_getD_getElem?] at h3 ⊢
    rw [Array.getElem?_eq_getElem (by omega)] at h3 ⊢
    simpa using h3⟩
   have hl' : ∀ j, j < L.length → ((la.setIfInBounds i true).getD j true = true ↔ j ∈ i :: listed) := fun j hj => by
    by_cases hji : i = j
    ·subst hji
     simp only [List.mem_cons, true_or, iff_true]
     simp [hs, hj]
    ·rw [getD_set_ne true hji, hl j hj, List.mem_cons]
     exact ⟨.inr, fun h => h.resolve_left (Ne.symm hji)⟩
   have hlt' : ∀ x ∈ i :: listed, x < L.length := fun x hx => by
    rcases List.mem_cons.1 hx with rfl | hx
    ·exact hiL
    ·exact hlt x hx
   have ih : ∀ a w, wpList P A Q (rest.filterMap (nth L)) a w → wpAny P .any L.toArray Q rest.length (la.setIfInBounds i true) a w := fun a w h =>
    Zii hu hsel hQ hO rest (i :: listed) _ a w (by simp [hs]) hl' hlt' (hD.ready hr) c4 h
   rw [List.filterMap_cons_some (by rw [Zbh]; exact hi)] at h
   unfold wpList at h
   rw [if_pos (by simp [Region.wanted, hu i oi hiA])] at h
   rcases h with h | ⟨_, h⟩
   case inr => exact absurd h hO
   have hli : ∀ j, j < L.length → la.getD j true = false → j ∉ listed := fun j hj hun hm => by
    have := (hl j hj).2 hm
    rw [hun] at this
    cases this
   show wpAny P .any L.toArray Q (rest.length + 1) la a w
   by_cases hv : vpO P oi = true
   ·rw [hv] at c3
    obtain ⟨v1, v2⟩ := Zer (P := P) (ρ := a.eval) hv
    have h2 := h
    unfold Oper.wp at h
    cases hrun : (execOp a.eval oi).run P w with
    | halt x w' =>
     rw [hrun] at h
     cases x <;> simp only [Oper.upon] at h
     exact absurd h (hQ _ _ _)
    | ok n w' =>
     obtain ⟨rfl, v3⟩ := v1 _ _ _ hrun
     obtain ⟨u, rfl⟩ := v2 _ _ _ hrun
     rw [hrun] at h
     simp only [Oper.upon] at h
     refine wpAny_first hiA hsel (fun c a w hq => absurd hq (hQ _ _ _)) rest.length la a w' (fun j oj hoj hji hjun hno => ?_) hr (.inl ⟨by simp [Region.wanted, hu i oi hiA], v3⟩) (ih _ _ h)
     have hjl : j < L.length := by have := (Array.getElem?_eq_some_iff.1 hoj).1; simpa using this
     have := Zg6 (k := j) c3 (by simpa using hoj)
     rw [Nat.zero_add] at this
     rcases this with h3 | h3 | ⟨e, he, hb, he2⟩ | h3
     ·exact absurd h3 (hli j hjl hjun)
     ·exact absurd h3 hji
     ·exact absurd he2 (hno e he hb)
     ·exact h3
   ·have hv' : vpO P oi = false := by cases hq : vpO P oi with | false => rfl | true => exact absurd hq hv
    rw [hv'] at c3
    have at_ : ∀ j oj, L.toArray[j]? = some oj → j ≠ i → la.getD j true = false → ¬ Waits L.toArray j i → oi.apart L.toArray oj = true ∧ rdO P oi = true ∧ (rdO P oj || grO oj) = true := fun j oj hoj hji hjun hno => by
     have hjl : j < L.length := by have := (Array.getElem?_eq_some_iff.1 hoj).1; simpa using this
     have := Zjk (k := j) c3 (by simpa using hoj)
     rw [Nat.zero_add] at this
     rcases this with h3 | h3 | h3 | ⟨h3, h4⟩
     ·exact absurd h3 (hli j hjl hjun)
     ·exact absurd h3 hji
     ·exact absurd h3 hno
     ·rcases h4 with h4 | h4
      ·exact absurd h4 hv
      ·exact ⟨h3, h4⟩
    by_cases hrd : rdO P oi = true
    ·obtain ⟨v1, v2⟩ := ZdB (P := P) (ρ := a.eval) hrd
     unfold Oper.wp at h
     cases hrun : (execOp a.eval oi).run P w with
     | halt x w' =>
      rw [hrun] at h
      cases x <;> simp only [Oper.upon] at h
      exact absurd h (hQ _ _ _)
     | ok n w' =>
      have e := v1 _ _ _ hrun
      subst e
      obtain ⟨u, rfl⟩ := v2 _ _ _ hrun
      rw [hrun] at h
      simp only [Oper.upon] at h
      exact Zng hiA hrd hu hsel hQ hO rest.length la a w' hD (fun j oj hoj hji hjun hno => ⟨(at_ j oj hoj hji hjun hno).1, (at_ j oj hoj hji hjun hno).2.2⟩) hr hrun (ih _ _ h)
    ·refine ⟨fun h0 => (by rw [h0] at hr; cases hr), fun j hj => ?_⟩
     have hji : j = i := by
      apply Classical.byContradiction
      intro hji
      obtain ⟨hjun, oj, hoj, _⟩ := mem_ready.1 hj
      exact hrd (at_ j oj hoj hji hjun (hD.nowait hj hun)).2.1
     subst hji
     unfold wpOp
     simp only [hiA]
     rw [if_pos (by simp [Region.wanted, hu j oi hiA])]
     exact .inl (Oper.wp_mono (fun a w h => ih a w h) h)
end
def ZGN (π : List Nat) : Code → Code
 | .region id ops _ => .region id (π.filterMap (nth ops.toList)).toArray false
 | c => c
def noG (o : Oper) : Bool := (match o.guard with | none => true | _ => false) && (match o.op with | .select _ _ => false | _ => true)
def ZIv (P : Program) (π : List Nat) : Code → Bool
 | .region _ ops true => ops.toList.all noG && Nat.beq π.length ops.toList.length && ZfT P ops.toList [] π
 | _ => false
theorem drw {P : Program} {n : Nat} {C : Cx} {τ : St} {Q : Exit → St → Prop} {c : Code} (hm : P.follows .mixedOrders = true) (π : List Nat) (h : LO P n C (ZGN π c) 0 τ (fun e τ' => match e with | .normal => Q .normal τ' | _ => False)) (hk : ZIv P π c = true := by kernel_rfl) : LW P n C c τ Q := by
 cases c with
 | region id ops dr =>
  cases dr with
  | false => cases hk
  | true =>
   obtain ⟨L, rfl⟩ : ∃ l : List Oper, ops = l.toArray := ⟨ops.toList, by simp⟩
   simp only [ZIv, Bool.and_eq_true] at hk
   obtain ⟨⟨k1, k2⟩, k3⟩ := hk
   intro γ σ hg hG a w hR
   have hR' : R C.l n C.B σ a { w with drawn := w.drawn + 1 } := by
    obtain ⟨s, H⟩ := σ
    obtain ⟨m, S, hO, hn, hdf, hS, hex⟩ := hR.un
    obtain ⟨h1, h2⟩ := hO.drew (w' := { w with drawn := w.drawn + 1 }) rfl rfl rfl rfl
    exact R.keep h1 hn hdf hS hex h2
   have h1 := h γ σ a _ hg hG hR'
   have hG1 : ∀ (j : Nat) (o : Oper), L.toArray[j]? = some o → noG o = true := fun j o ho => List.all_eq_true.1 k1 o (List.mem_of_getElem? (by simpa using ho))
   have hu : ∀ (j : Nat) (o : Oper), L.toArray[j]? = some o → o.guard = none := fun j o ho => by
    have := hG1 j o ho
    unfold noG at this
    rw [Bool.and_eq_true] at this
    cases hg : o.guard with
    | none => rfl
    | some _ => rw [hg] at this; simp at this
   have hsel : ∀ (j : Nat) (o : Oper) cs b, L.toArray[j]? = some o → o.op ≠ .select cs b := fun j o cs b ho he => by
    have := hG1 j o ho
    unfold noG at this
    rw [he, Bool.and_eq_true] at this
    simp at this
   have hw := Zii (P := P) (L := L) (A := (π.filterMap (nth L)).toArray) (Q := fun e a' w' => ∃ σ', Is n C (match e with | .normal => Q .normal | _ => fun _ => False) σ' ∧ R C.l n C.B σ' a' w') hu hsel
    (fun c a w ⟨σ', ⟨_, _, _, _, hf, _⟩, _⟩ => hf) (fun ⟨a, w, σ', ⟨_, _, _, _, hf, _⟩, _⟩ => hf) π [] (Array.replicate L.toArray.size false) a { w with drawn := w.drawn + 1 } (by simp) (fun j hj => by simp [hj]) (fun x hx => by cases hx)
    (fun m om hm hl => by
     have : (Array.replicate L.toArray.size false).getD m false = false := by
      simp only [Array.getD_eq_getD_getElem?, Array.getElem?_replicate]
      split <;> rfl
     rw [this] at hl
     cases hl) (by simpa using k3) (by
     have e : ∀ e : Exit, (fun τ' => match e with | .normal => Q .normal τ' | _ => False) = (match e with | .normal => Q .normal | _ => fun _ => False) := fun e => by cases e <;> rfl
     simp only [ZGN, Zb7, List.drop_zero] at h1
     simpa only [e] using h1)
   have hs : π.length = L.toArray.size := by simpa using Nat.eq_of_beq_eq_true k2
   rw [hs] at hw
   refine wp_mono (wp_region_any hm hw) fun e a' w' ⟨σ', h1, h2⟩ => ⟨σ', ?_, h2⟩
   cases e with
   | normal => exact h1
   | _ => obtain ⟨_, _, _, _, hf, _⟩ := h1; exact hf.elim
 | _ => cases hk
end Go.Eng
