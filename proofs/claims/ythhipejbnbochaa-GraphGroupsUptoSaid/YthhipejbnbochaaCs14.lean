import Derived.Test.YthhipejbnbochaaCs13
import Derived.Test.YthhipejbnbochaaCs12
import Derived.Test.YthhipejbnbochaaCs00
namespace Go.Eng
set_option linter.all false
open Go Go.RowKit
def pb : Value → Option Nat
  | .pointer (some a) => some a.block
  | _ => none
def Cel (w : World) (b : Nat) : Prop := ∃ C e f, w.heap[b]? = some (.cells C e f)
section
variable {P : Program} {α β : Type}
theorem Zmg {v : Value} {a : Addr} {w w1 : World} (h : (Instr.sureAddr v).run P w = .ok a w1) : v = .pointer (some a) ∧ w1 = w := by
  unfold Instr.sureAddr at h
  split at h
  · cases h; exact ⟨rfl, rfl⟩
  · cases h
def Lo (b : Nat) (P : Program) (s : Sem α) : Prop := ∀ w r w1 w2, s.run P w = .ok r w1 → Cel w b → w2.heap[b]? = w.heap[b]? → s.run P w2 = .ok r w2
theorem Vp.lo {b : Nat} {s : Sem α} (h : Vp P s) : Lo b P s := fun w r w1 w2 e _ _ => (h w r w1 e).2 w2
theorem Lo.bind {b : Nat} {s : Sem α} {f : α → Sem β} (hr : Rd P s) (h : Lo b P s) (k : ∀ a, Lo b P (f a)) : Lo b P (s >>= f) := fun w r w1 w2 e h1 h2 => by
  rw [Sem.run_bind] at e ⊢
  cases hs : s.run P w with
  | halt x w' => rw [hs] at e; cases e
  | ok a w' =>
    rw [hs] at e
    have := hr w a w' hs
    subst this
    rw [h _ _ _ _ hs h1 h2]
    exact k a _ _ _ _ e h1 h2
theorem ZmK (a : Addr) : Lo a.block P (load a) := fun w r w1 w2 e ⟨C, t, f, hC⟩ h2 => by
  unfold load at e ⊢
  simp only [Sem.run] at e ⊢
  have hc : w2.cell? a = w.cell? a := World.cell?_of_block h2
  rw [hc]
  cases hv : w.cell? a with
  | some v => rw [hv] at e; cases e; rfl
  | none =>
    rw [hv] at e
    have : w.farLoad P a (Mode.plain == Mode.atomic) = .error (w.noCell a "load: no such cell") := by unfold World.farLoad; rw [hC]
    grind
theorem Zea (a : Addr) : ∀ (n i : Nat) (acc : Array Value), Lo a.block P (loadCellsFrom a i n acc)
  | 0, i, acc => (Vp.pure _).lo
  | n + 1, i, acc => by
    unfold loadCellsFrom
    refine .bind (Zf5 _) ?_ fun v => Zea a n (i + 1) _
    have := ZmK (P := P) (a.add i)
    rwa [block_add] at this
theorem Zj0 (t : TypeId) (a : Addr) : Lo a.block P (loadVar t a) := by
  unfold loadVar
  refine .bind (Zc6 t).rd (Zc6 t).lo fun b => ?_
  cases b with
  | true => exact .bind (Za0 t).rd (Za0 t).lo fun n => .bind (Zb5 a n 0 _) (Zea a n 0 _) fun _ => (Vp.pure _).lo
  | false => exact ZmK a
theorem ZsJ {ρ : Operand → Value} {o : Oper} {t : TypeId} {x : Operand} {w w2 : World} {v : Value} (ho : o.op = .load t x) (e : (execOp ρ o).run P w = .ok (.value v) w) :
    ∃ b, pb (ρ x) = some b ∧ (Cel w b → w2.heap[b]? = w.heap[b]? → (execOp ρ o).run P w2 = .ok (.value v) w2) := by
  obtain ⟨dst, op, type, pos, after, guard⟩ := o
  cases ho
  change ((Instr.loadAt t (ρ x)) >>= fun y => (pure (Next.value y) : Sem Next)).run P w = _ at e
  show ∃ b, pb (ρ x) = some b ∧ (_ → _ → ((Instr.loadAt t (ρ x)) >>= fun y => (pure (Next.value y) : Sem Next)).run P w2 = _)
  generalize ρ x = q at e ⊢
  have : ∃ a, q = .pointer (some a) := by
    cases hs : (Instr.sureAddr q).run P w with
    | halt _ _ => unfold Instr.loadAt at e; simp only [Sem.run_bind, hs] at e; cases e
    | ok a w' => exact ⟨a, (Zmg hs).1⟩
  obtain ⟨a, rfl⟩ := this
  exact ⟨a.block, rfl, fun h1 h2 => Lo.bind (Rd.bind (Vp.pure a).rd fun a => Zd3 t a) (Zj0 t a) (fun _ => (Vp.pure _).lo) _ _ _ _ e h1 h2⟩
def So (b : Nat) (P : Program) (s : Sem α) : Prop := ∀ w r w1, s.run P w = .ok r w1 → Cel w b → Cel w1 b ∧ ∀ k, k ≠ b → w1.heap[k]? = w.heap[k]?
theorem Rd.so {b : Nat} {s : Sem α} (h : Rd P s) : So b P s := fun w r w1 e hc => by rw [h w r w1 e]; exact ⟨hc, fun _ _ => rfl⟩
theorem So.bind {b : Nat} {s : Sem α} {f : α → Sem β} (h : So b P s) (k : ∀ a, So b P (f a)) : So b P (s >>= f) := fun w r w1 e hc => by
  rw [Sem.run_bind] at e
  cases hs : s.run P w with
  | halt x w' => rw [hs] at e; cases e
  | ok a w' =>
    rw [hs] at e
    obtain ⟨h1, h2⟩ := h _ _ _ hs hc
    obtain ⟨h3, h4⟩ := k a _ _ _ e h1
    grind
theorem ZoP (a : Addr) (v : Value) : So a.block P (store a v) := fun w r w1 e ⟨C, t, f, hC⟩ => by
  unfold store at e
  have key : ∀ w1, w1 = w.setCell a v → Cel w1 a.block ∧ ∀ k, k ≠ a.block → w1.heap[k]? = w.heap[k]? := fun w1 e => by
    subst e
    unfold World.setCell
    constructor
    · refine ⟨(if a.spot.isSome then C else C.setIfInBounds a.off v), t, f, ?_⟩
      show (w.heap.modify a.block _)[a.block]? = _
      rw [Ya3, hC]
      simp
    · intro k hk
      show (w.heap.modify a.block _)[k]? = _
      rw [Ya3]
      simp [Ne.symm hk]
  cases v <;> simp only [Sem.run] at e <;> first
    | (cases e; done)
    | (cases hv : w.cell? a with
       | some x =>
         rw [hv] at e
         simp only at e
         split at e
         · cases e
         · cases e; exact key _ rfl
       | none =>
         rw [hv] at e
         unfold World.farStore at e
         rw [hC] at e
         cases e)
theorem ZdE (a : Addr) : ∀ (vs : List Value) (i : Nat), So a.block P (storeCells a vs i)
  | [], i => (Vp.pure _).rd.so
  | v :: r, i => by
    unfold storeCells
    refine So.bind ?_ fun _ => ZdE a r (i + 1)
    have := ZoP (P := P) (a.add i) v
    rwa [block_add] at this
theorem Zh5 (t : TypeId) (a : Addr) (v : Value) : So a.block P (storeVar t a v) := by
  unfold storeVar
  refine (Za0 t).rd.so.bind fun n => ?_
  by_cases h : v.cells.size ≠ n
  · rw [if_pos h]
    intro w r w1 e
    cases e
  · rw [if_neg h]
    exact ZdE a _ 0
theorem Zrt {ρ : Operand → Value} {o : Oper} {t : TypeId} {x y : Operand} {w w1 : World} {r : Next} (ho : o.op = .store t x y) (e : (execOp ρ o).run P w = .ok r w1) :
    r = .skip ∧ ∃ b, pb (ρ x) = some b ∧ (Cel w b → Cel w1 b ∧ ∀ k, k ≠ b → w1.heap[k]? = w.heap[k]?) := by
  obtain ⟨dst, op, type, pos, after, guard⟩ := o
  cases ho
  change ((Instr.storeAt t (ρ x) (ρ y)) >>= fun _ => (pure Next.skip : Sem Next)).run P w = _ at e
  generalize ρ x = q at e ⊢
  generalize ρ y = v at e
  have h1 : r = .skip := by
    rw [Sem.run_bind] at e
    cases hs : (Instr.storeAt t q v).run P w with
    | halt _ _ => rw [hs] at e; cases e
    | ok _ _ => rw [hs] at e; cases e; rfl
  refine ⟨h1, ?_⟩
  have : ∃ a, q = .pointer (some a) := by
    cases hs : (Instr.sureAddr q).run P w with
    | halt _ _ => unfold Instr.storeAt at e; simp only [Sem.run_bind, hs] at e; cases e
    | ok a w' => exact ⟨a, (Zmg hs).1⟩
  obtain ⟨a, rfl⟩ := this
  exact ⟨a.block, rfl, fun hc => So.bind (Zh5 t a v) (fun _ => (Vp.pure _).rd.so) _ _ _ e hc⟩
end
def ZgZ (z : Nat) : List (Nat × Nat) → Option Nat
  | [] => none
  | (d, r) :: l => match Nat.beq d z with | true => some r | false => ZgZ z l
theorem Zb1 {z r : Nat} : ∀ {l : List (Nat × Nat)}, ZgZ z l = some r → (z, r) ∈ l
  | (d, q) :: l, h => by
    unfold ZgZ at h
    split at h
    · rename_i e; cases h; rw [Ya e]; exact Yu ..
    · exact List.mem_cons_of_mem _ (Zb1 h)
def Zic : Operand → Option Nat
  | .tmp z => some z
  | _ => none
def Ziz (P : Program) (o : Oper) : Option Nat := match vpO P o with
  | true => (match o.op with
    | .fieldAddr _ x _ => Zic x
    | .move x => Zic x
    | .nilCheck x => Zic x
    | _ => none)
  | false => none
def ZbM (P : Program) (env : List (Nat × Nat)) (o : Oper) : List (Nat × Nat) := match o.dst with
  | none => env
  | some d => (match Ziz P o with | some z => (match ZgZ z env with | some r => [(d, r)] | none => []) | none => []) ++ env.filter fun p => !Nat.beq p.1 d
def ZoV (P : Program) (env : List (Nat × Nat)) (o : Oper) : Bool := rdO P o || grO o || match o.op with
  | .store _ (.tmp y) _ => (ZgZ y env).isSome
  | _ => false
def J (β : Nat → Nat) (env : List (Nat × Nat)) (a : Act) (w : World) : Prop := ∀ p ∈ env, ∀ b, pb (a.eval (.tmp p.1)) = some b → b = β p.2 ∧ Cel w b
def Zn5 : Next → Option Value
  | .value v => some v
  | .skip => some undef
  | _ => none
section
variable {P : Program} {β : Nat → Nat} {env : List (Nat × Nat)} {a : Act} {w w' : World} {o : Oper} {n : Next}
theorem ZjD (h : ZoV P env o = true) (hJ : J β env a w) (e : (execOp a.eval o).run P w = .ok n w') : (∃ u, Zn5 n = some u) ∧ ∀ b, Cel w b → Cel w' b := by
  unfold ZoV at h
  rw [Yz] at h
  rcases h with h | h
  · obtain ⟨h1, h2⟩ := Zij (ρ := a.eval) h
    obtain ⟨v, rfl⟩ := h2 _ _ _ e
    exact ⟨⟨v, rfl⟩, fun b ⟨C, t, f, hC⟩ => ⟨C, t, f, h1 _ _ _ e _ _ hC⟩⟩
  · split at h
    · rename_i t y v ho
      obtain ⟨rfl, b0, h1, h2⟩ := Zrt ho e
      obtain ⟨r, hr⟩ := YK.1 h
      obtain ⟨_, h3⟩ := hJ _ (Zb1 hr) _ h1
      obtain ⟨h4, h5⟩ := h2 h3
      refine ⟨⟨_, rfl⟩, fun b ⟨C, t, f, hC⟩ => ?_⟩
      by_cases hb : b = b0
      · grind
      · exact ⟨C, t, f, (h5 b hb).trans hC⟩
    · cases h
theorem Zev {x : Operand} {z : Nat} (h : Zic x = some z) : x = .tmp z := by
  cases x <;> simp only [Zic] at h <;> first | (cases h; done) | skip
  grind
theorem Zqk {z : Nat} {b : Nat} {v : Value} (hs : Ziz P o = some z) (e : (execOp a.eval o).run P w = .ok (.value v) w') (hb : pb v = some b) : pb (a.eval (.tmp z)) = some b := by
  unfold Ziz at hs
  cases hv : vpO P o with
  | false => rw [hv] at hs; cases hs
  | true =>
    rw [hv] at hs
    obtain ⟨dst, op, type, pos, after, guard⟩ := o
    cases op <;> simp only at hs <;> first | (cases hs; done) | skip
    case move x => rw [← Zev hs]; cases e; exact hb
    case nilCheck x =>
      rw [← Zev hs]
      have hr : ∀ w r w1, (runtimePanic .nilDeref : Sem Next).run P w ≠ .ok r w1 := fun w r w1 e => by
        unfold runtimePanic at e
        simp only [Sem.run_bind, run_program, Result.andThen_ok] at e
        repeat (first | (cases e; done) | split at e | (simp [goPanic, stuck, unsupported, Sem.run] at e; done))
      simp only [execOp] at e
      split at e
      · grind
      · grind
      · grind
      · split at e
        · grind
        · simp only [Sem.run_bind, run_program, Result.andThen_ok] at e
          cases hs : (nilAhead _ _ _ _).run P w with
          | halt x w' => rw [hs] at e; cases e
          | ok q w' =>
            rw [hs] at e
            simp only [Result.andThen_ok] at e
            split at e
            · cases e
            · cases e; first | exact hb | cases hb
        · cases e; first | exact hb | cases hb
      · cases e; first | exact hb | cases hb
    case fieldAddr t x i =>
      rw [← Zev hs]
      simp only [vpO] at hv
      split at hv
      · rename_i fs hu
        split at hv
        · rename_i f hf
          have hz : P.cellsOf f.type ≠ 0 := fun h0 => by rw [h0] at hv; cases hv
          have run : ∀ (ad : Addr) (w : World), (Instr.fieldAt t (.pointer (some ad)) i).run P w = .ok (.pointer (some (ad.add f.offset))) w := fun ad w => by
            simp [Instr.fieldAt, run_underlying hu, hf, Instr.sureAddr, fieldPlace, Zbh hz, hz]
          change ((Instr.fieldAt t (a.eval x) i) >>= fun y => (pure (Next.value y) : Sem Next)).run P w = _ at e
          generalize a.eval x = q at e ⊢
          by_cases hq : ∃ ad, q = .pointer (some ad)
          · obtain ⟨ad, rfl⟩ := hq
            rw [Sem.run_bind, run] at e
            cases e
            simp only [pb, block_add] at hb
            exact hb
          · exfalso
            have hs : Instr.sureAddr q = .halt (.stuck "an address expected (no nilCheck in front?)") := by
              unfold Instr.sureAddr
              split
              · grind
              · rfl
            simp only [Instr.fieldAt, Sem.run_bind, run_underlying hu, Result.andThen_ok, hf, hs] at e
            cases e
        grind
      · cases hv
theorem J.put (hJ : J β env a w) (ht : ZoV P env o = true) (e : (execOp a.eval o).run P w = .ok n w') {u : Value} (hu : Zn5 n = some u) : J β (ZbM P env o) (a.put o.dst u) w' := by
  have hc := (ZjD ht hJ e).2
  unfold ZbM
  have ev : ∀ z : Nat, (∀ d, o.dst = some d → z ≠ d) → (a.put o.dst u).eval (.tmp z) = a.eval (.tmp z) := fun z hz => Act.eval_put fun d hd hx => hz d hd (by cases hx; rfl)
  cases hd : o.dst with
  | none =>
    intro p hp b hb
    rw [← hd, ev _ (fun d h => by rw [hd] at h; cases h)] at hb
    exact ⟨(hJ p hp b hb).1, hc _ (hJ p hp b hb).2⟩
  | some d =>
    intro p hp b hb
    rw [YD] at hp
    rcases hp with hp | hp
    · split at hp
      · rename_i z hz
        split at hp
        · rename_i r hr
          obtain rfl := YG.1 hp
          simp only at hb ⊢
          have hu' : n = .value u := by
            have : rdO P o = true := by
              unfold Ziz at hz
              unfold rdO
              cases hv : vpO P o with
              | true => rfl
              | false => rw [hv] at hz; cases hz
            obtain ⟨v, rfl⟩ := (ZdQ (ρ := a.eval) this).2 _ _ _ e
            cases hu
            rfl
          subst hu'
          have hb' : pb u = some b := by
            have : (a.put (some d) u).eval (.tmp d) = u ∨ (a.put (some d) u).eval (.tmp d) = undef := by
              simp only [Act.eval, Act.put, Yq, Yac]
              split
              · rename_i h
                split <;> simp_all
              · simp_all
            rcases this with h | h
            · rw [h] at hb; exact hb
            · rw [h] at hb; cases hb
          obtain ⟨h1, h2⟩ := hJ _ (Zb1 hr) _ (Zqk hz e hb')
          exact ⟨h1, hc _ h2⟩
        · cases hp
      · cases hp
    · rw [YJ] at hp
      have hne : p.1 ≠ d := fun he => by have := hp.2; rw [he, Ybs] at this; cases this
      rw [← hd, ev _ (fun d' h => by rw [hd] at h; cases h; exact hne)] at hb
      exact ⟨(hJ p hp.1 b hb).1, hc _ (hJ p hp.1 b hb).2⟩
def Zqe (env : List (Nat × Nat)) (o : Oper) : Bool := match o.dst with
  | none => true
  | some d => env.all fun p => !Nat.beq p.1 d
theorem J.keep (hJ : J β env a w) (ht : ZoV P env o = true) (hf : Zqe env o = true) (e : (execOp a.eval o).run P w = .ok n w') {u : Value} : J β env (a.put o.dst u) w' := by
  have hc := (ZjD ht hJ e).2
  intro p hp b hb
  have : (a.put o.dst u).eval (.tmp p.1) = a.eval (.tmp p.1) := Act.eval_put fun d hd hx => by
    cases hx
    unfold Zqe at hf
    rw [hd] at hf
    have := Yj.1 hf p hp
    rw [Ybs] at this
    cases this
  rw [this] at hb
  exact ⟨(hJ p hp b hb).1, hc _ (hJ p hp b hb).2⟩
end
end Go.Eng
namespace Go.Eng
set_option linter.all false
open Go Go.RowKit
section
variable {V : Type} [Mv V]
def Zb9 (s : ByteArray) : List (ByteArray × V) → Option V
 | [] => none
 | p :: r => match decide (p.1 = s) with | true => some p.2 | false => Zb9 s r
def ZbR (s : ByteArray) (v : V) : List (ByteArray × V) → List (ByteArray × V)
 | [] => [(s, v)]
 | p :: r => match decide (p.1 = s) with | true => (s, v) :: r | false => p :: ZbR s v r
theorem Zg5 (s : ByteArray) : ∀ xs : List (ByteArray × V), Zej s (xs.map eEt) = (Zb9 s xs).map Mv.e
 | [] => rfl
 | p :: r => by
  simp only [YT, Zej, eEt, Zfz, Zb9]
  cases decide (p.1 = s) with
  | true => rfl
  | false => exact Zg5 s r
theorem Zjm (s : ByteArray) (v : V) : ∀ xs : List (ByteArray × V), ZgU s (Mv.e v) (xs.map eEt) = (ZbR s v xs).map eEt
 | [] => rfl
 | p :: r => by
  simp only [YT, ZgU, eEt, Zfz, ZbR]
  cases decide (p.1 = s) with
  | true => rfl
  | false => exact congrArg _ (Zjm s v r)
def lkM (s : ByteArray) (xs : List (ByteArray × V)) : V := (Zb9 s xs).getD Mv.z
def inM (s : ByteArray) (xs : List (ByteArray × V)) : Bool := (Zb9 s xs).isSome
theorem ZmW (s : ByteArray) (xs : List (ByteArray × V)) : Zkq (xs.map eEt) s (Mv.e (Mv.z (V := V))) (Mv.e (lkM s xs)) (inM s xs) := by
 unfold Zkq lkM inM
 rw [Zg5]
 cases Zb9 s xs <;> exact ⟨rfl, rfl⟩
variable {os : Nat} {β : Type}
@[reducible] def mlk (xs : List (ByteArray × V)) (s : ByteArray) (k : V → Bool → PT os β) : PT os β :=
 ⟨.av (.d (.bool (inM s xs))) (.ds (Mv.e (lkM s xs)) (k (lkM s xs) (inM s xs)).a), fun E => Zkq (xs.map eEt) s (Mv.e (Mv.z (V := V))) (Mv.e (lkM s xs)) (inM s xs) ∧ (k (lkM s xs) (inM s xs)).q E, (k (lkM s xs) (inM s xs)).m, fun E => ∀ v b, (k v b).n E,
 fun E hn y hm hL => ⟨ZmW s xs, (k _ _).ok E (hn _ _) y hm hL⟩⟩
@[reducible] def mlg (g : Bool) (xs : List (ByteArray × V)) (s : ByteArray) (k : V → Bool → PT os β) : PT os β :=
 ⟨.av (.d (.bool (inM s xs))) (.ds (Mv.e (lkM s xs)) (k (lkM s xs) (inM s xs)).a), fun E => (g = true → Zkq (xs.map eEt) s (Mv.e (Mv.z (V := V))) (Mv.e (lkM s xs)) (inM s xs)) ∧ (k (lkM s xs) (inM s xs)).q E, (k (lkM s xs) (inM s xs)).m, fun E => ∀ v b, (k v b).n E,
 fun E hn y hm hL => ⟨fun _ => ZmW s xs, (k _ _).ok E (hn _ _) y hm hL⟩⟩
@[reducible] def mpu (xs : List (ByteArray × V)) (s : ByteArray) (v : V) (k : PT os β) : PT os β :=
 ⟨.ents ((ZbR s v xs).map eEt) k.a, fun E => Zzp s (Mv.e v) (xs.map eEt) ((ZbR s v xs).map eEt) ∧ k.q E, k.m, k.n, fun E hn y hm hL => ⟨Zjm s v xs, k.ok E hn y hm hL⟩⟩
end
theorem ZcW : ZeH [] := fun x hx => by cases hx
section
variable {α β γ : Type}
def Zfv : List (Option (List β)) → Option (List β)
 | [] => some []
 | some a :: r => match Zfv r with | some b => some (a ++ b) | none => none
 | none :: _ => none
def Zen (M : Option (List γ)) (k : γ → Option (List β)) : Option (List β) := M.bind fun zs => Zfv (zs.map k)
theorem Zd2 : ∀ {l : List (Option (List β))} {ys : List β}, Zfv l = some ys → ∀ x ∈ l, ∃ yz, x = some yz ∧ ∀ y ∈ yz, y ∈ ys
 | [], _, _, x, hx => by cases hx
 | none :: r, ys, h, x, hx => by cases h
 | some a :: r, ys, h, x, hx => by
  unfold Zfv at h
  cases hr : Zfv r with
  | none => rw [hr] at h; cases h
  | some b =>
   rw [hr] at h
   cases h
   rcases Yo.1 hx with rfl | hx
   ·grind
   ·obtain ⟨yz, e1, e2⟩ := Zd2 hr x hx
    grind
theorem Zc3 {M : Option (List γ)} {k : γ → Option (List β)} {ys : List β} (h : Zen M k = some ys) : ∃ zs, M = some zs ∧ ∀ z ∈ zs, ∃ yz, k z = some yz ∧ ∀ y ∈ yz, y ∈ ys := by
 obtain ⟨zs, e1, e2⟩ := bind_some h
 exact ⟨zs, e1, fun z hz => Zd2 e2 _ (Yaz hz)⟩
end
abbrev ZqO {β : Type} (L : β → Prop) (ys : List β) : Prop := ∀ y ∈ ys, L y
def Zuc {β : Type} (L : List β → Prop) : Prop := ∀ ys zs, (∀ z ∈ zs, z ∈ ys) → L ys → L zs
theorem ZgI {β : Type} (L : β → Prop) : Zuc (ZqO L) := fun _ _ h hL z hz => hL z (h z hz)
section
variable {os : Nat} {β V : Type} [Mv V]
@[reducible] def nxN (xs : List (ByteArray × V)) (k0 : PT os (List β)) (k1 : ByteArray × V → List (ByteArray × V) → PT os (List β)) : PT os (List β) :=
 ⟨.all k0.a (fun i => .ds (eEt (xs.getD i (⟨#[]⟩, Mv.z))) (.ents ((xs.eraseIdx i).map eEt) (k1 (xs.getD i (⟨#[]⟩, Mv.z)) (xs.eraseIdx i)).a)),
 fun E => (xs.map eEt = [] → k0.q E) ∧ ∀ i, i < (xs.map (eEt (V := V))).length → ZzD (xs.map eEt) i (eEt (xs.getD i (⟨#[]⟩, Mv.z))) ((xs.eraseIdx i).map eEt) ∧ (k1 (xs.getD i (⟨#[]⟩, Mv.z)) (xs.eraseIdx i)).q E,
 match xs with | [] => k0.m | _ :: _ => Zfv ((List.range xs.length).map fun i => (k1 (xs.getD i (⟨#[]⟩, Mv.z)) (xs.eraseIdx i)).m),
 fun E => Zuc E.L ∧ k0.n E ∧ ∀ x l, (k1 x l).n E, fun E hn y hm hL => by
  obtain ⟨hM, hn0, hn1⟩ := hn
  cases xs with
  | nil => exact ⟨fun _ => k0.ok E hn0 y hm hL, fun i hi => by simp at hi⟩
  | cons x r =>
   refine ⟨fun h => by simp at h, fun i hi => ?_⟩
   rw [Yn] at hi
   obtain ⟨yz, e1, e2⟩ := Zd2 hm _ (Yaz (Yaa.2 hi))
   refine ⟨⟨?_, (ZeG _ _ _).symm⟩, (k1 _ _).ok E (hn1 _ _) yz e1 (hM _ _ e2 hL)⟩
   rw [Ys, Yd hi, Yw, Yd hi]
   rfl⟩
@[reducible] def lrN (er : β → AV) (bs : β → List Blk) (y : β) : PT os (List β) := lf (fun E => E.P (er y) (bs y)) [y]
end
section
variable {os : Nat} {σ ξ ρ : Type}
@[reducible] def ZAH (er : ρ → AV) (bs : ρ → List Blk) (y : ρ) : PT os (List (Lv σ ξ ρ)) := lf (fun E => E.P (er y) (bs y)) [.rt y]
@[reducible] def lnN (S : σ → St) (v : σ) : PT os (List (Lv σ ξ ρ)) := lf (fun E => E.Q .normal (S v)) [.nx v]
@[reducible] def Zuy (X : ξ → Nat × St) (b : ξ) : PT os (List (Lv σ ξ ρ)) := lf (fun E => E.Q (.exit (X b).1) (X b).2) [.ex b]
def Zd0 (B : σ → Option (List (Lv σ ξ ρ))) : Nat → σ → Option (List (ξ ⊕ ρ))
 | 0, _ => none
 | n + 1, v => Zen (B v) fun o => match o with
  | .nx v' => Zd0 B n v'
  | .ex b => some [.inl b]
  | .rt y => some [.inr y]
variable {P : Program} {T : Nat → Option TI} {n : Nat} {C : Cx} {τ : St} {Q : Exit → St → Prop} {rs : List ResultVar} {c : Code} {Post : AV → List Blk → Prop}
variable {S : σ → St} {X : ξ → Nat × St} {er : ρ → AV} {bs : ρ → List Blk} {B : σ → Option (List (Lv σ ξ ρ))}
def KLN (P : Program) (T : Nat → Option TI) (n : Nat) (C : Cx) (c : Code) (rs : List ResultVar) (os : Nat) (S : σ → St) (X : ξ → Nat × St) (er : ρ → AV) (bs : ρ → List Blk) (B : σ → Option (List (Lv σ ξ ρ))) : Prop :=
 ∀ v o, B v = some o → ∀ (Q : Exit → St → Prop) (Post : AV → List Blk → Prop), (∀ τ, FQ T rs os Post .ret τ → Q .ret τ) → HL (ZqO (LvL S X er bs Q Post)) o → LW P n C c (S v) Q
theorem Zdx (hb : KLN P T n C c rs os S X er bs B) (hQ : ∀ τ, FQ T rs os Post .ret τ → Q .ret τ) : ∀ (k : Nat) (v : σ) (os' : List (ξ ⊕ ρ)), Zd0 B k v = some os' →
  (∀ b, .inl b ∈ os' → Q (.exit (X b).1) (X b).2) → (∀ y, .inr y ∈ os' → Post (er y) (bs y)) → LL P n C c (S v) Q
 | 0, v, o, h, _, _ => by cases h
 | k + 1, v, o, h, h1, h2 => by
  rw [Zd0] at h
  refine Zjw ?_
  obtain ⟨zs, e1, e2⟩ := Zc3 h
  refine hb v zs e1 _ Post (fun τ hτ => hQ τ hτ) (fun z hz => ?_)
  obtain ⟨yz, f1, f2⟩ := e2 z hz
  cases z with
  | nx v' => exact Zdx hb hQ k v' yz f1 (fun b hb' => h1 b (f2 _ hb')) (fun y hy => h2 y (f2 _ hy))
  | ex b => cases f1; exact h1 b (f2 _ (.head _))
  | rt y => cases f1; exact h2 y (f2 _ (.head _))
theorem ZxQ {g : ξ → Option (List ρ)} {N : Nat} {v : σ} {y : List ρ} (hb : KLN P T n C c rs os S X er bs B) (hQ : ∀ τ, FQ T rs os Post .ret τ → Q .ret τ) (hm : Zen (Zd0 B N v) (Sum.elim g fun z => some [z]) = some y) (hL : HL (ZqO fun y => Post (er y) (bs y)) y)
  (h1 : ∀ b y', g b = some y' → HL (ZqO fun y => Post (er y) (bs y)) y' → Q (.exit (X b).1) (X b).2) (hs : S v = τ := by kernel_rfl) : LL P n C c τ Q := by
 subst hs
 obtain ⟨zs, e1, e2⟩ := Zc3 hm
 refine Zdx hb hQ N v zs e1 (fun b hb' => ?_) (fun z hz => ?_)
 ·obtain ⟨yz, f1, f2⟩ := e2 _ hb'
  exact h1 b yz f1 fun z hz => hL z (f2 z hz)
 ·obtain ⟨yz, f1, f2⟩ := e2 _ hz
  cases f1
  exact hL z (f2 z (.head _))
theorem ZAt {σ' ξ' : Type} {S' : σ' → St} {X' : ξ' → Nat × St} {Q' : Exit → St → Prop} {g : ξ → Option (List (Lv σ' ξ' ρ))} {N : Nat} {v : σ} {y : List (Lv σ' ξ' ρ)} (hb : KLN P T n C c rs os S X er bs B) (hQ : ∀ τ, FQ T rs os Post .ret τ → Q .ret τ) (hm : Zen (Zd0 B N v) (Sum.elim g fun z => some [.rt z]) = some y) (hL : HL (ZqO (LvL S' X' er bs Q' Post)) y)
  (h1 : ∀ b y', g b = some y' → HL (ZqO (LvL S' X' er bs Q' Post)) y' → Q (.exit (X b).1) (X b).2) (hs : S v = τ := by kernel_rfl) : LL P n C c τ Q := by
 subst hs
 obtain ⟨zs, e1, e2⟩ := Zc3 hm
 refine Zdx hb hQ N v zs e1 (fun b hb' => ?_) (fun z hz => ?_)
 ·obtain ⟨yz, f1, f2⟩ := e2 _ hb'
  exact h1 b yz f1 fun z hz => hL z (f2 z hz)
 ·obtain ⟨yz, f1, f2⟩ := e2 _ hz
  cases f1
  exact hL _ (f2 _ (.head _))
end
structure KCN (P : Program) (f : FuncId) (xs : List AV) {γ : Type} (M : Option (List γ)) (e : γ → AV) : Prop where
 k : ∀ l H ys, M = some ys → Za3 P f l xs H (fun z H' => (∃ y ∈ ys, z = e y) ∧ H' = H)
 x : ∀ r, Zan r xs = xs
 e : ∀ r y, ren r (e y) = e y
theorem KCN.one {P : Program} {f : FuncId} {xs : List AV} {γ : Type} {M : Option (List γ)} {e : γ → AV} (K : KCN P f xs M e) (N : Option γ) (h : ∀ y, N = some y → ∃ ys, M = some ys ∧ ∀ z ∈ ys, z = y) : KC P f xs N e :=
 ⟨fun l H y hy => by
  obtain ⟨ys, e1, e2⟩ := h y hy
  exact (K.k l H ys e1).mono fun z H' ⟨⟨y', h1, h2⟩, h3⟩ => ⟨by rw [h2, e2 y' h1], h3⟩, K.x, K.e⟩
theorem Zzr {P : Program} {T : Nat → Option TI} {n : Nat} {f : FuncId} {fn : Func} {xs : List AV} {γ : Type} {M : Option (List γ)} {e : γ → AV} (hf : P.funcs[f]? = some fn) (hn : fn.ntmps = n) (hT : TOk P T) (rs : List ResultVar)
  (h : ∀ C : Cx, CO C 0 → ∀ y, M = some y → ∀ Post : AV → List Blk → Prop, HL (ZqO fun y => Post (e y) []) y → LW P n C (pa [] (Zad fn)) (mkS (Zib 0 xs) []) (FQ T rs 0 Post))
  (hx : ∀ r, Zan r xs = xs := by intro r; kernel_rfl) (he : ∀ r y, ren r (e y) = e y := by intro r y; kernel_rfl)
  (hb : fn.body = some (Zad fn) := by kernel_rfl) (hname : (fn.name == "runtime.NumGoroutine") = false := by kernel_rfl) (hr : fn.results.toList = rs := by kernel_rfl) (hl : Nat.ble xs.length n = true := by kernel_rfl) : KCN P f xs M e :=
 ⟨fun l H ys hm => ZfB rs (Zad fn) (fun _ => .top) xs hf hb hname hn hr (Yf hl) hT (hx _) fun B => h _ ⟨Zfc l B _ H, rfl, rfl, fun _ h => absurd h (Yas _)⟩ ys hm (fun z _ => (∃ y ∈ ys, z = e y) ∧ H = H) (fun y hy => ⟨⟨y, hy, rfl⟩, rfl⟩), hx, he⟩
structure KON (P : Program) (f : FuncId) (os : Nat) (ys : List AV) (bi : List Blk) (Θ : Cl) {γ : Type} (M : Option (List γ)) (e : γ → AV) (bs : γ → List Blk) : Prop where
 k : ∀ l H (ks : List Key) (gs : List Nat) (θ : Nat → AV), ks.length = os → ZsP l ks → ks.Nodup → HOk H (rOf l ks gs θ H) (ZiD 0 bi) 0 ks → Θ (fun k => k ∈ ks) l H θ → ∀ zs, M = some zs →
  Za3 P f l (Zan (rOf l ks gs θ H) ys) H (fun z H' => ∃ y ∈ zs, z = ren (rOf l ks gs θ H) (e y) ∧ H' = ZhR H ks (ZcO (rOf l ks gs θ H) 0 (bs y)))
theorem ZAq {P : Program} {T : Nat → Option TI} {n : Nat} {f : FuncId} {fn : Func} {ys : List AV} {bi : List Blk} {Θ : Cl} {γ : Type} {M : Option (List γ)} {e : γ → AV} {bs : γ → List Blk} (hf : P.funcs[f]? = some fn) (hn : fn.ntmps = n) (hT : TOk P T) (rs : List ResultVar) (os : Nat)
  (h : ∀ C : Cx, CO C os → Θ C.no C.l C.H0 C.θ → ∀ y, M = some y → ∀ Post : AV → List Blk → Prop, HL (ZqO fun y => Post (e y) (bs y)) y → LW P n C (pa [] (Zad fn)) (mkS (Zib 0 ys) (ZiD 0 bi)) (FQ T rs os Post))
  (he : ∀ y, kno os (e y) = true := by intro y; kernel_rfl) (hB : ∀ y, Zk1 os (bs y) := by intro y; exact trivial) (hl : ∀ y, (bs y).length = os := by intro y; rfl) (hin : Zq6 os (ZiD 0 bi) = true := by kernel_rfl)
  (hb : fn.body = some (Zad fn) := by kernel_rfl) (hname : (fn.name == "runtime.NumGoroutine") = false := by kernel_rfl) (hr : fn.results.toList = rs := by kernel_rfl) (hx : Nat.ble ys.length n = true := by kernel_rfl) : KON P f os ys bi Θ M e bs :=
 ⟨fun l H ks gs θ hks hlow hnd hH hΘ zs hzs => by
  have hN : ∀ r, NmO l ks gs r → Zkx os r (rOf l ks gs θ H) := fun r hr q hq => by
   obtain ⟨h1, h2⟩ := hr
   exact ⟨congrFun h1 _, h2 q (by omega)⟩
  subst hks
  refine ZeK rs (Zad fn) ks gs (Zgj ks.length) θ ys (ZiD 0 bi) (fun z b => ∃ y ∈ zs, z = e y ∧ b = bs y) hf hb hname hn hr (by rw [ZaC]; exact Yf hx) hT (Zf2 hlow) hnd (fun i hi => Zgh hi) (ZeW hin) (ZhY hin) (fun i k hk => by have := Zni hH i k hk; rw [Yy] at this; exact this) rfl (fun C hC hO hF hl' hH0 hθ hκ hno => ?_) (fun z b hzb => ?_)
  ·refine h C ⟨hC, hO, hF, fun q hq => ?_⟩ (by rw [hno, hl', hH0, hθ]; exact hΘ) zs hzs (fun z b => ∃ y ∈ zs, z = e y ∧ b = bs y) (fun y hy => ⟨y, hy, rfl, rfl⟩)
   rw [hno, hκ]
   show (match nth ks q with | some k => k | none => (0, 0)) ∈ ks
   rw [Za2, Yd (by omega)]
   grind
  ·obtain ⟨y, hy, rfl, rfl⟩ := hzb
   exact ⟨hl y, (hB y).live, _, _, fun r hr => Zis (hN r hr) _ (he y), fun r hr => Zk1.ren (hN r hr) _ _ (by rw [hl]; omega) (hB y), y, hy, rfl, rfl⟩⟩
section
variable {P : Program} {f : FuncId} {os os' : Nat} {ys : List AV} {bi : List Blk} {Θ : Cl} {γ : Type} {M : Option (List γ)} {e : γ → AV} {bs : γ → List Blk} {C : Cx} {r : Ren} {xs : List AV}
def Zvg (P : Program) (l : Nat) (r : Ren) (f : FuncId) (xs : List AV) (hb : List (Key × Blk)) {γ : Type} (zs : List γ) (e : γ → AV) (hb2 : γ → List (Key × Blk)) : Prop :=
 ∀ H', (∀ p ∈ hb, (H' (r.κ p.1)).g = r.γ p.1 + p.2.g ∧ (p.2.live = true → H' (r.κ p.1) = ZaN r p.1 p.2)) → (∀ k : Key, k.1 ≤ l → ¬ r.no k → H' k = r.H0 k) →
  Za3 P f (l + 1) (Zan r xs) H' (fun z H'' => ∃ y ∈ zs, z = ren r (e y) ∧ H'' = Zco r (hb2 y) H')
theorem Zor (K : KON P f os ys bi Θ M e bs) {zs : List γ} (hy : M = some zs) (co : CO C os') (g : Gd C r) (cb cc : List (Key × Blk)) (cb2 : γ → List (Key × Blk)) (x : γ → AV) (θ : Nat → AV) (hΘ : Th Θ C r cb (cb ++ cc) θ)
  (hBE : ∀ H, BE (rC C r cb θ H) r 0 bi cb) (hBE2 : ∀ y H, BE (rC C r cb θ H) r 0 (bs y) (cb2 y)) (hlv' : ∀ y, (bs y).all Blk.live = true := by intro y; kernel_rfl) (hx : ∀ H, Zan (rC C r cb θ H) ys = Zan r xs := by intro H; kernel_rfl) (hy2 : ∀ y H, ren (rC C r cb θ H) (e y) = ren r (x y) := by intro y H; kernel_rfl)
  (hk : ((cb.map (·.1)).all (okK os') && Zd5 (cb.map (·.1)) && Nat.beq cb.length os) = true := by kernel_rfl) (he : ∀ y, cb.map (·.1) = (cb2 y).map (·.1) := by intro y; rfl) : Zvg P C.l r f xs (cb ++ cc) zs x cb2 := by
 intro H' hg h2
 have hsub : ∀ p ∈ cb, p ∈ cb ++ cc := fun p hp => YN _ hp
 simp only [Yc] at hk
 have := K.k (C.l + 1) H' ((cb.map (fun p : Key × Blk => p.1)).map r.κ) (Zpv r cb) θ (by rw [Yn, Yn]; exact Ya hk.2) (Zcc co g _ hk.1.1) (Zct (Zje co g) _ hk.1.2 hk.1.1)
  (ZhK bi cb 0 bi (fun j => by have := ZeN bi 0 j; rwa [Yy] at this ⊢) (hBE H') fun p hp => hg p (hsub p hp)) (hΘ H' hg h2) zs hy
 rw [← hx H']
 exact this.mono fun z H'' ⟨y, h1, e1, e2⟩ => ⟨y, h1, e1.trans (hy2 y H'), e2.trans (Zf3 (bs y) cb (cb2 y) 0 H' (hBE2 y H') (fun b hb => Yj.1 (hlv' y) b hb) (he y))⟩
end
section
variable {P : Program} {T : Nat → Option TI} {n : Nat} {C : Cx} {τ : St} {Q : Exit → St → Prop} {os k : Nat} {c : Code} {β : Type} {L : List β → Prop} {y : List β}
theorem Zvb {γ : Type} {M : Option (List γ)} {kk : γ → Option (List β)} {ss : List (Nat × AV)} {hs : List (Key × Blk)} (co : CO C os) (hm : Zen M kk = some y) (hL : HL L y) (hM : Zuc L) (f : FuncId) (xs : List AV) (ks : List Key) (hb : List (Key × Blk)) (e : γ → AV) (hb2 : γ → List (Key × Blk)) (fl : List Key)
  (hwr : ∀ z, wrL C (hb2 z)) (hfl : flL (lkH hs) fl) (hcall : ∀ zs, M = some zs → ∀ r, Gd C r → Zvg P C.l r f xs hb zs e hb2)
  (h : ∀ z y', kk z = some y' → HL L y' → LO P n C c (k + 1) (mkS (Zoo (Zem c k) (e z) (Zdu [] ss)) (hb2 z ++ Zcr ((hb2 z).map (·.1)) [] fl hs)) Q)
  (hop : Zdl c k = some (Zem c k, callF c k, Zgp c k) := by kernel_rfl) (hf : ev (lkS ss) (callF c k) = .fn (.func f) [] [] := by kernel_rfl) (hxs : [] ++ (Zgp c k).map (ev (lkS ss)) ++ [] = xs := by kernel_rfl) (hhb : (ks.map fun k => (k, lkH hs k)) = hb := by kernel_rfl)
  (hok0 : (ZfT [] (Zgj os) && ZgF hs && Zkm n (Zem c k) && ks.all (okK os)) = true := by kernel_rfl) (hok : ∀ z, (Zg1 os (hb2 z) && Zus [] (hb2 z)) = true := by intro z; kernel_rfl) : LO P n C c k (mkS ss hs) Q := by
 obtain ⟨zs, e1, e2⟩ := Zc3 hm
 refine ZjG co.ok co.O co.F _ _ _ hop f [] [] xs hf hxs ks hb hhb (fun z : γ => z ∈ zs) e hb2 [] fl hok0 hok hwr hfl (fun r h1 h2 h3 h4 H' a b => ?_) (fun z hz => ?_)
 ·exact (hcall zs e1 r ⟨h1, h2, h3, h4⟩ H' a b).mono fun v H'' ⟨z, hz, f1, f2⟩ => ⟨z, hz, r.γ, fun _ _ => rfl, f1, f2⟩
 ·obtain ⟨yz, g1, g2⟩ := e2 z hz
  exact h z yz g1 (hM y yz g2 hL)
end
end Go.Eng
