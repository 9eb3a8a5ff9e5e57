import Derived.Test.YtpjofefihlbppaaGreatCg14
import Derived.Test.YtpjofefihlbppaaGreatCg00
namespace Go.Eng
set_option linter.all false
open Go Go.RowKit
def pb : Value → Option Nat
  | .pointer (some a) => some a.block
  | _ => none
def Cel (w : World) (b : Nat) : Prop := ∃ C e f, w.heap[b]? = some (.cells C e f)
section
variable {P : Program} {α β : Type}
theorem Zog {v : Value} {a : Addr} {w w1 : World} (h : (Instr.sureAddr v).run P w = .ok a w1) : v = .pointer (some a) ∧ w1 = w := by
  unfold Instr.sureAddr at h
  split at h
  · cases h; exact ⟨rfl, rfl⟩
  · cases h
def Lo (b : Nat) (P : Program) (s : Sem α) : Prop := ∀ w r w1 w2, s.run P w = .ok r w1 → Cel w b → w2.heap[b]? = w.heap[b]? → s.run P w2 = .ok r w2
theorem Vp.lo {b : Nat} {s : Sem α} (h : Vp P s) : Lo b P s := fun w r w1 w2 e _ _ => (h w r w1 e).2 w2
theorem Lo.bind {b : Nat} {s : Sem α} {f : α → Sem β} (hr : Rd P s) (h : Lo b P s) (k : ∀ a, Lo b P (f a)) : Lo b P (s >>= f) := fun w r w1 w2 e h1 h2 => by
  rw [Sem.run_bind] at e ⊢
  cases hs : s.run P w with
  | halt x w' => rw [hs] at e; cases e
  | ok a w' =>
    rw [hs] at e
    have := hr w a w' hs
    subst this
    rw [h _ _ _ _ hs h1 h2]
    exact k a _ _ _ _ e h1 h2
theorem Zo4 (a : Addr) : Lo a.block P (load a) := fun w r w1 w2 e ⟨C, t, f, hC⟩ h2 => by
  unfold load at e ⊢
  simp only [Sem.run] at e ⊢
  have hc : w2.cell? a = w.cell? a := World.cell?_of_block h2
  rw [hc]
  cases hv : w.cell? a with
  | some v => rw [hv] at e; cases e; rfl
  | none =>
    rw [hv] at e
    have : w.farLoad P a (Mode.plain == Mode.atomic) = .error (w.noCell a "load: no such cell") := by unfold World.farLoad; rw [hC]
    grind
theorem ZeZ (a : Addr) : ∀ (n i : Nat) (acc : Array Value), Lo a.block P (loadCellsFrom a i n acc)
  | 0, i, acc => (Vp.pure _).lo
  | n + 1, i, acc => by
    unfold loadCellsFrom
    refine .bind (ZgM _) ?_ fun v => ZeZ a n (i + 1) _
    have := Zo4 (P := P) (a.add i)
    rwa [block_add] at this
theorem Zku (t : TypeId) (a : Addr) : Lo a.block P (loadVar t a) := by
  unfold loadVar
  refine .bind (Zd4 t).rd (Zd4 t).lo fun b => ?_
  cases b with
  | true => exact .bind (Zbj t).rd (Zbj t).lo fun n => .bind (Zc8 a n 0 _) (ZeZ a n 0 _) fun _ => (Vp.pure _).lo
  | false => exact Zo4 a
theorem ZyH {ρ : Operand → Value} {o : Oper} {t : TypeId} {x : Operand} {w w2 : World} {v : Value} (ho : o.op = .load t x) (e : (execOp ρ o).run P w = .ok (.value v) w) :
    ∃ b, pb (ρ x) = some b ∧ (Cel w b → w2.heap[b]? = w.heap[b]? → (execOp ρ o).run P w2 = .ok (.value v) w2) := by
  obtain ⟨dst, op, type, pos, after, guard⟩ := o
  cases ho
  change ((Instr.loadAt t (ρ x)) >>= fun y => (pure (Next.value y) : Sem Next)).run P w = _ at e
  show ∃ b, pb (ρ x) = some b ∧ (_ → _ → ((Instr.loadAt t (ρ x)) >>= fun y => (pure (Next.value y) : Sem Next)).run P w2 = _)
  generalize ρ x = q at e ⊢
  have : ∃ a, q = .pointer (some a) := by
    cases hs : (Instr.sureAddr q).run P w with
    | halt _ _ => unfold Instr.loadAt at e; simp only [Sem.run_bind, hs] at e; cases e
    | ok a w' => exact ⟨a, (Zog hs).1⟩
  obtain ⟨a, rfl⟩ := this
  exact ⟨a.block, rfl, fun h1 h2 => Lo.bind (Rd.bind (Vp.pure a).rd fun a => ZeM t a) (Zku t a) (fun _ => (Vp.pure _).lo) _ _ _ _ e h1 h2⟩
def So (b : Nat) (P : Program) (s : Sem α) : Prop := ∀ w r w1, s.run P w = .ok r w1 → Cel w b → Cel w1 b ∧ ∀ k, k ≠ b → w1.heap[k]? = w.heap[k]?
theorem Rd.so {b : Nat} {s : Sem α} (h : Rd P s) : So b P s := fun w r w1 e hc => by rw [h w r w1 e]; exact ⟨hc, fun _ _ => rfl⟩
theorem So.bind {b : Nat} {s : Sem α} {f : α → Sem β} (h : So b P s) (k : ∀ a, So b P (f a)) : So b P (s >>= f) := fun w r w1 e hc => by
  rw [Sem.run_bind] at e
  cases hs : s.run P w with
  | halt x w' => rw [hs] at e; cases e
  | ok a w' =>
    rw [hs] at e
    obtain ⟨h1, h2⟩ := h _ _ _ hs hc
    obtain ⟨h3, h4⟩ := k a _ _ _ e h1
    grind
theorem Zqo (a : Addr) (v : Value) : So a.block P (store a v) := fun w r w1 e ⟨C, t, f, hC⟩ => by
  unfold store at e
  have key : ∀ w1, w1 = w.setCell a v → Cel w1 a.block ∧ ∀ k, k ≠ a.block → w1.heap[k]? = w.heap[k]? := fun w1 e => by
    subst e
    unfold World.setCell
    constructor
    · refine ⟨(if a.spot.isSome then C else C.setIfInBounds a.off v), t, f, ?_⟩
      show (w.heap.modify a.block _)[a.block]? = _
      rw [Ya4, hC]
      simp
    · intro k hk
      show (w.heap.modify a.block _)[k]? = _
      rw [Ya4]
      simp [Ne.symm hk]
  cases v <;> simp only [Sem.run] at e <;> first
    | (cases e; done)
    | (cases hv : w.cell? a with
       | some x =>
         rw [hv] at e
         simp only at e
         split at e
         · cases e
         · cases e; exact key _ rfl
       | none =>
         rw [hv] at e
         unfold World.farStore at e
         rw [hC] at e
         cases e)
theorem Zex (a : Addr) : ∀ (vs : List Value) (i : Nat), So a.block P (storeCells a vs i)
  | [], i => (Vp.pure _).rd.so
  | v :: r, i => by
    unfold storeCells
    refine So.bind ?_ fun _ => Zex a r (i + 1)
    have := Zqo (P := P) (a.add i) v
    rwa [block_add] at this
theorem ZiO (t : TypeId) (a : Addr) (v : Value) : So a.block P (storeVar t a v) := by
  unfold storeVar
  refine (Zbj t).rd.so.bind fun n => ?_
  by_cases h : v.cells.size ≠ n
  · rw [if_pos h]
    intro w r w1 e
    cases e
  · rw [if_neg h]
    exact Zex a _ 0
theorem Zxb {ρ : Operand → Value} {o : Oper} {t : TypeId} {x y : Operand} {w w1 : World} {r : Next} (ho : o.op = .store t x y) (e : (execOp ρ o).run P w = .ok r w1) :
    r = .skip ∧ ∃ b, pb (ρ x) = some b ∧ (Cel w b → Cel w1 b ∧ ∀ k, k ≠ b → w1.heap[k]? = w.heap[k]?) := by
  obtain ⟨dst, op, type, pos, after, guard⟩ := o
  cases ho
  change ((Instr.storeAt t (ρ x) (ρ y)) >>= fun _ => (pure Next.skip : Sem Next)).run P w = _ at e
  generalize ρ x = q at e ⊢
  generalize ρ y = v at e
  have h1 : r = .skip := by
    rw [Sem.run_bind] at e
    cases hs : (Instr.storeAt t q v).run P w with
    | halt _ _ => rw [hs] at e; cases e
    | ok _ _ => rw [hs] at e; cases e; rfl
  refine ⟨h1, ?_⟩
  have : ∃ a, q = .pointer (some a) := by
    cases hs : (Instr.sureAddr q).run P w with
    | halt _ _ => unfold Instr.storeAt at e; simp only [Sem.run_bind, hs] at e; cases e
    | ok a w' => exact ⟨a, (Zog hs).1⟩
  obtain ⟨a, rfl⟩ := this
  exact ⟨a.block, rfl, fun hc => So.bind (ZiO t a v) (fun _ => (Vp.pure _).rd.so) _ _ _ e hc⟩
end
def ZhD (z : Nat) : List (Nat × Nat) → Option Nat
  | [] => none
  | (d, r) :: l => match Nat.beq d z with | true => some r | false => ZhD z l
theorem ZcX {z r : Nat} : ∀ {l : List (Nat × Nat)}, ZhD z l = some r → (z, r) ∈ l
  | (d, q) :: l, h => by
    unfold ZhD at h
    split at h
    · rename_i e; cases h; rw [Ya e]; exact Yy ..
    · exact Ys _ (ZcX h)
def ZiD : Operand → Option Nat
  | .tmp z => some z
  | _ => none
def Zjg (P : Program) (o : Oper) : Option Nat := match vpO P o with
  | true => (match o.op with
    | .fieldAddr _ x _ => ZiD x
    | .move x => ZiD x
    | .nilCheck x => ZiD x
    | _ => none)
  | false => none
def ZcA (P : Program) (env : List (Nat × Nat)) (o : Oper) : List (Nat × Nat) := match o.dst with
  | none => env
  | some d => (match Zjg P o with | some z => (match ZhD z env with | some r => [(d, r)] | none => []) | none => []) ++ env.filter fun p => !Nat.beq p.1 d
def Zp9 (P : Program) (env : List (Nat × Nat)) (o : Oper) : Bool := rdO P o || grO o || match o.op with
  | .store _ (.tmp y) _ => (ZhD y env).isSome
  | _ => false
def J (β : Nat → Nat) (env : List (Nat × Nat)) (a : Act) (w : World) : Prop := ∀ p ∈ env, ∀ b, pb (a.eval (.tmp p.1)) = some b → b = β p.2 ∧ Cel w b
def ZnF : Next → Option Value
  | .value v => some v
  | .skip => some undef
  | _ => none
section
variable {P : Program} {β : Nat → Nat} {env : List (Nat × Nat)} {a : Act} {w w' : World} {o : Oper} {n : Next}
theorem Zkf (h : Zp9 P env o = true) (hJ : J β env a w) (e : (execOp a.eval o).run P w = .ok n w') : (∃ u, ZnF n = some u) ∧ ∀ b, Cel w b → Cel w' b := by
  unfold Zp9 at h
  rw [Bool.or_eq_true] at h
  rcases h with h | h
  · obtain ⟨h1, h2⟩ := Znu (ρ := a.eval) h
    obtain ⟨v, rfl⟩ := h2 _ _ _ e
    exact ⟨⟨v, rfl⟩, fun b ⟨C, t, f, hC⟩ => ⟨C, t, f, h1 _ _ _ e _ _ hC⟩⟩
  · split at h
    · rename_i t y v ho
      obtain ⟨rfl, b0, h1, h2⟩ := Zxb ho e
      obtain ⟨r, hr⟩ := YH.1 h
      obtain ⟨_, h3⟩ := hJ _ (ZcX hr) _ h1
      obtain ⟨h4, h5⟩ := h2 h3
      refine ⟨⟨_, rfl⟩, fun b ⟨C, t, f, hC⟩ => ?_⟩
      by_cases hb : b = b0
      · grind
      · exact ⟨C, t, f, (h5 b hb).trans hC⟩
    · cases h
theorem Zfl {x : Operand} {z : Nat} (h : ZiD x = some z) : x = .tmp z := by
  cases x <;> simp only [ZiD] at h <;> first | (cases h; done) | skip
  grind
theorem ZsG {z : Nat} {b : Nat} {v : Value} (hs : Zjg P o = some z) (e : (execOp a.eval o).run P w = .ok (.value v) w') (hb : pb v = some b) : pb (a.eval (.tmp z)) = some b := by
  unfold Zjg at hs
  cases hv : vpO P o with
  | false => rw [hv] at hs; cases hs
  | true =>
    rw [hv] at hs
    obtain ⟨dst, op, type, pos, after, guard⟩ := o
    cases op <;> simp only at hs <;> first | (cases hs; done) | skip
    case move x => rw [← Zfl hs]; cases e; exact hb
    case nilCheck x =>
      rw [← Zfl hs]
      have hr : ∀ w r w1, (runtimePanic .nilDeref : Sem Next).run P w ≠ .ok r w1 := fun w r w1 e => by
        unfold runtimePanic at e
        simp only [Sem.run_bind, run_program, Result.andThen_ok] at e
        repeat (first | (cases e; done) | split at e | (simp [goPanic, stuck, unsupported, Sem.run] at e; done))
      simp only [execOp] at e
      split at e
      · grind
      · grind
      · grind
      · split at e
        · grind
        · simp only [Sem.run_bind, run_program, Result.andThen_ok] at e
          cases hs : (nilAhead _ _ _ _).run P w with
          | halt x w' => rw [hs] at e; cases e
          | ok q w' =>
            rw [hs] at e
            simp only [Result.andThen_ok] at e
            split at e
            · cases e
            · cases e; first | exact hb | cases hb
        · cases e; first | exact hb | cases hb
      · cases e; first | exact hb | cases hb
    case fieldAddr t x i =>
      rw [← Zfl hs]
      simp only [vpO] at hv
      split at hv
      · rename_i fs hu
        split at hv
        · rename_i f hf
          have hz : P.cellsOf f.type ≠ 0 := fun h0 => by rw [h0] at hv; cases hv
          have run : ∀ (ad : Addr) (w : World), (Instr.fieldAt t (.pointer (some ad)) i).run P w = .ok (.pointer (some (ad.add f.offset))) w := fun ad w => by
            simp [Instr.fieldAt, run_underlying hu, hf, Instr.sureAddr, fieldPlace, ZbR hz, hz]
          change ((Instr.fieldAt t (a.eval x) i) >>= fun y => (pure (Next.value y) : Sem Next)).run P w = _ at e
          generalize a.eval x = q at e ⊢
          by_cases hq : ∃ ad, q = .pointer (some ad)
          · obtain ⟨ad, rfl⟩ := hq
            rw [Sem.run_bind, run] at e
            cases e
            simp only [pb, block_add] at hb
            exact hb
          · exfalso
            have hs : Instr.sureAddr q = .halt (.stuck "an address expected (no nilCheck in front?)") := by
              unfold Instr.sureAddr
              split
              · grind
              · rfl
            simp only [Instr.fieldAt, Sem.run_bind, run_underlying hu, Result.andThen_ok, hf, hs] at e
            cases e
        grind
      · cases hv
theorem J.put (hJ : J β env a w) (ht : Zp9 P env o = true) (e : (execOp a.eval o).run P w = .ok n w') {u : Value} (hu : ZnF n = some u) : J β (ZcA P env o) (a.put o.dst u) w' := by
  have hc := (Zkf ht hJ e).2
  unfold ZcA
  have ev : ∀ z : Nat, (∀ d, o.dst = some d → z ≠ d) → (a.put o.dst u).eval (.tmp z) = a.eval (.tmp z) := fun z hz => Act.eval_put fun d hd hx => hz d hd (by cases hx; rfl)
  cases hd : o.dst with
  | none =>
    intro p hp b hb
    rw [← hd, ev _ (fun d h => by rw [hd] at h; cases h)] at hb
    exact ⟨(hJ p hp b hb).1, hc _ (hJ p hp b hb).2⟩
  | some d =>
    intro p hp b hb
    rw [YaB] at hp
    rcases hp with hp | hp
    · split at hp
      · rename_i z hz
        split at hp
        · rename_i r hr
          obtain rfl := Yap.1 hp
          simp only at hb ⊢
          have hu' : n = .value u := by
            have : rdO P o = true := by
              unfold Zjg at hz
              unfold rdO
              cases hv : vpO P o with
              | true => rfl
              | false => rw [hv] at hz; cases hz
            obtain ⟨v, rfl⟩ := (ZfW (ρ := a.eval) this).2 _ _ _ e
            cases hu
            rfl
          subst hu'
          have hb' : pb u = some b := by
            have : (a.put (some d) u).eval (.tmp d) = u ∨ (a.put (some d) u).eval (.tmp d) = undef := by
              simp only [Act.eval, Act.put, Yk, Y0]
              split
              · rename_i h
                split <;> simp_all
              · simp_all
            rcases this with h | h
            · rw [h] at hb; exact hb
            · rw [h] at hb; cases hb
          obtain ⟨h1, h2⟩ := hJ _ (ZcX hr) _ (ZsG hz e hb')
          exact ⟨h1, hc _ h2⟩
        · cases hp
      · cases hp
    · rw [Y5] at hp
      have hne : p.1 ≠ d := fun he => by have := hp.2; rw [he, YaQ] at this; cases this
      rw [← hd, ev _ (fun d' h => by rw [hd] at h; cases h; exact hne)] at hb
      exact ⟨(hJ p hp.1 b hb).1, hc _ (hJ p hp.1 b hb).2⟩
def Ztn (env : List (Nat × Nat)) (o : Oper) : Bool := match o.dst with
  | none => true
  | some d => env.all fun p => !Nat.beq p.1 d
theorem J.keep (hJ : J β env a w) (ht : Zp9 P env o = true) (hf : Ztn env o = true) (e : (execOp a.eval o).run P w = .ok n w') {u : Value} : J β env (a.put o.dst u) w' := by
  have hc := (Zkf ht hJ e).2
  intro p hp b hb
  have : (a.put o.dst u).eval (.tmp p.1) = a.eval (.tmp p.1) := Act.eval_put fun d hd hx => by
    cases hx
    unfold Ztn at hf
    rw [hd] at hf
    have := Yg.1 hf p hp
    rw [YaQ] at this
    cases this
  rw [this] at hb
  exact ⟨(hJ p hp b hb).1, hc _ (hJ p hp b hb).2⟩
end
end Go.Eng
namespace Go.Eng
set_option linter.all false
open Go Go.RowKit
section
variable {V : Type} [Mv V]
def Zzr (s : ByteArray) : List (ByteArray × V) → Option V
 | [] => none
 | p :: r => match decide (p.1 = s) with | true => some p.2 | false => Zzr s r
def ZwC (s : ByteArray) (v : V) : List (ByteArray × V) → List (ByteArray × V)
 | [] => [(s, v)]
 | p :: r => match decide (p.1 = s) with | true => (s, v) :: r | false => p :: ZwC s v r
theorem ZhK (s : ByteArray) : ∀ xs : List (ByteArray × V), Ze7 s (xs.map eEt) = (Zzr s xs).map Mv.e
 | [] => rfl
 | p :: r => by
  simp only [YG, Ze7, eEt, Zgf, Zzr]
  cases decide (p.1 = s) with
  | true => rfl
  | false => exact ZhK s r
theorem Zj8 (s : ByteArray) (v : V) : ∀ xs : List (ByteArray × V), Zhv s (Mv.e v) (xs.map eEt) = (ZwC s v xs).map eEt
 | [] => rfl
 | p :: r => by
  simp only [YG, Zhv, eEt, Zgf, ZwC]
  cases decide (p.1 = s) with
  | true => rfl
  | false => exact congrArg _ (Zj8 s v r)
def lkM (s : ByteArray) (xs : List (ByteArray × V)) : V := (Zzr s xs).getD Mv.z
def inM (s : ByteArray) (xs : List (ByteArray × V)) : Bool := (Zzr s xs).isSome
theorem Zwm (s : ByteArray) (xs : List (ByteArray × V)) : Zl6 (xs.map eEt) s (Mv.e (Mv.z (V := V))) (Mv.e (lkM s xs)) (inM s xs) := by
 unfold Zl6 lkM inM
 rw [ZhK]
 cases Zzr s xs <;> exact ⟨rfl, rfl⟩
variable {os : Nat} {β : Type}
@[reducible] def mlk (xs : List (ByteArray × V)) (s : ByteArray) (k : V → Bool → PT os β) : PT os β :=
 ⟨.av (.d (.bool (inM s xs))) (.ds (Mv.e (lkM s xs)) (k (lkM s xs) (inM s xs)).a), fun E => Zl6 (xs.map eEt) s (Mv.e (Mv.z (V := V))) (Mv.e (lkM s xs)) (inM s xs) ∧ (k (lkM s xs) (inM s xs)).q E, (k (lkM s xs) (inM s xs)).m, fun E => ∀ v b, (k v b).n E,
 fun E hn y hm hL => ⟨Zwm s xs, (k _ _).ok E (hn _ _) y hm hL⟩⟩
@[reducible] def mpu (xs : List (ByteArray × V)) (s : ByteArray) (v : V) (k : PT os β) : PT os β :=
 ⟨.ents ((ZwC s v xs).map eEt) k.a, fun E => ZIF s (Mv.e v) (xs.map eEt) ((ZwC s v xs).map eEt) ∧ k.q E, k.m, k.n, fun E hn y hm hL => ⟨Zj8 s v xs, k.ok E hn y hm hL⟩⟩
end
theorem ZhQ : Zga [] := fun x hx => by cases hx
section
variable {α β γ : Type}
def Zk4 : List (Option (List β)) → Option (List β)
 | [] => some []
 | some a :: r => match Zk4 r with | some b => some (a ++ b) | none => none
 | none :: _ => none
def ZrK (M : Option (List γ)) (k : γ → Option (List β)) : Option (List β) := M.bind fun zs => Zk4 (zs.map k)
theorem ZeL : ∀ {l : List (Option (List β))} {ys : List β}, Zk4 l = some ys → ∀ x ∈ l, ∃ yz, x = some yz ∧ ∀ y ∈ yz, y ∈ ys
 | [], _, _, x, hx => by cases hx
 | none :: r, ys, h, x, hx => by cases h
 | some a :: r, ys, h, x, hx => by
  unfold Zk4 at h
  cases hr : Zk4 r with
  | none => rw [hr] at h; cases h
  | some b =>
   rw [hr] at h
   cases h
   rcases Yv.1 hx with rfl | hx
   ·grind
   ·obtain ⟨yz, e1, e2⟩ := ZeL hr x hx
    grind
theorem ZgC {M : Option (List γ)} {k : γ → Option (List β)} {ys : List β} (h : ZrK M k = some ys) : ∃ zs, M = some zs ∧ ∀ z ∈ zs, ∃ yz, k z = some yz ∧ ∀ y ∈ yz, y ∈ ys := by
 obtain ⟨zs, e1, e2⟩ := bind_some h
 exact ⟨zs, e1, fun z hz => ZeL e2 _ (Yah hz)⟩
end
abbrev ZCv {β : Type} (L : β → Prop) (ys : List β) : Prop := ∀ y ∈ ys, L y
def ZDx {β : Type} (L : List β → Prop) : Prop := ∀ ys zs, (∀ z ∈ zs, z ∈ ys) → L ys → L zs
theorem ZrY {β : Type} (L : β → Prop) : ZDx (ZCv L) := fun _ _ h hL z hz => hL z (h z hz)
section
variable {os : Nat} {β V : Type} [Mv V]
@[reducible] def nxN (xs : List (ByteArray × V)) (k0 : PT os (List β)) (k1 : ByteArray × V → List (ByteArray × V) → PT os (List β)) : PT os (List β) :=
 ⟨.all k0.a (fun i => .ds (eEt (xs.getD i (⟨#[]⟩, Mv.z))) (.ents ((xs.eraseIdx i).map eEt) (k1 (xs.getD i (⟨#[]⟩, Mv.z)) (xs.eraseIdx i)).a)),
 fun E => (xs.map eEt = [] → k0.q E) ∧ ∀ i, i < (xs.map (eEt (V := V))).length → ZIY (xs.map eEt) i (eEt (xs.getD i (⟨#[]⟩, Mv.z))) ((xs.eraseIdx i).map eEt) ∧ (k1 (xs.getD i (⟨#[]⟩, Mv.z)) (xs.eraseIdx i)).q E,
 match xs with | [] => k0.m | _ :: _ => Zk4 ((List.range xs.length).map fun i => (k1 (xs.getD i (⟨#[]⟩, Mv.z)) (xs.eraseIdx i)).m),
 fun E => ZDx E.L ∧ k0.n E ∧ ∀ x l, (k1 x l).n E, fun E hn y hm hL => by
  obtain ⟨hM, hn0, hn1⟩ := hn
  cases xs with
  | nil => exact ⟨fun _ => k0.ok E hn0 y hm hL, fun i hi => by simp at hi⟩
  | cons x r =>
   refine ⟨fun h => by simp at h, fun i hi => ?_⟩
   rw [YD] at hi
   obtain ⟨yz, e1, e2⟩ := ZeL hm _ (Yah (Yaq.2 hi))
   refine ⟨⟨?_, (ZfI _ _ _).symm⟩, (k1 _ _).ok E (hn1 _ _) yz e1 (hM _ _ e2 hL)⟩
   rw [Yu, Yb hi, Yw, Yb hi]
   rfl⟩
@[reducible] def lrN (er : β → AV) (bs : β → List Blk) (y : β) : PT os (List β) := lf (fun E => E.P (er y) (bs y)) [y]
end
section
variable {os : Nat} {σ ξ ρ : Type}
@[reducible] def lnN (S : σ → St) (v : σ) : PT os (List (Lv σ ξ ρ)) := lf (fun E => E.Q .normal (S v)) [.nx v]
@[reducible] def ZKN (X : ξ → Nat × St) (b : ξ) : PT os (List (Lv σ ξ ρ)) := lf (fun E => E.Q (.exit (X b).1) (X b).2) [.ex b]
def Zmp (B : σ → Option (List (Lv σ ξ ρ))) : Nat → σ → Option (List (ξ ⊕ ρ))
 | 0, _ => none
 | n + 1, v => ZrK (B v) fun o => match o with
  | .nx v' => Zmp B n v'
  | .ex b => some [.inl b]
  | .rt y => some [.inr y]
variable {P : Program} {T : Nat → Option TI} {n : Nat} {C : Cx} {τ : St} {Q : Exit → St → Prop} {rs : List ResultVar} {c : Code} {Post : AV → List Blk → Prop}
variable {S : σ → St} {X : ξ → Nat × St} {er : ρ → AV} {bs : ρ → List Blk} {B : σ → Option (List (Lv σ ξ ρ))}
def KLN (P : Program) (T : Nat → Option TI) (n : Nat) (C : Cx) (c : Code) (rs : List ResultVar) (os : Nat) (S : σ → St) (X : ξ → Nat × St) (er : ρ → AV) (bs : ρ → List Blk) (B : σ → Option (List (Lv σ ξ ρ))) : Prop :=
 ∀ v o, B v = some o → ∀ (Q : Exit → St → Prop) (Post : AV → List Blk → Prop), (∀ τ, FQ T rs os Post .ret τ → Q .ret τ) → HL (ZCv (LvL S X er bs Q Post)) o → LW P n C c (S v) Q
theorem ZfZ (hb : KLN P T n C c rs os S X er bs B) (hQ : ∀ τ, FQ T rs os Post .ret τ → Q .ret τ) : ∀ (k : Nat) (v : σ) (os' : List (ξ ⊕ ρ)), Zmp B k v = some os' →
  (∀ b, .inl b ∈ os' → Q (.exit (X b).1) (X b).2) → (∀ y, .inr y ∈ os' → Post (er y) (bs y)) → LL P n C c (S v) Q
 | 0, v, o, h, _, _ => by cases h
 | k + 1, v, o, h, h1, h2 => by
  rw [Zmp] at h
  refine Zjs ?_
  obtain ⟨zs, e1, e2⟩ := ZgC h
  refine hb v zs e1 _ Post (fun τ hτ => hQ τ hτ) (fun z hz => ?_)
  obtain ⟨yz, f1, f2⟩ := e2 z hz
  cases z with
  | nx v' => exact ZfZ hb hQ k v' yz f1 (fun b hb' => h1 b (f2 _ hb')) (fun y hy => h2 y (f2 _ hy))
  | ex b => cases f1; exact h1 b (f2 _ (.head _))
  | rt y => cases f1; exact h2 y (f2 _ (.head _))
theorem ZKo {g : ξ → Option (List ρ)} {N : Nat} {v : σ} {y : List ρ} (hb : KLN P T n C c rs os S X er bs B) (hQ : ∀ τ, FQ T rs os Post .ret τ → Q .ret τ) (hm : ZrK (Zmp B N v) (Sum.elim g fun z => some [z]) = some y) (hL : HL (ZCv fun y => Post (er y) (bs y)) y)
  (h1 : ∀ b y', g b = some y' → HL (ZCv fun y => Post (er y) (bs y)) y' → Q (.exit (X b).1) (X b).2) (hs : S v = τ := by kernel_rfl) : LL P n C c τ Q := by
 subst hs
 obtain ⟨zs, e1, e2⟩ := ZgC hm
 refine ZfZ hb hQ N v zs e1 (fun b hb' => ?_) (fun z hz => ?_)
 ·obtain ⟨yz, f1, f2⟩ := e2 _ hb'
  exact h1 b yz f1 fun z hz => hL z (f2 z hz)
 ·obtain ⟨yz, f1, f2⟩ := e2 _ hz
  cases f1
  exact hL z (f2 z (.head _))
end
structure KCN (P : Program) (f : FuncId) (xs : List AV) {γ : Type} (M : Option (List γ)) (e : γ → AV) : Prop where
 k : ∀ l H ys, M = some ys → Zb8 P f l xs H (fun z H' => (∃ y ∈ ys, z = e y) ∧ H' = H)
 x : ∀ r, Zaq r xs = xs
 e : ∀ r y, ren r (e y) = e y
theorem KCN.one {P : Program} {f : FuncId} {xs : List AV} {γ : Type} {M : Option (List γ)} {e : γ → AV} (K : KCN P f xs M e) (N : Option γ) (h : ∀ y, N = some y → ∃ ys, M = some ys ∧ ∀ z ∈ ys, z = y) : KC P f xs N e :=
 ⟨fun l H y hy => by
  obtain ⟨ys, e1, e2⟩ := h y hy
  exact (K.k l H ys e1).mono fun z H' ⟨⟨y', h1, h2⟩, h3⟩ => ⟨by rw [h2, e2 y' h1], h3⟩, K.x, K.e⟩
theorem ZJ5 {P : Program} {T : Nat → Option TI} {n : Nat} {f : FuncId} {fn : Func} {xs : List AV} {γ : Type} {M : Option (List γ)} {e : γ → AV} (hf : P.funcs[f]? = some fn) (hn : fn.ntmps = n) (hT : TOk P T) (rs : List ResultVar)
  (h : ∀ C : Cx, CO C 0 → ∀ y, M = some y → ∀ Post : AV → List Blk → Prop, HL (ZCv fun y => Post (e y) []) y → LW P n C (pa [] (Zah fn)) (mkS (Zix 0 xs) []) (FQ T rs 0 Post))
  (hx : ∀ r, Zaq r xs = xs := by intro r; kernel_rfl) (he : ∀ r y, ren r (e y) = e y := by intro r y; kernel_rfl)
  (hb : fn.body = some (Zah fn) := by kernel_rfl) (hname : (fn.name == "runtime.NumGoroutine") = false := by kernel_rfl) (hr : fn.results.toList = rs := by kernel_rfl) (hl : Nat.ble xs.length n = true := by kernel_rfl) : KCN P f xs M e :=
 ⟨fun l H ys hm => Zgq rs (Zah fn) (fun _ => .top) xs hf hb hname hn hr (Yc hl) hT (hx _) fun B => h _ ⟨ZfJ l B _ H, rfl, rfl, fun _ h => absurd h (Yaj _)⟩ ys hm (fun z _ => (∃ y ∈ ys, z = e y) ∧ H = H) (fun y hy => ⟨⟨y, hy, rfl⟩, rfl⟩), hx, he⟩
structure KON (P : Program) (f : FuncId) (os : Nat) (ys : List AV) (bi : List Blk) (Θ : Cl) {γ : Type} (M : Option (List γ)) (e : γ → AV) (bs : γ → List Blk) : Prop where
 k : ∀ l H (ks : List Key) (gs : List Nat) (θ : Nat → AV), ks.length = os → Zt4 l ks → ks.Nodup → HOk H (rOf l ks gs θ H) (Ziv 0 bi) 0 ks → Θ (fun k => k ∈ ks) l H θ → ∀ zs, M = some zs →
  Zb8 P f l (Zaq (rOf l ks gs θ H) ys) H (fun z H' => ∃ y ∈ zs, z = ren (rOf l ks gs θ H) (e y) ∧ H' = Zhz H ks (Zdh (rOf l ks gs θ H) 0 (bs y)))
end Go.Eng
