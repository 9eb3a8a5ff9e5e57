import Derived.Test.YtchkcemlglpobaaGreatCl14
import Derived.Test.YtchkcemlglpobaaGreatCl00
namespace Go.Eng
set_option linter.all false
open Go Go.RowKit
def pb : Value → Option Nat
 | .pointer (some a) => some a.block
 | _ => none
def Cel (w : World) (b : Nat) : Prop := ∃ C e f, w.heap[b]? = some (.cells C e f)
section
variable {P : Program} {α β : Type}
theorem ZpW {v : Value} {a : Addr} {w w1 : World} (h : (Instr.sureAddr v).run P w = .ok a w1) : v = .pointer (some a) ∧ w1 = w := by
 unfold Instr.sureAddr at h
 split at h
 ·cases h; exact ⟨rfl, rfl⟩
 ·cases h
def Lo (b : Nat) (P : Program) (s : Sem α) : Prop := ∀ w r w1 w2, s.run P w = .ok r w1 → Cel w b → w2.heap[b]? = w.heap[b]? → s.run P w2 = .ok r w2
theorem Vp.lo {b : Nat} {s : Sem α} (h : Vp P s) : Lo b P s := fun w r w1 w2 e _ _ => (h w r w1 e).2 w2
theorem Lo.bind {b : Nat} {s : Sem α} {f : α → Sem β} (hr : Rd P s) (h : Lo b P s) (k : ∀ a, Lo b P (f a)) : Lo b P (s >>= f) := fun w r w1 w2 e h1 h2 => by
 rw [Sem.run_bind] at e ⊢
 cases hs : s.run P w with
 | halt x w' => rw [hs] at e; cases e
 | ok a w' =>
  rw [hs] at e
  have := hr w a w' hs
  subst this
  rw [h _ _ _ _ hs h1 h2]
  exact k a _ _ _ _ e h1 h2
theorem Znl (a : Addr) : Lo a.block P (load a) := fun w r w1 w2 e ⟨C, t, f, hC⟩ h2 => by
 unfold load at e ⊢
 simp only [Sem.run] at e ⊢
 have hc : w2.cell? a = w.cell? a := World.cell?_of_block h2
 rw [hc]
 cases hv : w.cell? a with
 | some v => rw [hv] at e; cases e; rfl
 | none =>
  rw [hv] at e
  have : w.farLoad P a (Mode.plain == Mode.atomic) = .error (w.noCell a "load: no such cell") := by unfold World.farLoad; rw [hC]
  grind
theorem Zfb (a : Addr) : ∀ (n i : Nat) (acc : Array Value), Lo a.block P (loadCellsFrom a i n acc)
 | 0, i, acc => (Vp.pure _).lo
 | n + 1, i, acc => by
  unfold loadCellsFrom
  refine .bind (ZhS _) ?_ fun v => Zfb a n (i + 1) _
  have := Znl (P := P) (a.add i)
  rwa [block_add] at this
theorem Zl7 (t : TypeId) (a : Addr) : Lo a.block P (loadVar t a) := by
 unfold loadVar
 refine .bind (Zd9 t).rd (Zd9 t).lo fun b => ?_
 cases b with
 | true => exact .bind (Zbf t).rd (Zbf t).lo fun n => .bind (ZcZ a n 0 _) (Zfb a n 0 _) fun _ => (Vp.pure _).lo
 | false => exact Znl a
theorem ZwD {ρ : Operand → Value} {o : Oper} {t : TypeId} {x : Operand} {w w2 : World} {v : Value} (ho : o.op = .load t x) (e : (execOp ρ o).run P w = .ok (.value v) w) :
  ∃ b, pb (ρ x) = some b ∧ (Cel w b → w2.heap[b]? = w.heap[b]? → (execOp ρ o).run P w2 = .ok (.value v) w2) := by
 obtain ⟨dst, op, type, pos, after, guard⟩ := o
 cases ho
 change ((Instr.loadAt t (ρ x)) >>= fun y => (pure (Next.value y) : Sem Next)).run P w = _ at e
 show ∃ b, pb (ρ x) = some b ∧ (_ → _ → ((Instr.loadAt t (ρ x)) >>= fun y => (pure (Next.value y) : Sem Next)).run P w2 = _)
 generalize ρ x = q at e ⊢
 have : ∃ a, q = .pointer (some a) := by
  cases hs : (Instr.sureAddr q).run P w with
  | halt _ _ => unfold Instr.loadAt at e; simp only [Sem.run_bind, hs] at e; cases e
  | ok a w' => exact ⟨a, (ZpW hs).1⟩
 obtain ⟨a, rfl⟩ := this
 exact ⟨a.block, rfl, fun h1 h2 => Lo.bind (Rd.bind (Vp.pure a).rd fun a => Ze2 t a) (Zl7 t a) (fun _ => (Vp.pure _).lo) _ _ _ _ e h1 h2⟩
def So (b : Nat) (P : Program) (s : Sem α) : Prop := ∀ w r w1, s.run P w = .ok r w1 → Cel w b → Cel w1 b ∧ ∀ k, k ≠ b → w1.heap[k]? = w.heap[k]?
theorem Rd.so {b : Nat} {s : Sem α} (h : Rd P s) : So b P s := fun w r w1 e hc => by rw [h w r w1 e]; exact ⟨hc, fun _ _ => rfl⟩
theorem So.bind {b : Nat} {s : Sem α} {f : α → Sem β} (h : So b P s) (k : ∀ a, So b P (f a)) : So b P (s >>= f) := fun w r w1 e hc => by
 rw [Sem.run_bind] at e
 cases hs : s.run P w with
 | halt x w' => rw [hs] at e; cases e
 | ok a w' =>
  rw [hs] at e
  obtain ⟨h1, h2⟩ := h _ _ _ hs hc
  obtain ⟨h3, h4⟩ := k a _ _ _ e h1
  grind
theorem Zub (a : Addr) (v : Value) : So a.block P (store a v) := fun w r w1 e ⟨C, t, f, hC⟩ => by
 unfold store at e
 have key : ∀ w1, w1 = w.setCell a v → Cel w1 a.block ∧ ∀ k, k ≠ a.block → w1.heap[k]? = w.heap[k]? := fun w1 e => by
  subst e
  unfold World.setCell
  constructor
  ·refine ⟨(if a.spot.isSome then C else C.setIfInBounds a.off v), t, f, ?_⟩
   show (w.heap.modify a.block _)[a.block]? = _
   rw [YaJ, hC]
   simp
  ·intro k hk
   show (w.heap.modify a.block _)[k]? = _
   rw [YaJ]
   simp [Ne.symm hk]
 cases v <;> simp only [Sem.run] at e <;> first
  | (cases e; done)
  | (cases hv : w.cell? a with
    | some x =>
     rw [hv] at e
     simp only at e
     split at e
     ·cases e
     ·cases e; exact key _ rfl
    | none =>
     rw [hv] at e
     unfold World.farStore at e
     rw [hC] at e
     cases e)
theorem ZeQ (a : Addr) : ∀ (vs : List Value) (i : Nat), So a.block P (storeCells a vs i)
 | [], i => (Vp.pure _).rd.so
 | v :: r, i => by
  unfold storeCells
  refine So.bind ?_ fun _ => ZeQ a r (i + 1)
  have := Zub (P := P) (a.add i) v
  rwa [block_add] at this
theorem ZjX (t : TypeId) (a : Addr) (v : Value) : So a.block P (storeVar t a v) := by
 unfold storeVar
 refine (Zbf t).rd.so.bind fun n => ?_
 by_cases h : v.cells.size ≠ n
 ·rw [if_pos h]
  intro w r w1 e
  cases e
 ·rw [if_neg h]
  exact ZeQ a _ 0
theorem ZxB {ρ : Operand → Value} {o : Oper} {t : TypeId} {x y : Operand} {w w1 : World} {r : Next} (ho : o.op = .store t x y) (e : (execOp ρ o).run P w = .ok r w1) :
  r = .skip ∧ ∃ b, pb (ρ x) = some b ∧ (Cel w b → Cel w1 b ∧ ∀ k, k ≠ b → w1.heap[k]? = w.heap[k]?) := by
 obtain ⟨dst, op, type, pos, after, guard⟩ := o
 cases ho
 change ((Instr.storeAt t (ρ x) (ρ y)) >>= fun _ => (pure Next.skip : Sem Next)).run P w = _ at e
 generalize ρ x = q at e ⊢
 generalize ρ y = v at e
 have h1 : r = .skip := by
  rw [Sem.run_bind] at e
  cases hs : (Instr.storeAt t q v).run P w with
  | halt _ _ => rw [hs] at e; cases e
  | ok _ _ => rw [hs] at e; cases e; rfl
 refine ⟨h1, ?_⟩
 have : ∃ a, q = .pointer (some a) := by
  cases hs : (Instr.sureAddr q).run P w with
  | halt _ _ => unfold Instr.storeAt at e; simp only [Sem.run_bind, hs] at e; cases e
  | ok a w' => exact ⟨a, (ZpW hs).1⟩
 obtain ⟨a, rfl⟩ := this
 exact ⟨a.block, rfl, fun hc => So.bind (ZjX t a v) (fun _ => (Vp.pure _).rd.so) _ _ _ e hc⟩
end
def Zii (z : Nat) : List (Nat × Nat) → Option Nat
 | [] => none
 | (d, r) :: l => match Nat.beq d z with | true => some r | false => Zii z l
theorem ZcN {z r : Nat} : ∀ {l : List (Nat × Nat)}, Zii z l = some r → (z, r) ∈ l
 | (d, q) :: l, h => by
  unfold Zii at h
  split at h
  ·rename_i e; cases h; rw [Ya e]; exact Yw ..
  ·exact Yq _ (ZcN h)
def Zke : Operand → Option Nat
 | .tmp z => some z
 | _ => none
def Zj7 (P : Program) (o : Oper) : Option Nat := match vpO P o with
 | true => (match o.op with
  | .fieldAddr _ x _ => Zke x
  | .move x => Zke x
  | .nilCheck x => Zke x
  | _ => none)
 | false => none
def ZcB (P : Program) (env : List (Nat × Nat)) (o : Oper) : List (Nat × Nat) := match o.dst with
 | none => env
 | some d => (match Zj7 P o with | some z => (match Zii z env with | some r => [(d, r)] | none => []) | none => []) ++ env.filter fun p => !Nat.beq p.1 d
def Zua (P : Program) (env : List (Nat × Nat)) (o : Oper) : Bool := rdO P o || grO o || match o.op with
 | .store _ (.tmp y) _ => (Zii y env).isSome
 | _ => false
def J (β : Nat → Nat) (env : List (Nat × Nat)) (a : Act) (w : World) : Prop := ∀ p ∈ env, ∀ b, pb (a.eval (.tmp p.1)) = some b → b = β p.2 ∧ Cel w b
def ZnG : Next → Option Value
 | .value v => some v
 | .skip => some undef
 | _ => none
section
variable {P : Program} {β : Nat → Nat} {env : List (Nat × Nat)} {a : Act} {w w' : World} {o : Oper} {n : Next}
theorem ZkW (h : Zua P env o = true) (hJ : J β env a w) (e : (execOp a.eval o).run P w = .ok n w') : (∃ u, ZnG n = some u) ∧ ∀ b, Cel w b → Cel w' b := by
 unfold Zua at h
 rw [Bool.or_eq_true] at h
 rcases h with h | h
 ·obtain ⟨h1, h2⟩ := ZnA (ρ := a.eval) h
  obtain ⟨v, rfl⟩ := h2 _ _ _ e
  exact ⟨⟨v, rfl⟩, fun b ⟨C, t, f, hC⟩ => ⟨C, t, f, h1 _ _ _ e _ _ hC⟩⟩
 ·split at h
  ·rename_i t y v ho
   obtain ⟨rfl, b0, h1, h2⟩ := ZxB ho e
   obtain ⟨r, hr⟩ := YI.1 h
   obtain ⟨_, h3⟩ := hJ _ (ZcN hr) _ h1
   obtain ⟨h4, h5⟩ := h2 h3
   refine ⟨⟨_, rfl⟩, fun b ⟨C, t, f, hC⟩ => ?_⟩
   by_cases hb : b = b0
   ·grind
   ·exact ⟨C, t, f, (h5 b hb).trans hC⟩
  ·cases h
theorem Zfx {x : Operand} {z : Nat} (h : Zke x = some z) : x = .tmp z := by
 cases x <;> simp only [Zke] at h <;> first | (cases h; done) | skip
 grind
theorem Zvh {z : Nat} {b : Nat} {v : Value} (hs : Zj7 P o = some z) (e : (execOp a.eval o).run P w = .ok (.value v) w') (hb : pb v = some b) : pb (a.eval (.tmp z)) = some b := by
 unfold Zj7 at hs
 cases hv : vpO P o with
 | false => rw [hv] at hs; cases hs
 | true =>
  rw [hv] at hs
  obtain ⟨dst, op, type, pos, after, guard⟩ := o
  cases op <;> simp only at hs <;> first | (cases hs; done) | skip
  case move x => rw [← Zfx hs]; cases e; exact hb
  case nilCheck x =>
   rw [← Zfx hs]
   have hr : ∀ w r w1, (runtimePanic .nilDeref : Sem Next).run P w ≠ .ok r w1 := fun w r w1 e => by
    unfold runtimePanic at e
    simp only [Sem.run_bind, run_program, Result.andThen_ok] at e
    repeat (first | (cases e; done) | split at e | (simp [goPanic, stuck, unsupported, Sem.run] at e; done))
   simp only [execOp] at e
   split at e
   ·grind
   ·grind
   ·grind
   ·split at e
    ·grind
    ·simp only [Sem.run_bind, run_program, Result.andThen_ok] at e
     cases hs : (nilAhead _ _ _ _).run P w with
     | halt x w' => rw [hs] at e; cases e
     | ok q w' =>
      rw [hs] at e
      simp only [Result.andThen_ok] at e
      split at e
      ·cases e
      ·cases e; first | exact hb | cases hb
    ·cases e; first | exact hb | cases hb
   ·cases e; first | exact hb | cases hb
  case fieldAddr t x i =>
   rw [← Zfx hs]
   simp only [vpO] at hv
   split at hv
   ·rename_i fs hu
    split at hv
    ·rename_i f hf
     have hz : P.cellsOf f.type ≠ 0 := fun h0 => by rw [h0] at hv; cases hv
     have run : ∀ (ad : Addr) (w : World), (Instr.fieldAt t (.pointer (some ad)) i).run P w = .ok (.pointer (some (ad.add f.offset))) w := fun ad w => by
      simp [Instr.fieldAt, run_underlying hu, hf, Instr.sureAddr, fieldPlace, ZbQ hz, hz]
     change ((Instr.fieldAt t (a.eval x) i) >>= fun y => (pure (Next.value y) : Sem Next)).run P w = _ at e
     generalize a.eval x = q at e ⊢
     by_cases hq : ∃ ad, q = .pointer (some ad)
     ·obtain ⟨ad, rfl⟩ := hq
      rw [Sem.run_bind, run] at e
      cases e
      simp only [pb, block_add] at hb
      exact hb
     ·exfalso
      have hs : Instr.sureAddr q = .halt (.stuck "an address expected (no nilCheck in front?)") := by
       unfold Instr.sureAddr
       split
       ·grind
       ·rfl
      simp only [Instr.fieldAt, Sem.run_bind, run_underlying hu, Result.andThen_ok, hf, hs] at e
      cases e
    grind
   ·cases hv
theorem J.put (hJ : J β env a w) (ht : Zua P env o = true) (e : (execOp a.eval o).run P w = .ok n w') {u : Value} (hu : ZnG n = some u) : J β (ZcB P env o) (a.put o.dst u) w' := by
 have hc := (ZkW ht hJ e).2
 unfold ZcB
 have ev : ∀ z : Nat, (∀ d, o.dst = some d → z ≠ d) → (a.put o.dst u).eval (.tmp z) = a.eval (.tmp z) := fun z hz => Act.eval_put fun d hd hx => hz d hd (by cases hx; rfl)
 cases hd : o.dst with
 | none =>
  intro p hp b hb
  rw [← hd, ev _ (fun d h => by rw [hd] at h; cases h)] at hb
  exact ⟨(hJ p hp b hb).1, hc _ (hJ p hp b hb).2⟩
 | some d =>
  intro p hp b hb
  rw [Yai] at hp
  rcases hp with hp | hp
  ·split at hp
   ·rename_i z hz
    split at hp
    ·rename_i r hr
     obtain rfl := Y3.1 hp
     simp only at hb ⊢
     have hu' : n = .value u := by
      have : rdO P o = true := by
       unfold Zj7 at hz
       unfold rdO
       cases hv : vpO P o with
       | true => rfl
       | false => rw [hv] at hz; cases hz
      obtain ⟨v, rfl⟩ := (ZfY (ρ := a.eval) this).2 _ _ _ e
      cases hu
      rfl
     subst hu'
     have hb' : pb u = some b := by
      have : (a.put (some d) u).eval (.tmp d) = u ∨ (a.put (some d) u).eval (.tmp d) = undef := by
       simp only [Act.eval, Act.put, Ym, Y5]
       split
       ·rename_i h
        split <;> simp_all
       ·simp_all
      rcases this with h | h
      ·rw [h] at hb; exact hb
      ·rw [h] at hb; cases hb
     obtain ⟨h1, h2⟩ := hJ _ (ZcN hr) _ (Zvh hz e hb')
     exact ⟨h1, hc _ h2⟩
    ·cases hp
   ·cases hp
  ·rw [YX] at hp
   have hne : p.1 ≠ d := fun he => by have := hp.2; rw [he, Ya4] at this; cases this
   rw [← hd, ev _ (fun d' h => by rw [hd] at h; cases h; exact hne)] at hb
   exact ⟨(hJ p hp.1 b hb).1, hc _ (hJ p hp.1 b hb).2⟩
def ZuQ (env : List (Nat × Nat)) (o : Oper) : Bool := match o.dst with
 | none => true
 | some d => env.all fun p => !Nat.beq p.1 d
theorem J.keep (hJ : J β env a w) (ht : Zua P env o = true) (hf : ZuQ env o = true) (e : (execOp a.eval o).run P w = .ok n w') {u : Value} : J β env (a.put o.dst u) w' := by
 have hc := (ZkW ht hJ e).2
 intro p hp b hb
 have : (a.put o.dst u).eval (.tmp p.1) = a.eval (.tmp p.1) := Act.eval_put fun d hd hx => by
  cases hx
  unfold ZuQ at hf
  rw [hd] at hf
  have := Yh.1 hf p hp
  rw [Ya4] at this
  cases this
 rw [this] at hb
 exact ⟨(hJ p hp b hb).1, hc _ (hJ p hp b hb).2⟩
end
end Go.Eng
namespace Go.Eng
set_option linter.all false
open Go Go.RowKit
section
variable {V : Type} [Mv V]
def ZgX (s : ByteArray) : List (ByteArray × V) → Option V
 | [] => none
 | p :: r => match decide (p.1 = s) with | true => some p.2 | false => ZgX s r
def Zfh (s : ByteArray) (v : V) : List (ByteArray × V) → List (ByteArray × V)
 | [] => [(s, v)]
 | p :: r => match decide (p.1 = s) with | true => (s, v) :: r | false => p :: Zfh s v r
theorem Zi1 (s : ByteArray) : ∀ xs : List (ByteArray × V), Zfg s (xs.map eEt) = (ZgX s xs).map Mv.e
 | [] => rfl
 | p :: r => by
  simp only [YE, Zfg, eEt, ZgA, ZgX]
  cases decide (p.1 = s) with
  | true => rfl
  | false => exact Zi1 s r
theorem Zlf (s : ByteArray) (v : V) : ∀ xs : List (ByteArray × V), Zh9 s (Mv.e v) (xs.map eEt) = (Zfh s v xs).map eEt
 | [] => rfl
 | p :: r => by
  simp only [YE, Zh9, eEt, ZgA, Zfh]
  cases decide (p.1 = s) with
  | true => rfl
  | false => exact congrArg _ (Zlf s v r)
def lkM (s : ByteArray) (xs : List (ByteArray × V)) : V := (ZgX s xs).getD Mv.z
def inM (s : ByteArray) (xs : List (ByteArray × V)) : Bool := (ZgX s xs).isSome
theorem ZwB (s : ByteArray) (xs : List (ByteArray × V)) : ZoM (xs.map eEt) s (Mv.e (Mv.z (V := V))) (Mv.e (lkM s xs)) (inM s xs) := by
 unfold ZoM lkM inM
 rw [Zi1]
 cases ZgX s xs <;> exact ⟨rfl, rfl⟩
variable {os : Nat} {β : Type}
@[reducible] def mlk (xs : List (ByteArray × V)) (s : ByteArray) (k : V → Bool → PT os β) : PT os β :=
 ⟨.av (.d (.bool (inM s xs))) (.ds (Mv.e (lkM s xs)) (k (lkM s xs) (inM s xs)).a), fun E => ZoM (xs.map eEt) s (Mv.e (Mv.z (V := V))) (Mv.e (lkM s xs)) (inM s xs) ∧ (k (lkM s xs) (inM s xs)).q E, (k (lkM s xs) (inM s xs)).m, fun E => ∀ v b, (k v b).n E,
 fun E hn y hm hL => ⟨ZwB s xs, (k _ _).ok E (hn _ _) y hm hL⟩⟩
@[reducible] def mpu (xs : List (ByteArray × V)) (s : ByteArray) (v : V) (k : PT os β) : PT os β :=
 ⟨.ents ((Zfh s v xs).map eEt) k.a, fun E => ZLf s (Mv.e v) (xs.map eEt) ((Zfh s v xs).map eEt) ∧ k.q E, k.m, k.n, fun E hn y hm hL => ⟨Zlf s v xs, k.ok E hn y hm hL⟩⟩
end
theorem Zib : ZfG [] := fun x hx => by cases hx
section
variable {α β γ : Type}
def ZgE : List (Option (List β)) → Option (List β)
 | [] => some []
 | some a :: r => match ZgE r with | some b => some (a ++ b) | none => none
 | none :: _ => none
def Zoa (M : Option (List γ)) (k : γ → Option (List β)) : Option (List β) := M.bind fun zs => ZgE (zs.map k)
theorem Ze1 : ∀ {l : List (Option (List β))} {ys : List β}, ZgE l = some ys → ∀ x ∈ l, ∃ yz, x = some yz ∧ ∀ y ∈ yz, y ∈ ys
 | [], _, _, x, hx => by cases hx
 | none :: r, ys, h, x, hx => by cases h
 | some a :: r, ys, h, x, hx => by
  unfold ZgE at h
  cases hr : ZgE r with
  | none => rw [hr] at h; cases h
  | some b =>
   rw [hr] at h
   cases h
   rcases Ys.1 hx with rfl | hx
   ·grind
   ·obtain ⟨yz, e1, e2⟩ := Ze1 hr x hx
    grind
theorem Zg0 {M : Option (List γ)} {k : γ → Option (List β)} {ys : List β} (h : Zoa M k = some ys) : ∃ zs, M = some zs ∧ ∀ z ∈ zs, ∃ yz, k z = some yz ∧ ∀ y ∈ yz, y ∈ ys := by
 obtain ⟨zs, e1, e2⟩ := bind_some h
 exact ⟨zs, e1, fun z hz => Ze1 e2 _ (Yao hz)⟩
end
abbrev ZEG {β : Type} (L : β → Prop) (ys : List β) : Prop := ∀ y ∈ ys, L y
def ZEL {β : Type} (L : List β → Prop) : Prop := ∀ ys zs, (∀ z ∈ zs, z ∈ ys) → L ys → L zs
theorem Zun {β : Type} (L : β → Prop) : ZEL (ZEG L) := fun _ _ h hL z hz => hL z (h z hz)
section
variable {os : Nat} {β V : Type} [Mv V]
@[reducible] def nxN (xs : List (ByteArray × V)) (k0 : PT os (List β)) (k1 : ByteArray × V → List (ByteArray × V) → PT os (List β)) : PT os (List β) :=
 ⟨.all k0.a (fun i => .ds (eEt (xs.getD i (⟨#[]⟩, Mv.z))) (.ents ((xs.eraseIdx i).map eEt) (k1 (xs.getD i (⟨#[]⟩, Mv.z)) (xs.eraseIdx i)).a)),
 fun E => (xs.map eEt = [] → k0.q E) ∧ ∀ i, i < (xs.map (eEt (V := V))).length → ZKK (xs.map eEt) i (eEt (xs.getD i (⟨#[]⟩, Mv.z))) ((xs.eraseIdx i).map eEt) ∧ (k1 (xs.getD i (⟨#[]⟩, Mv.z)) (xs.eraseIdx i)).q E,
 match xs with | [] => k0.m | _ :: _ => ZgE ((List.range xs.length).map fun i => (k1 (xs.getD i (⟨#[]⟩, Mv.z)) (xs.eraseIdx i)).m),
 fun E => ZEL E.L ∧ k0.n E ∧ ∀ x l, (k1 x l).n E, fun E hn y hm hL => by
  obtain ⟨hM, hn0, hn1⟩ := hn
  cases xs with
  | nil => exact ⟨fun _ => k0.ok E hn0 y hm hL, fun i hi => by simp at hi⟩
  | cons x r =>
   refine ⟨fun h => by simp at h, fun i hi => ?_⟩
   rw [Yu] at hi
   obtain ⟨yz, e1, e2⟩ := Ze1 hm _ (Yao (Yat.2 hi))
   refine ⟨⟨?_, (ZfM _ _ _).symm⟩, (k1 _ _).ok E (hn1 _ _) yz e1 (hM _ _ e2 hL)⟩
   rw [Yv, Yb hi, Yt, Yb hi]
   rfl⟩
@[reducible] def lrN (er : β → AV) (bs : β → List Blk) (y : β) : PT os (List β) := lf (fun E => E.P (er y) (bs y)) [y]
end
section
variable {os : Nat} {σ ξ ρ : Type}
@[reducible] def lnN (S : σ → St) (v : σ) : PT os (List (Lv σ ξ ρ)) := lf (fun E => E.Q .normal (S v)) [.nx v]
@[reducible] def ZJP (X : ξ → Nat × St) (b : ξ) : PT os (List (Lv σ ξ ρ)) := lf (fun E => E.Q (.exit (X b).1) (X b).2) [.ex b]
def ZiX (B : σ → Option (List (Lv σ ξ ρ))) : Nat → σ → Option (List (ξ ⊕ ρ))
 | 0, _ => none
 | n + 1, v => Zoa (B v) fun o => match o with
  | .nx v' => ZiX B n v'
  | .ex b => some [.inl b]
  | .rt y => some [.inr y]
variable {P : Program} {T : Nat → Option TI} {n : Nat} {C : Cx} {τ : St} {Q : Exit → St → Prop} {rs : List ResultVar} {c : Code} {Post : AV → List Blk → Prop}
variable {S : σ → St} {X : ξ → Nat × St} {er : ρ → AV} {bs : ρ → List Blk} {B : σ → Option (List (Lv σ ξ ρ))}
def KLN (P : Program) (T : Nat → Option TI) (n : Nat) (C : Cx) (c : Code) (rs : List ResultVar) (os : Nat) (S : σ → St) (X : ξ → Nat × St) (er : ρ → AV) (bs : ρ → List Blk) (B : σ → Option (List (Lv σ ξ ρ))) : Prop :=
 ∀ v o, B v = some o → ∀ (Q : Exit → St → Prop) (Post : AV → List Blk → Prop), (∀ τ, FQ T rs os Post .ret τ → Q .ret τ) → HL (ZEG (LvL S X er bs Q Post)) o → LW P n C c (S v) Q
theorem Zgm (hb : KLN P T n C c rs os S X er bs B) (hQ : ∀ τ, FQ T rs os Post .ret τ → Q .ret τ) : ∀ (k : Nat) (v : σ) (os' : List (ξ ⊕ ρ)), ZiX B k v = some os' →
  (∀ b, .inl b ∈ os' → Q (.exit (X b).1) (X b).2) → (∀ y, .inr y ∈ os' → Post (er y) (bs y)) → LL P n C c (S v) Q
 | 0, v, o, h, _, _ => by cases h
 | k + 1, v, o, h, h1, h2 => by
  rw [ZiX] at h
  refine ZkU ?_
  obtain ⟨zs, e1, e2⟩ := Zg0 h
  refine hb v zs e1 _ Post (fun τ hτ => hQ τ hτ) (fun z hz => ?_)
  obtain ⟨yz, f1, f2⟩ := e2 z hz
  cases z with
  | nx v' => exact Zgm hb hQ k v' yz f1 (fun b hb' => h1 b (f2 _ hb')) (fun y hy => h2 y (f2 _ hy))
  | ex b => cases f1; exact h1 b (f2 _ (.head _))
  | rt y => cases f1; exact h2 y (f2 _ (.head _))
theorem ZLV {g : ξ → Option (List ρ)} {N : Nat} {v : σ} {y : List ρ} (hb : KLN P T n C c rs os S X er bs B) (hQ : ∀ τ, FQ T rs os Post .ret τ → Q .ret τ) (hm : Zoa (ZiX B N v) (Sum.elim g fun z => some [z]) = some y) (hL : HL (ZEG fun y => Post (er y) (bs y)) y)
  (h1 : ∀ b y', g b = some y' → HL (ZEG fun y => Post (er y) (bs y)) y' → Q (.exit (X b).1) (X b).2) (hs : S v = τ := by kernel_rfl) : LL P n C c τ Q := by
 subst hs
 obtain ⟨zs, e1, e2⟩ := Zg0 hm
 refine Zgm hb hQ N v zs e1 (fun b hb' => ?_) (fun z hz => ?_)
 ·obtain ⟨yz, f1, f2⟩ := e2 _ hb'
  exact h1 b yz f1 fun z hz => hL z (f2 z hz)
 ·obtain ⟨yz, f1, f2⟩ := e2 _ hz
  cases f1
  exact hL z (f2 z (.head _))
end
structure KCN (P : Program) (f : FuncId) (xs : List AV) {γ : Type} (M : Option (List γ)) (e : γ → AV) : Prop where
 k : ∀ l H ys, M = some ys → ZbY P f l xs H (fun z H' => (∃ y ∈ ys, z = e y) ∧ H' = H)
 x : ∀ r, Zan r xs = xs
 e : ∀ r y, ren r (e y) = e y
theorem KCN.one {P : Program} {f : FuncId} {xs : List AV} {γ : Type} {M : Option (List γ)} {e : γ → AV} (K : KCN P f xs M e) (N : Option γ) (h : ∀ y, N = some y → ∃ ys, M = some ys ∧ ∀ z ∈ ys, z = y) : KC P f xs N e :=
 ⟨fun l H y hy => by
  obtain ⟨ys, e1, e2⟩ := h y hy
  exact (K.k l H ys e1).mono fun z H' ⟨⟨y', h1, h2⟩, h3⟩ => ⟨by rw [h2, e2 y' h1], h3⟩, K.x, K.e⟩
theorem ZML {P : Program} {T : Nat → Option TI} {n : Nat} {f : FuncId} {fn : Func} {xs : List AV} {γ : Type} {M : Option (List γ)} {e : γ → AV} (hf : P.funcs[f]? = some fn) (hn : fn.ntmps = n) (hT : TOk P T) (rs : List ResultVar)
  (h : ∀ C : Cx, CO C 0 → ∀ y, M = some y → ∀ Post : AV → List Blk → Prop, HL (ZEG fun y => Post (e y) []) y → LW P n C (pa [] (Zai fn)) (mkS (Zjn 0 xs) []) (FQ T rs 0 Post))
  (hx : ∀ r, Zan r xs = xs := by intro r; kernel_rfl) (he : ∀ r y, ren r (e y) = e y := by intro r y; kernel_rfl)
  (hb : fn.body = some (Zai fn) := by kernel_rfl) (hname : (fn.name == "runtime.NumGoroutine") = false := by kernel_rfl) (hr : fn.results.toList = rs := by kernel_rfl) (hl : Nat.ble xs.length n = true := by kernel_rfl) : KCN P f xs M e :=
 ⟨fun l H ys hm => ZgR rs (Zai fn) (fun _ => .top) xs hf hb hname hn hr (Yc hl) hT (hx _) fun B => h _ ⟨Zf2 l B _ H, rfl, rfl, fun _ h => absurd h (Yah _)⟩ ys hm (fun z _ => (∃ y ∈ ys, z = e y) ∧ H = H) (fun y hy => ⟨⟨y, hy, rfl⟩, rfl⟩), hx, he⟩
structure KON (P : Program) (f : FuncId) (os : Nat) (ys : List AV) (bi : List Blk) (Θ : Cl) {γ : Type} (M : Option (List γ)) (e : γ → AV) (bs : γ → List Blk) : Prop where
 k : ∀ l H (ks : List Key) (gs : List Nat) (θ : Nat → AV), ks.length = os → ZuD l ks → ks.Nodup → HOk H (rOf l ks gs θ H) (Zjo 0 bi) 0 ks → Θ (fun k => k ∈ ks) l H θ → ∀ zs, M = some zs →
  ZbY P f l (Zan (rOf l ks gs θ H) ys) H (fun z H' => ∃ y ∈ zs, z = ren (rOf l ks gs θ H) (e y) ∧ H' = ZiQ H ks (Zda (rOf l ks gs θ H) 0 (bs y)))
end Go.Eng
