import Derived.Test.YtchkcemlglpobaaGreatCl01
import Derived.Conc.MuLone
import Derived.Laws.CopyRow
import Derived.Deep.AppendSrc
import Derived.Great.BuildSlice
import Derived.Test.YtchkcemlglpobaaGreatCl00
namespace Go.Eng
set_option linter.all false
open Go Go.RowKit
def Ze4 : Operand → Bool
 | .const (.slice none 0 0) => true
 | _ => false
def mmI (mx : Bool) (x y : Int) : Int := if mx then (if y > x then y else x) else (if y < x then y else x)
def vMM (mx : Bool) (x y : AV) (K : AV → Prop) : Prop :=
 match x, y with
 | .d (.int k m), .d (.int _ n) => K (.d (.int k (mmI mx m n)))
 | _, _ => False
def ZrK (mx : Bool) (x y z : AV) (K : AV → Prop) : Prop :=
 match x, y, z with
 | .d (.int k m), .d (.int _ n), .d (.int _ p) => K (.d (.int k (mmI mx (mmI mx m n) p)))
 | _, _, _ => False
def mmB : Builtin → Option Bool
 | .min => some false
 | .max => some true
 | _ => none
def ZvG (H : Hp) (x : AV) (K : AV → Prop) : Prop :=
 match x with
 | .ptr k g off => g = (H k).g ∧ (H k).live = true ∧ K (.ptr k g off)
 | .iptr cs off => K (.iptr cs off)
 | _ => False
def ZA6 : List AV → Option (List D)
 | [] => some []
 | .d x :: r => match ZA6 r with | some ds => some (x :: ds) | none => none
 | _ => none
theorem ZhO : ∀ {cs : List AV} {ds : List D}, ZA6 cs = some ds → cs = ds.map .d
 | [], ds, h => by cases h; rfl
 | .d x :: r, ds, h => by
  simp only [ZA6] at h
  split at h
  ·rename_i ds' h'; cases h; rw [ZhO h']; rfl
  ·cases h
 | .top :: _, _, h => by cases h
 | .e0 :: _, _, h => by cases h
 | .p _ :: _, _, h => by cases h
 | .ref _ _ _ _ :: _, _, h => by cases h
 | .ptr _ _ _ :: _, _, h => by cases h
 | .mp _ _ :: _, _, h => by cases h
 | .iptr _ _ :: _, _, h => by cases h
 | .ifc _ _ _ :: _, _, h => by cases h
 | .fn _ _ _ :: _, _, h => by cases h
 | .agg _ :: _, _, h => by cases h
 | .tup _ :: _, _, h => by cases h
def upk : Bool → List D → Option AV
 | true, ds => some (.agg (ds.map .d))
 | false, [d] => some (.d d)
 | _, _ => none
def nif (P : Program) (t : TypeId) : Bool := match P.underlying t with
 | some (.interface _) => false
 | some _ => true
 | none => false
theorem Zwr {P : Program} {t : TypeId} (h : nif P t = true) : ∃ u, P.underlying t = some u ∧ ∀ ms, u ≠ .interface ms := by
 unfold nif at h
 cases hu : P.underlying t with
 | none => rw [hu] at h; cases h
 | some u => exact ⟨u, rfl, fun ms e => by subst e; rw [hu] at h; cases h⟩
def vOp (P : Program) (H : Hp) (op : Op) (ρ : Operand → AV) (K : AV → Prop) : Prop :=
 match op with
 | .move x | .assign x => K (ρ x)
 | .pick c a b => match ρ c with | .d (.bool t) => K (if t then ρ a else ρ b) | _ => False
 | .load t x => ZeC P H t (ρ x) K
 | .fieldAddr t x i => ZaR P H t i (ρ x) K
 | .field t x i => Zds P t i (ρ x) K
 | .indexAddr t x i => ZaJ P H t (ρ x) (ρ i) K
 | .index t x i => ZdP P t (ρ x) (ρ i) K
 | .extract x i => match ρ x with | .tup vs => (match vs[i]? with | some y => K y | none => False) | _ => False
 | .binOp op t x y _ => Zgw P H op t (Ze4 y) (ρ x) (ρ y) K
 | .unOp op _ x => vUn op (ρ x) K
 | .convert s d x => ZeZ P s d (ρ x) K
 | .nilCheck x => ZvG H (ρ x) K
 | .makeInterface t x => nif P t = true ∧ match ρ x with
  | .agg xs => (match ZA6 xs with | some ds => K (.ifc t ds true) | none => False)
  | .d x => K (.ifc t [x] false)
  | _ => False
 | .typeAssert x _ t ok => nif P t = true ∧ match ρ x with
  | .ifc u ds q => (match upk q ds with | some v => u = t ∧ K (cond ok (.tup [v, .d (.bool true)]) v) | none => False)
  | _ => False
 | .makeFunc fn first caps => K (.fn fn (first.toList.map ρ) (caps.toList.map ρ))
 | .slice t x lo hi mx => Zc3 P H t (ρ x) (lo.map ρ) (hi.map ρ) mx.isSome K
 | .build t parts => ZdQ P t (parts.toList.map fun p => (p.1, ρ p.2)) K
 | .lookup t x y ck => Zf6 P H t (ρ x) (ρ y) ck K
 | .call c => match c.callee, c.args[0]?, c.argTypes[0]? with
  | .builtin .len, some x, some t => c.args.size = 1 ∧ Zjp P H t (ρ x) K
  | .builtin b, _, _ => (match mmB b, c.args.toList with | some mx, [x, y] => vMM mx (ρ x) (ρ y) K | some mx, [x, y, z] => ZrK mx (ρ x) (ρ y) (ρ z) K | _, _ => False)
  | _, _, _ => False
 | _ => False
section
variable {P : Program} {l n : Nat} {H : Hp} {m : Mu} {S : Nat → Prop} {w : World} {s : Nat → AV} {a : Act}
theorem ZjQ {fs : List Field} (h : fs.all (fun f => (P.info? f.type).isSome) = true) :
  fs.mapM (fun f => (P.info? f.type).map fun i => (f.offset, i.size)) = some (fs.map fun f => (f.offset, P.cellsOf f.type)) := by
 induction fs with
 | nil => rfl
 | cons f fs ih =>
  simp only [Yaj, Bool.and_eq_true] at h
  obtain ⟨i, hi⟩ := YI.1 h.1
  simp [YaQ, hi, ih h.2, Program.cellsOf]
theorem Zc1 {t : TypeId} {z : List AV} (h : zer P t = some z) : ∃ it zv, P.info? t = some it ∧ it.zero = some zv ∧ ZaE w S H m l z zv.cells ∧ z.length = it.size := by
 unfold zer at h
 cases hi : P.info? t with
 | none => rw [hi] at h; cases h
 | some it =>
  rw [hi] at h
  simp only [Yn] at h
  cases hz : it.zero with
  | none => rw [hz] at h; cases h
  | some zv =>
   rw [hz] at h
   simp only [Yn] at h
   split at h
   case isFalse => cases h
   rename_i hall
   simp only [Ye] at h
   subst h
   refine ⟨it, zv, rfl, hz, ⟨by simp, fun i x v hx hv => ?_⟩, by simp [hall.2]⟩
   rw [Yv, Yi, hv] at hx
   simp only [YC, Ye] at hx
   subst hx
   exact ⟨Yh.1 hall.1 v (YaL.2 (Ybg hv)), ZqK v⟩
theorem ZiG {t : TypeId} {ps : List (Nat × AV)} {vs : Array (Nat × Value)} {K : AV → Prop} (h : ZdQ P t ps K) (hl : ps.length = vs.size)
  (hp : ∀ (i : Nat) (p : Nat × AV) (q : Nat × Value), ps[i]? = some p → vs[i]? = some q → p.1 = q.1 ∧ RepA w S H m l p.2 q.2) :
  ∃ v' x', (Instr.build t vs).run P w = .ok v' w ∧ RepA w S H m l x' v' ∧ K x' := by
 unfold ZdQ ZBV at h
 obtain ⟨h1, h⟩ := h
 split at h1
 ·rename_i fs it hu hi
  split at h
  ·rename_i z hz
   split at h
   ·rename_i cs hf
    obtain ⟨it', zv, hi', hzz, hz0, _⟩ := Zc1 (w := w) (S := S) (H := H) (m := m) (l := l) hz
    rw [hi] at hi'
    simp only [Ye] at hi'
    subst hi'
    ·obtain ⟨C, hC, hr⟩ := Zed ps vs.toList _ _ cs hz0 (by simpa using hl) (fun i p q a b => hp i p q a (by rwa [Yi] at b)) hf
     refine ⟨.agg C, .agg cs, ?_, .agg _ _ hr.1 (fun i v hv => ?_) (fun i x v hi hv => (hr.2 i x v hi hv).2), h⟩
     ·refine run_build w t vs C ?_
      unfold Program.built
      simp only [hi, hu, hzz, ZjQ h1]
      have : (fun i => (fs.toList.map fun f => (f.offset, P.cellsOf f.type)).toArray[i]?) = fld P t := by
       funext i
       simp [fld, hu]
      grind
     ·have hlt : i < cs.length := by
       rw [hr.1]
       grind
      exact (hr.2 i _ v (Yb hlt) hv).1
   grind
  grind
 grind
theorem ZfX (hS : Zdf l s H m S a w) (xs : Array Operand) : (xs.toList.map (ev s)).length = (xs.map a.eval).size ∧
  ∀ (i : Nat) (x : AV) (v : Value), (xs.toList.map (ev s))[i]? = some x → (xs.map a.eval)[i]? = some v → RepA w S H m l x v := by
 refine ⟨by simp, fun i x v hx hv => ?_⟩
 simp only [Yv, Yi, Yaw] at hx hv
 cases ho : xs[i]? with
 | none => rw [ho] at hx; cases hx
 | some o =>
  rw [ho] at hx hv
  simp only [YC, Ye] at hx hv
  subst hx; subst hv
  exact Zbi hS o
theorem ZE2 (hS : Zdf l s H m S a w) (o : Option Operand) : OV w S H m l (o.map (ev s)) (o.map a.eval) := by
 cases o with
 | none => exact ⟨fun _ h => by (cases h), fun _ => rfl⟩
 | some x => exact ⟨fun y h => by (simp only [YC, Ye] at h; subst h; exact ⟨_, rfl, Zbi hS x⟩), fun h => by (cases h)⟩
theorem Zr1 {op : BinOp} {t : TypeId} {x y : Operand} {v u : Value} (h1 : ∀ cs, v ≠ .agg cs) (h2 : v ≠ .nilIface) : (eqGuard op t x y v u).run P w = .ok () w := by
 unfold eqGuard
 cases v <;> first
  | (exact absurd rfl (h1 _))
  | (exact absurd rfl h2)
  | (cases op <;> simp)
theorem ZlU {op : BinOp} {t : TypeId} {ny : Bool} {x y : AV} {v : Value} {K : AV → Prop} (h : Zgw P H op t ny x y K) (hna : ∀ xs, x ≠ .agg xs) (hx : RepA w S H m l x v) : (∀ cs, v ≠ .agg cs) ∧ v ≠ .nilIface := by
 have one : ∀ {z : D}, RepA w S H m l (.d z) v → (∀ cs, v ≠ .agg cs) ∧ v ≠ .nilIface := by
  intro z hz
  cases hz with
  | d _ _ hd => cases hd <;> exact ⟨fun _ e => (by cases e), fun e => (by cases e)⟩
 unfold Zgw at h
 split at h
 ·grind
 ·grind
 ·grind
 ·grind
 ·obtain ⟨_, _, h⟩ := h
  have nil : ∀ neg, Zjm H neg x K → (∀ cs, v ≠ .agg cs) ∧ v ≠ .nilIface := by
   intro neg h
   unfold Zjm at h
   split at h
   ·grind
   ·cases hx with
    | e0 a => exact ⟨fun _ e => (by cases e), fun e => (by cases e)⟩
   ·grind
   ·obtain ⟨⟨hg, hl⟩, _⟩ := h
    cases hx with
    | refL k off n oa hk hl' hn ha => exact ⟨fun _ e => (by cases e), fun e => (by cases e)⟩
    | refD k g off n v hk hg' hd h1 => rw [hd hg] at hl; cases hl
   grind
  grind
 grind
theorem Zl3 {op : BinOp} {t : TypeId} {ny : Bool} {x y : AV} {v u : Value} {K : AV → Prop} {p q : Operand} (h : Zgw P H op t ny x y K) (hx : RepA w S H m l x v) (hy : RepA w S H m l y u) : (eqGuard op t p q v u).run P w = .ok () w := by
 by_cases hag : ∃ xs, x = .agg xs
 ·obtain ⟨xs, rfl⟩ := hag
  cases hx with
  | agg _ vs hl h1 hr =>
   unfold Zgw at h
   split at h
   ·grind
   ·grind
   ·grind
   ·rename_i ys e
    cases e
    cases hy with
    | agg _ us hl' h1' hr' =>
     unfold ZrG at h
     split at h
     case h_2 => exact h.elim
     rename_i ks hks
     unfold eqT at hks
     split at hks
     case h_2 => cases hks
     split at hks
     case isFalse => cases hks
     rename_i hg
     simp only [Bool.and_eq_true, Bool.not_eq_true'] at hg
     exact run_eqGuard_agg w op t p q vs us hg.2
   ·obtain ⟨_, _, h⟩ := h
    split at h
    ·exact h.elim
    ·exact h.elim
    grind
   grind
 ·obtain ⟨g1, g2⟩ := ZlU h (fun xs e => hag ⟨xs, e⟩) hx
  exact Zr1 g1 g2
theorem Zqp {o : Oper} {K : AV → Prop} (h : vOp P H o.op (ev s) K) (hO : Ok (l + 1) H m S w) (hS : Zdf (l + 1) s H m S a w) :
  ∃ v x, (execOp a.eval o).run P w = .ok (.value v) w ∧ RepA w S H m (l + 1) x v ∧ K x := by
 have val : ∀ {c : Sem Value}, (∃ v x, c.run P w = .ok v w ∧ RepA w S H m (l + 1) x v ∧ K x) → (execOp a.eval o = (do pure (.value (← c)))) → ∃ v x, (execOp a.eval o).run P w = .ok (.value v) w ∧ RepA w S H m (l + 1) x v ∧ K x := by
  rintro c ⟨v, x, h1, h2, h3⟩ he
  exact ⟨v, x, by rw [he]; simp [h1], h2, h3⟩
 have hr : ∀ x : Operand, RepA w S H m (l + 1) (ev s x) (a.eval x) := Zbi hS
 unfold vOp at h
 split at h
 ·rename_i x he; exact ⟨_, _, by unfold execOp; simp [he], hr x, h⟩
 ·rename_i x he; exact ⟨_, _, by unfold execOp; simp [he], hr x, h⟩
 ·rename_i c x y he
  split at h
  ·rename_i t ht
   have hc := hr c
   rw [ht] at hc
   cases hc with
   | d _ _ hd =>
    generalize hv : a.eval c = vc at hd
    cases hd
    refine ⟨if t then a.eval x else a.eval y, _, by unfold execOp; simp [he, hv, asBool], ?_, h⟩
    cases t
    ·exact hr y
    ·exact hr x
  ·exact h.elim
 ·rename_i t x he; exact val (Zf9 h (hr x) hO) (by unfold execOp; rw [he])
 ·rename_i t x i he; exact val (Zfe h (hr x)) (by unfold execOp; rw [he])
 ·rename_i t x i he; exact val (ZiM h (hr x)) (by unfold execOp; rw [he])
 ·rename_i t x i he; exact val (Zfd h (hr x) (hr i)) (by unfold execOp; rw [he])
 ·rename_i t x i he; exact val (Zi5 h (hr x) (hr i)) (by unfold execOp; rw [he])
 ·rename_i x i he
  split at h
  ·rename_i vs hvs
   split at h
   ·rename_i y hy
    have hx := hr x
    rw [hvs] at hx
    generalize hv : a.eval x = vx at hx
    cases hx with
    | tup _ us hl hc =>
     have hlt : i < us.size := by
      rw [← hl]
      rcases Yo i vs.length with h | h
      ·exact h
      ·rw [Yx h] at hy; cases hy
     have hu : us[i]? = some us[i] := Yf hlt
     exact ⟨us[i], y, by unfold execOp; simp [he, hv, Instr.extract, hu], hc i y _ hy hu, h⟩
   ·exact h.elim
  ·exact h.elim
 ·rename_i op t x y q he
  have hny : Ze4 y = true → a.eval y = .slice none 0 0 := by
   intro hm
   unfold Ze4 at hm
   split at hm
   ·rfl
   ·cases hm
  obtain ⟨v, x', h1, h2, h3⟩ := Zmj h (hr x) (hr y) hny
  refine ⟨v, x', ?_, h2, h3⟩
  simp only [execOp, he, Sem.run_bind, Zl3 h (hr x) (hr y), Result.andThen_ok, h1, Sem.run_pure]
 ·rename_i op t x he; exact val (ZoT h (hr x)) (by unfold execOp; rw [he])
 ·rename_i t u x he; exact val (Zj8 h (hr x)) (by unfold execOp; rw [he])
 ·rename_i x he
  have hx := hr x
  unfold ZvG at h
  split at h
  ·rename_i k g off hxk
   obtain ⟨hg, hl, hK⟩ := h
   rw [hxk] at hx
   have hx2 := hx
   generalize hv : a.eval x = vx at hx hx2
   cases hx with
   | ptrL => exact ⟨_, _, by unfold execOp; simp [he, hv], hx2, hK⟩
   | ptrD _ _ _ _ _ _ hd => rw [hd hg] at hl; cases hl
  ·rename_i cs off hxk
   rw [hxk] at hx
   have hx2 := hx
   generalize hv : a.eval x = vx at hx hx2
   cases hx with
   | iptr => exact ⟨_, _, by unfold execOp; simp [he, hv], hx2, h⟩
  ·exact h.elim
 ·rename_i t x he
  obtain ⟨hn, h⟩ := h
  have hx := hr x
  have run : (Instr.makeInterface t (a.eval x)).run P w = .ok (.iface t (a.eval x)) w := by
   obtain ⟨u, hu, hne⟩ := Zwr hn
   unfold Instr.makeInterface
   simp only [Sem.run_bind, run_underlying hu, Result.andThen_ok]
   cases u <;> first | exact absurd rfl (hne _) | rfl
  split at h
  ·rename_i xs hxs
   split at h
   case h_2 => exact h.elim
   rename_i ds hds
   rw [hxs] at hx
   have e := ZhO hds
   subst e
   generalize hv : a.eval x = vx at hx run
   cases hx with
   | agg _ us hl h1 hc =>
    refine ⟨.iface t (.agg us), _, by unfold execOp; simp [he, hv, run], .ifc _ _ _ _ (.inl ⟨rfl, us, rfl, by simpa using hl.symm, fun j d u hd hu => ?_⟩), h⟩
    have := hc j (.d d) u (by simp [hd]) hu
    cases this with
    | d _ _ hd => exact hd
  ·rename_i y hy
   rw [hy] at hx
   generalize hv : a.eval x = vx at hx run
   cases hx with
   | d _ _ hd => exact ⟨.iface t vx, _, by unfold execOp; simp [he, hv, run], .ifc _ _ _ _ (.inr ⟨rfl, _, rfl, hd⟩), h⟩
  ·exact h.elim
 ·rename_i x xt t ok he
  obtain ⟨hn, h⟩ := h
  have hx := hr x
  split at h
  case h_2 => exact h.elim
  rename_i u ds q hxk
  split at h
  case h_2 => exact h.elim
  rename_i v hv
  obtain ⟨rfl, h⟩ := h
  rw [hxk] at hx
  generalize hvx : a.eval x = vx at hx
  cases hx with
  | ifc _ _ _ y hy =>
   have run : (Instr.typeAssert (.iface u y) xt u ok).run P w = .ok (if ok then .tuple #[y, .bool true] else y) w := by
    obtain ⟨z, hu, hne⟩ := Zwr hn
    unfold Instr.typeAssert
    simp only [Sem.run_bind, run_underlying hu, Result.andThen_ok]
    cases z <;> first | exact absurd rfl (hne _) | simp
   have hyr : RepA w S H m (l + 1) v y := by
    rcases hy with ⟨rfl, cs, rfl, h1, h2⟩ | ⟨rfl, d, rfl, h1⟩
    ·cases hv
     refine .agg _ _ (by simpa using h1.symm) (fun i u hu => ?_) (fun i x u hi hu => ?_)
     ·have hlt : i < ds.length := by rw [← h1]; exact (YD.1 hu).1
      exact (h2 i _ u (Yb hlt) hu).one
     ·rw [Yv] at hi
      cases hd : ds[i]? with
      | none => rw [hd] at hi; cases hi
      | some d => rw [hd] at hi; cases hi; exact .d _ _ (h2 i d u hd hu)
    ·cases hv; exact .d _ _ h1
   refine ⟨_, _, by unfold execOp; simp only [he, hvx, Sem.run_bind, run, Result.andThen_ok]; rfl, ?_, h⟩
   cases ok
   ·exact hyr
   ·refine .tup _ _ rfl (fun i x u hi hu => ?_)
    match i with
    | 0 => cases hi; cases hu; exact hyr
    | 1 => cases hi; cases hu; exact .d _ _ (.bool _)
    | _ + 2 => cases hi
 ·rename_i fn first caps he
  refine ⟨_, _, by unfold execOp; simp [he, Instr.makeFunc]; rfl, ?_, h⟩
  exact .fn _ _ _ _ _ (ZfX hS first).1 (ZfX hS caps).1 (ZfX hS first).2 (ZfX hS caps).2
 ·rename_i t x lo hi mx he
  exact val (ZiY (mv := mx.map a.eval) h (hr x) (ZE2 hS lo) (ZE2 hS hi) (fun e => by cases mx <;> first | rfl | cases e)) (by simp only [execOp, he])
 ·rename_i t parts he
  refine val (ZiG (vs := parts.map fun (i, x) => (i, a.eval x)) h (by simp) (fun i p q hp hq => ?_)) (by unfold execOp; rw [he])
  simp only [Yv, Yi, Yaw] at hp hq
  cases ho : parts[i]? with
  | none => rw [ho] at hp; cases hp
  | some o =>
   rw [ho] at hp hq
   simp only [YC, Ye] at hp hq
   subst hp; subst hq
   exact ⟨rfl, hr o.2⟩
 ·rename_i t x y ck he; exact val (ZjM h (hr x) (hr y) hO.mp) (by unfold execOp; rw [he])
 ·rename_i c he
  split at h
  ·rename_i x t hc h0 h1
   obtain ⟨hsz, h⟩ := h
   obtain ⟨v, x', e1, e2, e3⟩ := ZlI h (hr x) o.type
   refine ⟨v, x', ?_, e2, e3⟩
   have ha : (c.args.map a.eval)[0]? = some (a.eval x) := by simp [h0]
   have hlen : (Builtin.len_ c.argTypes o.type (c.args.map a.eval)).run P w = .ok v w := by
    rw [← e1]
    unfold Builtin.len_
    simp only [ha, h1]
    rfl
   unfold execOp
   simp [he, resolve, hc, invoke, builtin, hlen]
  ·rename_i b h0 hc
   split at h
   ·rename_i mx x y hb ha
    have ha' : c.args = #[x, y] := YS (by simpa using ha)
    unfold vMM at h
    split at h
    ·rename_i k m k' n' hx hy
     have h1 := hr x
     have h2 := hr y
     rw [hx] at h1
     rw [hy] at h2
     generalize hxv : a.eval x = xv at h1
     generalize hyv : a.eval y = yv at h2
     cases h1
     rename_i hd1
     cases h2
     rename_i hd2
     cases hd1
     cases hd2
     refine ⟨.int k (mmI mx m n'), _, ?_, .d _ _ (.int _ _), h⟩
     unfold mmB at hb
     split at hb
     ·cases hb
      unfold execOp
      simp [he, resolve, h0, invoke, builtin, ha', hxv, hyv, Builtin.min_, Builtin.min2, mmI]
     ·cases hb
      unfold execOp
      simp [he, resolve, h0, invoke, builtin, ha', hxv, hyv, Builtin.max_, Builtin.max2, mmI]
     ·cases hb
    ·exact h.elim
   ·rename_i mx x y z hb ha
    have ha' : c.args = #[x, y, z] := YS (by simpa using ha)
    unfold ZrK at h
    split at h
    ·rename_i k m k' n' k'' p' hx hy hz
     have h1 := hr x
     have h2 := hr y
     have h3 := hr z
     rw [hx] at h1
     rw [hy] at h2
     rw [hz] at h3
     generalize hxv : a.eval x = xv at h1
     generalize hyv : a.eval y = yv at h2
     generalize hzv : a.eval z = zv at h3
     cases h1
     rename_i hd1
     cases h2
     rename_i hd2
     cases h3
     rename_i hd3
     cases hd1
     cases hd2
     cases hd3
     refine ⟨.int k (mmI mx (mmI mx m n') p'), _, ?_, .d _ _ (.int _ _), h⟩
     unfold mmB at hb
     split at hb
     ·cases hb
      unfold execOp
      simp [he, resolve, h0, invoke, builtin, ha', hxv, hyv, hzv, Builtin.min_, Builtin.min2, mmI]
     ·cases hb
      unfold execOp
      simp [he, resolve, h0, invoke, builtin, ha', hxv, hyv, hzv, Builtin.max_, Builtin.max2, mmI]
     ·cases hb
    ·exact h.elim
   ·exact h.elim
  ·exact h.elim
 ·exact h.elim
end
end Go.Eng
namespace Go.Eng
set_option linter.all false
open Go Go.RowKit
def AV.low (l : Nat) : AV → Bool
 | .ref k _ _ _ | .ptr k _ _ | .mp k _ => decide (k.1 ≤ l)
 | .fn _ _ _ | .agg _ | .tup _ => false
 | _ => true
def Ze0 (w : World) (S : Nat → Prop) (H : Hp) (m : Mu) (l : Nat) (xs : List AV) (vs : Array Value) : Prop :=
 xs.length = vs.size ∧ ∀ (i : Nat) (x : AV) (v : Value), xs[i]? = some x → vs[i]? = some v → RepA w S H m l x v
def ZbY (P : Program) (f : FuncId) (l : Nat) (xs : List AV) (H : Hp) (Post : AV → Hp → Prop) : Prop :=
 (∃ fn c, P.funcs[f]? = some fn ∧ fn.body = some c ∧ (fn.name == "runtime.NumGoroutine") = false) ∧
 ∀ m S w vs, Ok l H m S w → Ze0 w S H m l xs vs →
  Calls P f vs w (fun e w' => ∃ r v H' m' S', e = .returned v ∧ Post r H' ∧ Ok l H' m' S' w' ∧ RepA w' S' H' m' l r v ∧ Ext l H m S w H' m' S' w')
theorem ZbY.mono {P : Program} {f : FuncId} {l : Nat} {xs : List AV} {H : Hp} {Post Post' : AV → Hp → Prop} (h : ZbY P f l xs H Post) (hp : ∀ r H', Post r H' → Post' r H') : ZbY P f l xs H Post' :=
 ⟨h.1, fun m S w vs h1 h2 => (h.2 m S w vs h1 h2).mono fun _ _ ⟨r, v, H', m', S', a, b, c⟩ => ⟨r, v, H', m', S', a, hp _ _ b, c⟩⟩
def ZfI (n : Nat) (dst : Option Nat) (K : St → Prop) (σ : St) (x : AV) : Prop :=
 match dst with
 | some d => d < n ∧ K ⟨upd σ.s d x, σ.H⟩
 | none => K σ
def ZCA (n : Nat) (dst : Option Nat) (K : St → Prop) (σ : St) : AV → Hp → Prop := fun r H' => ZfI n dst K ⟨σ.s, H'⟩ r
def ZjH (l n : Nat) (d : Nat) (e : TypeId) (sz : Nat) (cells : List AV) (x : Nat → AV) (K : St → Prop) (σ : St) : Prop :=
 d < n ∧ K ⟨upd σ.s d (x ((σ.H (l + 1, d)).g + 1)), updH σ.H (l + 1, d) ⟨(σ.H (l + 1, d)).g + 1, true, e, sz, cells⟩⟩
def Zvp (H : Hp) (sz : Nat) : AV → Option (Nat × List AV)
 | .e0 => some (0, [])
 | .d (.list es) => if es.all (fun e => e.length == sz) then some (es.length, es.flatten.map .d) else none
 | .ref k g off n => if g = (H k).g ∧ (H k).live = true ∧ (H k).sz = sz ∧ (off + n) * sz ≤ (H k).cells.length then some (n, ((H k).cells.drop (off * sz)).take (n * sz)) else none
 | _ => none
def ZBf (P : Program) (l n : Nat) (d : Nat) (t : TypeId) (x y : AV) (K : St → Prop) (σ : St) : Prop :=
 match elm P t with
 | some (e, sz) => sz ≠ 0 ∧ P.bytesOf e ≠ 0 ∧ (zer P e).isSome = true ∧ match Zvp σ.H sz y with
  | some (c, news) => news.all AV.one = true ∧ match x with
   | .e0 => c * P.bytesOf e ≤ 140737488355328 ∧ (c = 0 → d < n ∧ K ⟨upd σ.s d .e0, σ.H⟩) ∧ (c ≠ 0 → ZjH l n d e sz news (fun g => .ref (l + 1, d) g 0 c) K σ)
   | .ref k g off c' => g = (σ.H k).g ∧ (σ.H k).live = true ∧ (σ.H k).sz = sz ∧ (σ.H k).e = .t e ∧ (off + c') * sz = (σ.H k).cells.length ∧ (c' + c) * P.bytesOf e ≤ 140737488355328 ∧
     (k.1 = l + 1 ∨ news.all (AV.low k.1) = true) ∧ d < n ∧ K ⟨upd σ.s d (.ref k (g + 1) 0 (c' + c)), updH σ.H k ⟨g + 1, true, e, sz, (σ.H k).cells.drop (off * sz) ++ news⟩⟩
   | _ => False
  | none => False
 | none => False
def Zeh : AV → Option D
 | .d x => some x
 | .e0 => some (.list [])
 | _ => none
def Zdg : List AV → Option (List D)
 | [] => some []
 | x :: xs => match Zeh x, Zdg xs with
  | some d, some ds => some (d :: ds)
  | _, _ => none
def elD : AV → Option (List D)
 | .agg xs => Zdg xs
 | x => match Zeh x with | some d => some [d] | none => none
def Zmu (sz : Nat) : Nat → List (Nat × AV) → Option (List (List D))
 | _, [] => some []
 | i, (j, v) :: rest => match elD v, Zmu sz (i + 1) rest with
  | some e, some es => if j = i ∧ e.length = sz then some (e :: es) else none
  | _, _ => none
def rOp (P : Program) (l n : Nat) (o : Oper) (K : St → Prop) (σ : St) : Prop :=
 match o.op with
 | .alloc t => match o.dst, zer P t with | some d, some z => z ≠ [] ∧ ZjH l n d t z.length z (fun g => .ptr (l + 1, d) g 0) K σ | _, _ => False
 | .box t x => match o.dst, Zbh (ev σ.s x) with | some d, some z => z ≠ [] ∧ ZjH l n d t z.length z (fun g => .ptr (l + 1, d) g 0) K σ | _, _ => False
 | .store t a x => match o.dst, ev σ.s a, Zbh (ev σ.s x) with
  | none, .ptr k g off, some vs => g = (σ.H k).g ∧ (σ.H k).live = true ∧ vs.length = P.cellsOf t ∧ vs ≠ [] ∧ off + vs.length ≤ (σ.H k).cells.length ∧ (k.1 = l + 1 ∨ vs.all (AV.low k.1) = true) ∧
    K ⟨σ.s, updH σ.H k { σ.H k with cells := (σ.H k).cells.take off ++ vs ++ (σ.H k).cells.drop (off + vs.length) }⟩
  | _, _, _ => False
 | .buildSlice t len parts => match o.dst, elm P t with
  | some d, some (e, sz) => sz ≠ 0 ∧ match len with
   | 0 => parts.size = 0 ∧ d < n ∧ K ⟨upd σ.s d .e0, σ.H⟩
   | len + 1 => (len + 1) * sz ≤ 16777216 ∧ match zer P e with
    | some z => z.length = sz ∧ match Zmu sz 0 (parts.toList.map fun p => (p.1, ev σ.s p.2)) with
     | some es => es.length = len + 1 ∧ d < n ∧ K ⟨upd σ.s d (.d (.list es)), σ.H⟩
     | none => match ZcP (fun i => some (i * sz, sz)) (List.replicate (len + 1) z).flatten (parts.toList.map fun p => (p.1, ev σ.s p.2)) with
      | some cs => ZjH l n d e sz cs (fun g => .ref (l + 1, d) g 0 (len + 1)) K σ
      | none => False
    | none => False
  | _, _ => False
 | .makeSlice t x y => match o.dst, elm P t, ev σ.s x, ev σ.s y with
  | some d, some (e, sz), .d (.int _ c), .d (.int _ c') => 0 ≤ c ∧ c ≤ c' ∧ sz ≠ 0 ∧ P.bytesOf e ≠ 0 ∧ (P.bytesOf e : Int) * c' ≤ 140737488355328 ∧ match zer P e with
   | some z => z.length = sz ∧ ZjH l n d e sz (List.replicate c.toNat z).flatten (fun g => .ref (l + 1, d) g 0 c.toNat) K σ
   | none => False
  | _, _, _, _ => False
 | .call c => match c.callee with
  | .value f => match ev σ.s f with
   | .fn (.func g) first caps => ZbY P g (l + 1) (first ++ c.args.toList.map (ev σ.s) ++ caps) σ.H (ZCA n o.dst K σ)
   | _ => False
  | .builtin .append => match o.dst, c.args.toList, c.argTypes.toList with
   | some d, [x, y], [t, _] => c.argTypes[1]? = some t ∧ ZBf P l n d t (ev σ.s x) (ev σ.s y) K σ
   | _, _, _ => False
  | _ => vOp P σ.H o.op (ev σ.s) (ZfI n o.dst K σ)
 | _ => vOp P σ.H o.op (ev σ.s) (ZfI n o.dst K σ)
def AOp (P : Program) (l n : Nat) (B : Base) (o : Oper) (K : St → Prop) (σ : St) : Prop :=
 ∀ a w, R l n B σ a w → ∀ Q, o.wp P a w (fun a' w' => ∃ σ', K σ' ∧ R l n B σ' a' w') Q
section
variable {P : Program} {l n : Nat} {B : Base} {H H' : Hp} {m m' : Mu} {S S' : Nat → Prop} {w w' : World} {s : Nat → AV} {a : Act} {K : St → Prop} {o : Oper}
theorem Ok.over (h : Ok l H m S w) (k : Key) (hk : k.1 ≤ l) (b : Blk) (M : MB) (hg : (H k).g < b.g) (hbe : b.e.isO = false) (hcap : M.cap ≠ 0) (C : Array Value) (w' : World)
  (hw : ∀ i, w'.heap[i]? = if i = M.b then some (.cells C b.e.ty (0, 0)) else w.heap[i]?) (hplace : M.b = w.heap.size ∨ (M.b = (m k).b ∧ (H k).live = true ∧ (m k).cap ≠ 0))
  (hC : C.size = M.o + M.cap * b.sz) (hlen : b.cells.length ≤ M.cap * b.sz) (hc : ∀ (i : Nat) (x : AV) (v : Value), b.cells[i]? = some x → C[M.o + i]? = some v → v.oneCell' = true ∧ RepA w S H m k.1 x v)
  (hsz : w.heap.size ≤ w'.heap.size) (h1 : w'.os = w.os) (h2 : w'.tape = w.tape) (h3 : w'.output = w.output) :
  Ok l (updH H k b) (ZcK m k M) S w' ∧ Ext l H m S w (updH H k b) (ZcK m k M) S w' := by
 have hS : ¬ S M.b := by
  rcases hplace with e | ⟨e, hl, hz⟩
  ·intro hs; have := h.sub _ hs; omega
  ·rw [e]; exact h.fresh k hk hl hz
 have hlt : ∀ q : Key, q.1 ≤ l → (H q).live = true → (m q).cap ≠ 0 → (m q).b < w.heap.size := fun q hq hl hc' => by
  obtain ⟨C, hb, _⟩ := h.blk q hq hl hc'
  rcases Yo (m q).b w.heap.size with hlt | hge
  ·exact hlt
  ·rw [YL hge] at hb; cases hb
 have hne : ∀ q : Key, q ≠ k → q.1 ≤ l → (H q).live = true → (m q).cap ≠ 0 → (m q).b ≠ M.b := fun q e hq hl hz he => by
  rcases hplace with e' | ⟨e', hl', hz'⟩
  ·have := hlt q hq hl hz; omega
  ·exact e (h.inj q k hq hk hl hl' hz hz' (he.trans e'))
 have hext : Ext l H m S w (updH H k b) (ZcK m k M) S w' := by
  refine ⟨fun _ h => h, fun i hi => ?_, fun q hq => ?_, fun q hq hgq hl => ?_, h1, h2, h3, hsz⟩
  ·rw [hw, if_neg]; intro e; exact hS (e ▸ hi)
  ·by_cases e : q = k
   ·subst e; rw [Zab]; omega
   ·rw [Zac _ _ e]; exact Yd _
  ·by_cases e : q = k
   ·subst e; rw [Zab] at hgq; omega
   ·rw [Zac _ _ e] at hl ⊢; rw [Zal _ _ e]; exact ⟨hl, rfl, rfl⟩
 refine ⟨⟨fun i hi => ?_, fun q hq hl hz => ?_, fun q hq hl hz => ?_, fun q q' hq hq' hl hl' hz hz' heq => ?_, fun q hq hl hz => ?_,
  h.mp.upd (Yd _) k b hbe (fun q e => Zal _ _ e) (fun _ h => h) (fun _ h => .inl h) hext.blk (fun i o ho hc' => by
   rw [hw]
   split
   ·rename_i e
    rcases hplace with e' | ⟨e', hl', hz'⟩
    ·have := ZbC ho; omega
    ·obtain ⟨C, hb, _⟩ := h.blk k hk hl' hz'
     rw [e, e', hb] at ho; cases ho; cases hc'
   ·exact ho)⟩, hext⟩
 ·have := h.sub i hi; omega
 ·by_cases e : q = k
  ·subst e; rw [Zae] at hz; exact absurd hz hcap
  ·rw [Zac _ _ e] at hl ⊢; rw [Zal _ _ e] at hz; exact h.empty q hq hl hz
 ·by_cases e : q = k
  ·subst e; rw [Zae]; exact hS
  ·rw [Zac _ _ e] at hl; rw [Zal _ _ e] at hz ⊢; exact h.fresh q hq hl hz
 ·by_cases e : q = k <;> by_cases e' : q' = k
  ·rw [e, e']
  ·subst e
   rw [Zae, Zal _ _ e'] at heq
   rw [Zac _ _ e'] at hl'
   rw [Zal _ _ e'] at hz'
   exact absurd heq.symm (hne q' e' hq' hl' hz')
  ·subst e'
   rw [Zae, Zal _ _ e] at heq
   rw [Zac _ _ e] at hl
   rw [Zal _ _ e] at hz
   exact absurd heq (hne q e hq hl hz)
  ·rw [Zal _ _ e, Zal _ _ e'] at heq
   rw [Zac _ _ e] at hl
   rw [Zac _ _ e'] at hl'
   rw [Zal _ _ e] at hz
   rw [Zal _ _ e'] at hz'
   exact h.inj q q' hq hq' hl hl' hz hz' heq
 ·by_cases e : q = k
  ·subst e
   rw [Zab, Zae]
   refine ⟨C, by rw [hw, if_pos rfl], hC, hlen, fun i x v hi hv => ?_⟩
   obtain ⟨g1, g2⟩ := hc i x v hi hv
   exact ⟨g1, g2.ext hext hk⟩
  ·rw [Zac _ _ e] at hl ⊢
   rw [Zal _ _ e] at hz ⊢
   obtain ⟨C, hb, hs, hle, hx⟩ := h.blk q hq hl hz
   refine ⟨C, by rw [hw, if_neg (hne q e hq hl hz)]; exact hb, hs, hle, fun i x v hi hv => ?_⟩
   obtain ⟨g1, g2⟩ := hx i x v hi hv
   exact ⟨g1, g2.ext hext hq⟩
theorem RepA.low {x : AV} {v : Value} {l' : Nat} (hx : RepA w S H m l x v) (h : x.low l' = true) : RepA w S H m l' x v := by
 cases hx with
 | top v => exact .top _
 | d x v hd => exact .d _ _ hd
 | e0 a => exact .e0 _
 | p v h1 => exact .p _ h1
 | refL k off n a hk hl hn ha => exact .refL k off n a (by simpa [AV.low] using h) hl hn ha
 | refD k g off n v hk hg hd h1 => exact .refD k g off n v (by simpa [AV.low] using h) hg hd h1
 | ptrL k off hk hl => exact .ptrL k off (by simpa [AV.low] using h) hl
 | ptrD k g off v hk hg hd h1 => exact .ptrD k g off v (by simpa [AV.low] using h) hg hd h1
 | mpL k hk hl => exact .mpL k (by simpa [AV.low] using h) hl
 | mpD k g v hk hg hd h1 => exact .mpD k g v (by simpa [AV.low] using h) hg hd h1
 | iptr cs off a c hb hc hr => exact .iptr cs off a c hb hc hr
 | ifc t ds a v hv => exact .ifc t ds a v hv
 | fn => cases h
 | agg => cases h
 | tup => cases h
theorem R.step (hO : Ok (l + 1) H' m' S' w') (hn : a.tmps.size = n) (hd : a.defers = []) (hS : Zdf (l + 1) s H m S a w) (he : Ext l B.H B.m B.S B.w H m S w) (hx : Ext (l + 1) H m S w H' m' S' w') {d : Nat} (hdn : d < n)
  {x : AV} {v : Value} (hv : RepA w' S' H' m' (l + 1) x v) : R l n B ⟨upd s d x, H'⟩ (a.put (some d) v) w' :=
 ⟨m', S', hO, by rw [ZtZ]; exact hn, by rw [ZlG]; exact hd, (hS.ext hx).put (by omega) hv, he.trans (hx.mono (by omega))⟩
theorem R.un (h : R l n B ⟨s, H⟩ a w) : ∃ m S, Ok (l + 1) H m S w ∧ a.tmps.size = n ∧ a.defers = [] ∧ Zdf (l + 1) s H m S a w ∧ Ext l B.H B.m B.S B.w H m S w := h
theorem R.keep (hO : Ok (l + 1) H' m' S' w') (hn : a.tmps.size = n) (hd : a.defers = []) (hS : Zdf (l + 1) s H m S a w) (he : Ext l B.H B.m B.S B.w H m S w) (hx : Ext (l + 1) H m S w H' m' S' w') : R l n B ⟨s, H'⟩ a w' :=
 ⟨m', S', hO, hn, hd, hS.ext hx, he.trans (hx.mono (by omega))⟩
theorem Zau {v : Value} {N : Act → World → Prop} {Q : Exit → Act → World → Prop} (h : (execOp a.eval o).run P w = .ok (.value v) w') (hN : N (a.put o.dst v) w') : o.wp P a w N Q := by
 unfold Oper.wp; rw [h]; exact hN
theorem ZhY (h : vOp P H o.op (ev s) (ZfI n o.dst K ⟨s, H⟩)) : AOp P l n B o K ⟨s, H⟩ := by
 intro a w hR Q
 obtain ⟨m, S, hO, hn, hd, hS, he⟩ := hR
 obtain ⟨v, x, h1, h2, h3⟩ := Zqp h hO hS
 refine Zau h1 ?_
 unfold ZfI at h3
 cases hdst : o.dst with
 | none =>
  rw [hdst] at h3
  exact ⟨_, h3, ⟨m, S, hO, hn, hd, hS, he⟩⟩
 | some d =>
  rw [hdst] at h3
  exact ⟨_, h3.2, R.step hO hn hd hS he (Ext.refl _ _ _ _ _) h3.1 h2⟩
theorem ZjT {d : Nat} {e : TypeId} {sz cap : Nat} {cells : List AV} {x : Nat → AV} (hd : o.dst = some d) (hcap : cap ≠ 0)
  (hrun : ∀ a w m S, Ok (l + 1) H m S w → Zdf (l + 1) s H m S a w → ∃ (C : Array Value) (v : Value) (w' : World), (execOp a.eval o).run P w = .ok (.value v) w' ∧ w'.heap = w.heap.push (.cells C e (0, 0)) ∧ w'.os = w.os ∧ w'.tape = w.tape ∧ w'.output = w.output ∧
   (∀ H' m', H' = updH H (l + 1, d) ⟨(H (l + 1, d)).g + 1, true, e, sz, cells⟩ → m' = ZcK m (l + 1, d) ⟨w.heap.size, 0, cap⟩ → RepA w' S H' m' (l + 1) (x ((H (l + 1, d)).g + 1)) v) ∧
   C.size = cap * sz ∧ cells.length ≤ C.size ∧ ∀ (i : Nat) (y : AV) (u : Value), cells[i]? = some y → C[i]? = some u → u.oneCell' = true ∧ RepA w S H m (l + 1) y u)
  (hK : ZjH l n d e sz cells x K ⟨s, H⟩) : AOp P l n B o K ⟨s, H⟩ := by
 intro a w hR Q
 obtain ⟨m, S, hO, hn, hdf, hS, he⟩ := hR
 obtain ⟨C, v, w', h1, hw, g1, g2, g3, hv, hC, hlen, hc⟩ := hrun a w m S hO hS
 obtain ⟨k1, k2⟩ := hO.alloc (l + 1, d) (Yd _) e sz cap cells C hcap hC hlen hc w' hw g1 g2 g3
 refine Zau h1 ?_
 rw [hd]
 exact ⟨_, hK.2, R.step k1 hn hdf hS he k2 hK.1 (hv _ _ rfl rfl)⟩
end
section
variable {P : Program} {l n : Nat} {B : Base} {H H' : Hp} {m m' : Mu} {S S' : Nat → Prop} {w w' : World} {s : Nat → AV} {a : Act} {K : St → Prop} {o : Oper}
theorem Zm7 {d g : Nat} {e : TypeId} {sz : Nat} {cells : List AV} {i : Nat} : ∀ (H' : Hp) (m' : Mu), H' = updH H (l + 1, d) ⟨g, true, e, sz, cells⟩ → m' = ZcK m (l + 1, d) ⟨i, 0, 1⟩ →
  RepA w' S H' m' (l + 1) (.ptr (l + 1, d) g 0) (.pointer (some ⟨i, 0, none⟩)) := by
 rintro H' m' rfl rfl
 have := RepA.ptrL (w := w') (S := S) (H := updH H (l + 1, d) ⟨g, true, e, sz, cells⟩) (m := ZcK m (l + 1, d) ⟨i, 0, 1⟩) (l := l + 1) (l + 1, d) 0 (Yd _) (by rw [Zab])
 rw [Zab, Zae] at this
 exact this
theorem Zrk {t : TypeId} {d : Nat} {z : List AV} (ho : o.op = .alloc t) (hd : o.dst = some d) (hz : zer P t = some z) (hne : z ≠ [])
  (hK : ZjH l n d t z.length z (fun g => .ptr (l + 1, d) g 0) K ⟨s, H⟩) : AOp P l n B o K ⟨s, H⟩ := by
 refine ZjT (cap := 1) hd (by decide) (fun a w m S hO hS => ?_) hK
 obtain ⟨it, zv, hi, hz0, hr, _⟩ := Zc1 (w := w) (S := S) (H := H) (m := m) (l := l + 1) hz
 refine ⟨zv.cells, _, w.alloc (.cells zv.cells t), ?_, rfl, rfl, rfl, rfl, Zm7, by rw [← hr.1]; simp, by rw [hr.1]; exact Yd _, hr.2⟩
 simp [execOp, ho, Instr.alloc, zeroValue, typeInfo, hi, hz0, newVar, newRow]
theorem Zyt {t : TypeId} {x : Operand} {d : Nat} {z : List AV} (ho : o.op = .box t x) (hd : o.dst = some d) (hz : Zbh (ev s x) = some z) (hne : z ≠ [])
  (hK : ZjH l n d t z.length z (fun g => .ptr (l + 1, d) g 0) K ⟨s, H⟩) : AOp P l n B o K ⟨s, H⟩ := by
 refine ZjT (cap := 1) hd (by decide) (fun a w m S hO hS => ?_) hK
 have hr := Zgo (Zbi hS x) hz
 refine ⟨(a.eval x).cells, _, w.alloc (.cells (a.eval x).cells t), ?_, rfl, rfl, rfl, rfl, Zm7, by rw [← hr.1]; simp, by rw [hr.1]; exact Yd _, hr.2⟩
 simp [execOp, ho, Instr.box, newVar, newRow]
theorem ZpT {t : TypeId} {p x : Operand} {k : Key} {g off : Nat} {vs : List AV} (ho : o.op = .store t p x) (hd : o.dst = none) (hp : ev s p = .ptr k g off) (hx : Zbh (ev s x) = some vs)
  (hg : g = (H k).g) (hl : (H k).live = true) (hlen : vs.length = P.cellsOf t) (hne : vs ≠ []) (hoff : off + vs.length ≤ (H k).cells.length) (hlow : k.1 = l + 1 ∨ vs.all (AV.low k.1) = true)
  (hK : K ⟨s, updH H k { H k with cells := (H k).cells.take off ++ vs ++ (H k).cells.drop (off + vs.length) }⟩) : AOp P l n B o K ⟨s, H⟩ := by
 intro a w hR Q
 obtain ⟨m, S, hO, hn, hdf, hS, he⟩ := hR.un
 have hp' := Zbi hS p
 rw [hp] at hp'
 have hr := Zgo (Zbi hS x) hx
 have hpos : 0 < vs.length := List.length_pos_iff.2 hne
 generalize hpv : a.eval p = pv at hp'
 cases hp' with
 | ptrD k g off v hk hg' hd' h1 => rw [hd' hg] at hl; cases hl
 | ptrL k off hk hl' =>
  have hcap : (m k).cap ≠ 0 := fun e => by have := hO.empty k hk hl e; rw [this, Yaf] at hoff; omega
  obtain ⟨C, h1, h2, h3, h4⟩ := hO.blk k hk hl hcap
  have hvl : (a.eval x).cells.toList.length = vs.length := by simp [hr.1]
  have hone : ∀ v ∈ (a.eval x).cells.toList, v.oneCell' = true := by
   intro v hv
   obtain ⟨i, hi⟩ := YF.1 hv
   rw [Yi] at hi
   have hlt : i < vs.length := by
    rw [hr.1]
    rcases Yo i (a.eval x).cells.size with h | h
    ·exact h
    ·rw [YL h] at hi; cases hi
   exact (hr.2 i _ v (Yb hlt) hi).1
  have hst := run_storeCells_at (P := P) (m k).b ((m k).o + off) (H k).e.ty (a.eval x).cells.toList 0 C w h1 (by rw [hvl]; omega) hone
  have hrun : (execOp a.eval o).run P w = .ok .skip (w.setRow (m k).b (C.toList.take ((m k).o + off + 0) ++ (a.eval x).cells.toList ++ C.toList.drop ((m k).o + off + 0 + (a.eval x).cells.toList.length)).toArray) := by
   have hsz : (a.eval x).cells.size = P.cellsOf t := by rw [← hr.1, hlen]
   simp only [execOp, ho, hpv, Instr.storeAt, Instr.sureAddr, storeVar, Sem.run_bind, Sem.run_pure, Result.andThen_ok, ZbQ (P := P) (t := t) (show P.cellsOf t ≠ 0 by omega), hsz, ne_eq, not_true_eq_false, if_false, hst]
  simp only [Yae] at hrun
  obtain ⟨k1, k2⟩ := hO.write k hk hl hcap ((H k).cells.take off ++ vs ++ (H k).cells.drop (off + vs.length))
   (C.toList.take ((m k).o + off) ++ (a.eval x).cells.toList ++ C.toList.drop ((m k).o + off + (a.eval x).cells.toList.length)).toArray
   (by simp [hvl]; omega) (by simp; omega)
   (w.setRow (m k).b (C.toList.take ((m k).o + off) ++ (a.eval x).cells.toList ++ C.toList.drop ((m k).o + off + (a.eval x).cells.toList.length)).toArray)
   (fun b => by
    by_cases e : b = (m k).b
    ·subst e; rw [if_pos rfl]; exact setRow_heap w _ C _ _ _ h1
    ·rw [if_neg e]; exact setRow_other w _ _ _ e)
   (by simp) rfl rfl rfl (fun i y v hi hv => by
    have hv : (C.toList.take ((m k).o + off) ++ (a.eval x).cells.toList ++ C.toList.drop ((m k).o + off + (a.eval x).cells.toList.length))[(m k).o + i]? = some v := by simpa using hv
    rw [hvl] at hv
    have hCl : C.toList.length = C.size := by simp
    have hT : (C.toList.take ((m k).o + off)).length = (m k).o + off := by rw [YU, hCl]; omega
    have hT2 : ((H k).cells.take off).length = off := by rw [YU]; omega
    rcases Yo i off with h | h
    ·rw [YW, Yg (by rw [hT2]; omega), YM, if_pos h] at hi
     rw [YW, Yg (by rw [hT]; omega), YM, if_pos (by omega), Yi] at hv
     exact h4 i y v hi hv
    ·rcases Yo i (off + vs.length) with h' | h'
     ·rw [Yg (by rw [Yr, hT2]; omega), Yk (by rw [hT2]; omega), hT2] at hi
      rw [Yg (by rw [Yr, hT, hvl]; omega), Yk (by rw [hT]; omega), hT, Yi] at hv
      rw [show (m k).o + i - ((m k).o + off) = i - off from by omega] at hv
      obtain ⟨q1, q2⟩ := hr.2 _ y v hi hv
      refine ⟨q1, ?_⟩
      rcases hlow with e | e
      ·rw [e]; exact q2
      ·exact q2.low (Yh.1 e y (Yj hi))
     ·rw [Yk (by rw [Yr, hT2]; omega), YK, Yr, hT2] at hi
      rw [Yk (by rw [Yr, hT, hvl]; omega), YK, Yi, Yr, hT, hvl] at hv
      rw [show off + vs.length + (i - (off + vs.length)) = i from by omega] at hi
      rw [show (m k).o + off + vs.length + ((m k).o + i - ((m k).o + off + vs.length)) = (m k).o + i from by omega] at hv
      exact h4 i y v hi hv)
  unfold Oper.wp
  rw [hrun]
  simp only [Oper.upon, hd, Act.put]
  exact ⟨_, hK, R.keep k1 hn hdf hS he k2⟩
theorem Zh5 {α : Type} (z : List α) (len : Nat) (i : Nat) (hz : z ≠ []) : (List.replicate len z).flatten[i]? = if i < len * z.length then z[i % z.length]? else none := by
 have hp : 0 < z.length := by cases z with | nil => exact absurd rfl hz | cons _ _ => simp
 induction len generalizing i with
 | zero => simp
 | succ len ih =>
  rw [YaO, Yab]
  by_cases h : i < z.length
  ·rw [Yg h, if_pos (by rw [YB]; omega), Nat.mod_eq_of_lt h]
  ·rw [Yk (by omega), ih]
   have e : i % z.length = (i - z.length) % z.length := by rw [Nat.mod_eq_sub_mod (by omega)]
   grind
theorem Ok.junk (h : Ok l H m S w) (hb : ∀ i, i < w.heap.size → w'.heap[i]? = w.heap[i]?) (hsz : w.heap.size ≤ w'.heap.size) (h1 : w'.os = w.os) (h2 : w'.tape = w.tape) (h3 : w'.output = w.output) :
  Ok l H m S w' ∧ Ext l H m S w H m S w' := by
 have hext : Ext l H m S w H m S w' := ⟨fun _ h => h, fun b hS => hb b (h.sub b hS), fun _ _ => Yd _, fun _ _ _ h => ⟨h, rfl, rfl⟩, h1, h2, h3, hsz⟩
 refine ⟨⟨fun b hS => by have := h.sub b hS; omega, h.empty, h.fresh, h.inj, fun q hq hl hz => ?_, h.mp.step (Yd _) (fun _ _ hv _ => ⟨hv, rfl, rfl⟩) (fun _ h => h) (fun _ h => .inl h) hext.blk (fun i o ho _ => (hb i (ZbC ho)).trans ho)⟩, hext⟩
 obtain ⟨C, hb', hs, hle, hx⟩ := h.blk q hq hl hz
 have hlt : (m q).b < w.heap.size := by
  grind
 exact ⟨C, by rw [hb _ hlt]; exact hb', hs, hle, fun i x v hi hv => ⟨(hx i x v hi hv).1, (hx i x v hi hv).2.ext hext hq⟩⟩
theorem Ziq (hS : Zdf l s H m S a w) (parts : Array (Nat × Operand)) : (parts.toList.map fun p => (p.1, ev s p.2)).length = (parts.map fun (i, x) => (i, a.eval x)).toList.length ∧
  ∀ (i : Nat) (p : Nat × AV) (q : Nat × Value), (parts.toList.map fun p => (p.1, ev s p.2))[i]? = some p → (parts.map fun (i, x) => (i, a.eval x)).toList[i]? = some q → p.1 = q.1 ∧ RepA w S H m l p.2 q.2 := by
 refine ⟨by simp, fun i p q hp hq => ?_⟩
 simp only [Yv, Yi, Yaw] at hp hq
 cases ho : parts[i]? with
 | none => rw [ho] at hp; cases hp
 | some o =>
  rw [ho] at hp hq
  simp only [YC, Ye] at hp hq
  subst hp; subst hq
  exact ⟨rfl, Zbi hS o.2⟩
theorem Zd3 {place : Nat → Option (Nat × Nat)} : ∀ (ps : List (Nat × AV)) (zs cs : List AV), ZcP place zs ps = some cs → cs.length = zs.length
 | [], zs, cs, h => by simp only [ZcP, Ye] at h; rw [h]
 | (i, x) :: ps, zs, cs, h => by
  simp only [ZcP] at h
  split at h
  ·split at h
   ·cases h
   ·rename_i hc
    rw [Zd3 ps _ cs h]
    grind
  ·cases h
theorem Zem {t e : TypeId} {sz len d : Nat} {parts : Array (Nat × Operand)} {z cs : List AV} (ho : o.op = .buildSlice t (len + 1) parts) (hd : o.dst = some d) (he : elm P t = some (e, sz)) (hsz : sz ≠ 0)
  (hlim : (len + 1) * sz ≤ 16777216) (hz : zer P e = some z) (hzl : z.length = sz) (hf : ZcP (fun i => some (i * sz, sz)) (List.replicate (len + 1) z).flatten (parts.toList.map fun p => (p.1, ev s p.2)) = some cs)
  (hK : ZjH l n d e sz cs (fun g => .ref (l + 1, d) g 0 (len + 1)) K ⟨s, H⟩) : AOp P l n B o K ⟨s, H⟩ := by
 obtain ⟨hu, hse⟩ := ZbZ he
 have hzne : z ≠ [] := by rintro rfl; simp at hzl; omega
 refine ZjT (cap := len + 1) hd (by omega) (fun a w m S hO hS => ?_) hK
 obtain ⟨it, zv, hi, hz0, hr, _⟩ := Zc1 (w := w) (S := S) (H := H) (m := m) (l := l + 1) hz
 have hits : it.size = sz := by rw [← hse]; simp [Program.cellsOf, hi]
 have hzv : zv.cells.size = sz := by rw [← hr.1, hzl]
 have hbase : ZaE w S H m (l + 1) (List.replicate (len + 1) z).flatten ((Array.range ((len + 1) * sz)).map (zv.cells[· % zv.cells.size]!)) := by
  refine ⟨?_, fun i x v hx hv => ?_⟩
  ·simp [hzl]
  ·rw [Zh5 z (len + 1) i hzne] at hx
   split at hx
   ·rename_i hlt
    rw [hzl] at hx hlt
    have hm : i % sz < zv.cells.size := by rw [hzv]; exact Nat.mod_lt _ (by omega)
    have : v = zv.cells[i % sz] := by
     grind
    subst this
    exact hr.2 (i % sz) x _ hx (Yf hm)
   grind
 obtain ⟨p1, p2⟩ := Ziq hS parts
 obtain ⟨C, hC, hcr⟩ := Zed _ _ _ _ cs hbase p1 p2 hf
 have hcl := Zd3 _ _ _ hf
 have hcl2 : cs.length = (len + 1) * sz := by rw [hcl]; simp [hzl]
 have hrun := run_buildSlice (P := P) w t e (len + 1) (parts.map fun (i, x) => (i, a.eval x)) C it zv hu hi hz0 (by rw [hits]; omega) (by rw [hits]; exact Nat.mul_ne_zero (by omega) hsz) (by rw [hits]; exact hC)
 refine ⟨C, .slice (some ⟨w.heap.size, 0, none⟩) (len + 1) (len + 1), w.alloc (.cells C e), ?_, rfl, rfl, rfl, rfl, ?_, by rw [← hcr.1, hcl2], by rw [hcr.1]; exact Yd _, hcr.2⟩
 ·simp only [execOp, ho, Sem.run_bind, hrun, Result.andThen_ok, Sem.run_pure]
 ·rintro H' m' rfl rfl
  have := RepA.refL (w := w.alloc (.cells C e)) (S := S) (H := updH H (l + 1, d) ⟨(H (l + 1, d)).g + 1, true, e, sz, cs⟩) (m := ZcK m (l + 1, d) ⟨w.heap.size, 0, len + 1⟩) (l := l + 1) (l + 1, d) 0 (len + 1)
   (some ⟨w.heap.size, 0, none⟩) (Yd _) (by rw [Zab]) (by rw [Zae]; simp) (fun _ => by rw [Zae]; simp)
  rw [Zab, Zae] at this
  exact this
theorem ZjA {x : AV} {d : D} (h : Zeh x = some d) : Zbh x = some [x] := by
 cases x <;> simp only [Zeh] at h <;> first | (cases h; rfl) | cases h
theorem ZmH {x : AV} {d : D} {v : Value} (h : Zeh x = some d) (hx : RepA w S H m l x v) : RepD w S d v := by
 cases x <;> simp only [Zeh] at h <;> cases h
 ·cases hx with | d _ _ hd => exact hd
 ·have := hx.e0_d; cases this with | d _ _ hd => exact hd
theorem ZeX : ∀ {xs : List AV} {ds : List D}, Zdg xs = some ds → xs.map Zeh = ds.map some
 | [], ds, h => by cases h; rfl
 | x :: xs, ds, h => by
  simp only [Zdg] at h
  split at h
  ·rename_i d ds' h1 h2
   cases h
   simp [h1, ZeX h2]
  ·cases h
theorem ZfK {xs : List AV} {ds : List D} (h : Zdg xs = some ds) : xs.length = ds.length := by
 have := congrArg List.length (ZeX h); simpa using this
theorem ZkY {xs : List AV} {ds : List D} (h : Zdg xs = some ds) {i : Nat} {x : AV} {d : D} (hx : xs[i]? = some x) (hd : ds[i]? = some d) : Zeh x = some d := by
 have := congrArg (fun l => l[i]?) (ZeX h)
 grind
theorem Zsq {x : AV} {e : List D} (h : elD x = some e) : ∃ vs, Zbh x = some vs ∧ Zdg vs = some e := by
 cases x with
 | agg xs => exact ⟨xs, rfl, h⟩
 | _ =>
  simp only [elD] at h
  split at h
  ·rename_i d hd
   cases h
   refine ⟨_, ZjA hd, ?_⟩
   simp [Zdg, hd]
  ·cases h
theorem Ze5 : ∀ {xs ys : List AV} {ds es : List D}, Zdg xs = some ds → Zdg ys = some es → Zdg (xs ++ ys) = some (ds ++ es)
 | [], ys, ds, es, h1, h2 => by cases h1; exact h2
 | x :: xs, ys, ds, es, h1, h2 => by
  simp only [Zdg] at h1
  split at h1
  ·rename_i d ds' g1 g2
   cases h1
   simp [Zdg, g1, Ze5 g2 h2]
  grind
theorem Zi9 {sz : Nat} {z : List AV} (hz : z.length = sz) : ∀ (ps : List (Nat × AV)) (es : List (List D)) (pre : List AV) (i k : Nat), Zmu sz i ps = some es → pre.length = i * sz → k = ps.length →
  ∃ cs, ZcP (fun i => some (i * sz, sz)) (pre ++ (List.replicate k z).flatten) ps = some (pre ++ cs) ∧ Zdg cs = some es.flatten
 | [], es, pre, i, k, h, _, hk => by
  cases h; subst hk
  exact ⟨[], by simp [ZcP], rfl⟩
 | (j, v) :: ps, es, pre, i, k, h, hp, hk => by
  simp only [Zmu] at h
  split at h
  ·rename_i e es' he hes
   split at h
   ·rename_i hj
    cases h
    obtain ⟨rfl, hel⟩ := hj
    obtain ⟨vs, hvs, hpv⟩ := Zsq he
    have hvl : vs.length = sz := (ZfK hpv).trans hel
    subst hk
    have hnext : (pre ++ (List.replicate (ps.length + 1) z).flatten).take (j * sz) ++ vs ++ (pre ++ (List.replicate (ps.length + 1) z).flatten).drop (j * sz + vs.length) = (pre ++ vs) ++ (List.replicate ps.length z).flatten := by
     grind
    obtain ⟨cs, h1, h2⟩ := Zi9 hz ps es' (pre ++ vs) (j + 1) ps.length hes (by rw [Yr, hp, hvl, YB, YaR]) rfl
    refine ⟨vs ++ cs, ?_, by rw [Yab]; exact Ze5 hpv h2⟩
    simp only [ZcP, hvs, YZ]
    grind
   ·cases h
  ·cases h
theorem Ok.lit (h : Ok l H m S w) (C : Array Value) (e : TypeId) (w' : World) (hw : w'.heap = w.heap.push (.cells C e (0, 0))) (h1 : w'.os = w.os) (h2 : w'.tape = w.tape) (h3 : w'.output = w.output) :
  Ok l H m (fun b => S b ∨ b = w.heap.size) w' ∧ Ext l H m S w H m (fun b => S b ∨ b = w.heap.size) w' := by
 have hold : ∀ b, b < w.heap.size → w'.heap[b]? = w.heap[b]? := fun b hb => by rw [hw, Yac, if_neg (by omega)]
 have hext : Ext l H m S w H m (fun b => S b ∨ b = w.heap.size) w' := ⟨fun _ h => .inl h, fun b hb => hold b (h.sub b hb), fun _ _ => Yd _, fun _ _ _ h => ⟨h, rfl, rfl⟩, h1, h2, h3, by rw [hw]; simp⟩
 have hlt : ∀ q : Key, q.1 ≤ l → (H q).live = true → (m q).cap ≠ 0 → (m q).b < w.heap.size := fun q hq hl hc' => by
  obtain ⟨C, hb, _⟩ := h.blk q hq hl hc'
  grind
 refine ⟨⟨fun b hb => ?_, h.empty, fun q hq hl hz => ?_, h.inj, fun q hq hl hz => ?_, h.mp.step (Yd _) (fun _ _ hv _ => ⟨hv, rfl, rfl⟩) (fun _ h => .inl h) (fun b hb => hb.imp id fun e => .inl (Nat.le_of_eq e.symm)) hext.blk (fun i o ho _ => (hold i (ZbC ho)).trans ho)⟩, hext⟩
 ·rcases hb with hb | rfl
  ·have := h.sub b hb; rw [hw]; simp; omega
  grind
 ·rintro (hb | hb)
  ·exact h.fresh q hq hl hz hb
  grind
 ·obtain ⟨C', hb, hs, hle, hx⟩ := h.blk q hq hl hz
  exact ⟨C', by rw [hold _ (hlt q hq hl hz)]; exact hb, hs, hle, fun i x v hi hv => ⟨(hx i x v hi hv).1, (hx i x v hi hv).2.ext hext hq⟩⟩
theorem Zls {sz : Nat} : ∀ {ps : List (Nat × AV)} {i : Nat} {es : List (List D)}, Zmu sz i ps = some es → ps.length = es.length ∧ ∀ e ∈ es, e.length = sz
 | [], i, es, h => by cases h; exact ⟨rfl, fun _ h => by cases h⟩
 | (j, v) :: ps, i, es, h => by
  simp only [Zmu] at h
  split at h
  ·rename_i e es' he hes
   split at h
   ·rename_i hj
    cases h
    obtain ⟨g1, g2⟩ := Zls hes
    grind
   ·cases h
  ·cases h
theorem ZjW {sz : Nat} : ∀ (es : List (List D)), (∀ e ∈ es, e.length = sz) → ∀ (i j : Nat) (e : List D) (d : D), es[i]? = some e → e[j]? = some d → es.flatten[i * sz + j]? = some d
 | [], _, i, j, e, d, hi, _ => by simp at hi
 | e0 :: es, hl, i, j, e, d, hi, hj => by
  have h0 : e0.length = sz := hl e0 (by simp)
  cases i with
  | zero =>
   grind
  | succ i =>
   have := ZjW es (fun e he => hl e (by simp [he])) i j e d (by simpa using hi) hj
   grind
theorem Zfa {t e : TypeId} {sz len d : Nat} {parts : Array (Nat × Operand)} {z : List AV} {es : List (List D)} (ho : o.op = .buildSlice t (len + 1) parts) (hd : o.dst = some d) (he : elm P t = some (e, sz)) (hsz : sz ≠ 0)
  (hlim : (len + 1) * sz ≤ 16777216) (hz : zer P e = some z) (hzl : z.length = sz) (hf : Zmu sz 0 (parts.toList.map fun p => (p.1, ev s p.2)) = some es) (hes : es.length = len + 1)
  (hdn : d < n) (hK : K ⟨upd s d (.d (.list es)), H⟩) : AOp P l n B o K ⟨s, H⟩ := by
 obtain ⟨hu, hse⟩ := ZbZ he
 have hzne : z ≠ [] := by rintro rfl; simp at hzl; omega
 intro a w hR Q
 obtain ⟨m, S, hO, hn, hdf, hS, hex⟩ := hR.un
 obtain ⟨hpl, hel⟩ := Zls hf
 obtain ⟨cs, hcs, hpure⟩ := Zi9 (sz := sz) hzl _ es [] 0 (len + 1) hf (by simp) (by rw [hpl, hes])
 simp only [Yag] at hcs
 obtain ⟨it, zv, hi, hz0, hr, _⟩ := Zc1 (w := w) (S := S) (H := H) (m := m) (l := l + 1) hz
 have hits : it.size = sz := by rw [← hse]; simp [Program.cellsOf, hi]
 have hzv : zv.cells.size = sz := by rw [← hr.1, hzl]
 have hbase : ZaE w S H m (l + 1) (List.replicate (len + 1) z).flatten ((Array.range ((len + 1) * sz)).map (zv.cells[· % zv.cells.size]!)) := by
  refine ⟨?_, fun i x v hx hv => ?_⟩
  ·simp [hzl]
  ·rw [Zh5 z (len + 1) i hzne] at hx
   split at hx
   ·rename_i hlt
    rw [hzl] at hx hlt
    have hm : i % sz < zv.cells.size := by rw [hzv]; exact Nat.mod_lt _ (by omega)
    have : v = zv.cells[i % sz] := by
     grind
    subst this
    exact hr.2 (i % sz) x _ hx (Yf hm)
   grind
 obtain ⟨p1, p2⟩ := Ziq hS parts
 obtain ⟨C, hC, hcr⟩ := Zed _ _ _ _ cs hbase p1 p2 hcs
 have hcl := Zd3 _ _ _ hcs
 have hcl2 : cs.length = (len + 1) * sz := by rw [hcl]; simp [hzl]
 have hrun := run_buildSlice (P := P) w t e (len + 1) (parts.map fun (i, x) => (i, a.eval x)) C it zv hu hi hz0 (by rw [hits]; omega) (by rw [hits]; exact Nat.mul_ne_zero (by omega) hsz) (by rw [hits]; exact hC)
 have hrun' : (execOp a.eval o).run P w = .ok (.value (.slice (some ⟨w.heap.size, 0, none⟩) (len + 1) (len + 1))) (w.alloc (.cells C e)) := by
  simp only [execOp, ho, Sem.run_bind, hrun, Result.andThen_ok, Sem.run_pure]
 obtain ⟨k1, k2⟩ := hO.lit C e (w.alloc (.cells C e)) rfl rfl rfl rfl
 refine Zau hrun' ?_
 rw [hd]
 refine ⟨_, hK, R.step k1 hn hdf hS hex k2 hdn (.d _ _ ?_)⟩
 have hblk : (w.alloc (.cells C e)).heap[w.heap.size]? = some (.cells C e (0, 0)) := by
  show (w.heap.push _)[w.heap.size]? = _
  rw [Yac, if_pos rfl]
 have hcell : ∀ (i j : Nat) (e' : List D) (d' : D), es[i]? = some e' → e'[j]? = some d' → ∃ v, C[i * sz + j]? = some v ∧ RepD w S d' v := fun i j e' d' hi' hj' => by
  have hfl := ZjW es hel i j e' d' hi' hj'
  have hlt : i * sz + j < cs.length := by
   rw [ZfK hpure]
   rcases Yo (i * sz + j) es.flatten.length with h | h
   ·exact h
   ·rw [Yx h] at hfl; cases hfl
  have hlt' : i * sz + j < C.size := by rw [← hcr.1]; exact hlt
  exact ⟨C[i * sz + j], Yf hlt', ZmH (ZkY hpure (Yb hlt) hfl) (hcr.2 _ _ _ (Yb hlt) (Yf hlt')).2⟩
 have := RepD.list (w := w.alloc (.cells C e)) (S := fun b => S b ∨ b = w.heap.size) es ⟨w.heap.size, 0, none⟩ sz (len + 1) (fun i j => (C[i * sz + j]?).getD undef) (fun _ => .inr rfl) (by omega) hel
  (fun i j e' d' hi' hj' => by
   obtain ⟨v, e1, _⟩ := hcell i j e' d' hi' hj'
   rw [Addr.add_lit, Zc5 hblk, Yz, e1]
   rfl)
  (fun i j e' d' hi' hj' => by
   obtain ⟨v, e1, e2⟩ := hcell i j e' d' hi' hj'
   rw [e1]
   have h3 : RepA w S H m (l + 1) (.d d') v := .d _ _ e2
   have h4 := h3.ext k2 (Yd _)
   cases h4 with | d _ _ hd => exact hd)
 rw [hes] at this
 exact this
theorem ZgB {t e : TypeId} {sz d : Nat} {parts : Array (Nat × Operand)} (ho : o.op = .buildSlice t 0 parts) (hd : o.dst = some d) (he : elm P t = some (e, sz)) (hsz : sz ≠ 0) (hp : parts.size = 0) (hdn : d < n)
  (hK : K ⟨upd s d .e0, H⟩) : AOp P l n B o K ⟨s, H⟩ := by
 obtain ⟨hu, hse⟩ := ZbZ he
 intro a w hR Q
 obtain ⟨m, S, hO, hn, hdf, hS, hex⟩ := hR.un
 have hp0 : parts = #[] := Yaa hp
 subst hp0
 have hrun : (execOp a.eval o).run P w = .ok (.value (.slice (some ⟨w.heap.size, 0, none⟩) 0 0)) (w.alloc (.cells #[] e)) := by
  simp [execOp, ho, Instr.buildSlice, run_underlying hu, ZbQ (P := P) (t := e) (by omega), Instr.fill, newRow]
  grind
 obtain ⟨k1, k2⟩ := hO.junk (w' := w.alloc (.cells #[] e)) (fun i hi => by show (w.heap.push _)[i]? = _; rw [Yac, if_neg (by omega)]) (by simp) rfl rfl rfl
 refine Zau hrun ?_
 rw [hd]
 exact ⟨_, hK, R.step k1 hn hdf hS hex k2 hdn (.e0 _)⟩
end
end Go.Eng
