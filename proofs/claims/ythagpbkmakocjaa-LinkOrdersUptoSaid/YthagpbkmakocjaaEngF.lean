/-
  The abstract state of a walk, part F: one operation.
-/
import Derived.Test.YthagpbkmakocjaaEngE
import Derived.Conc.MuLone
import Derived.Laws.CopyRow
namespace Go.Eng
set_option linter.all false
open Go Go.RowKit

def isNilC : Operand → Bool
  | .const (.slice none 0 0) => true
  | _ => false

def mmI (mx : Bool) (x y : Int) : Int := if mx then (if y > x then y else x) else (if y < x then y else x)
def vMM (mx : Bool) (x y : AV) (K : AV → Prop) : Prop :=
  match x, y with
  | .d (.int k m), .d (.int _ n) => K (.d (.int k (mmI mx m n)))
  | _, _ => False
def vMM3 (mx : Bool) (x y z : AV) (K : AV → Prop) : Prop :=
  match x, y, z with
  | .d (.int k m), .d (.int _ n), .d (.int _ p) => K (.d (.int k (mmI mx (mmI mx m n) p)))
  | _, _, _ => False
def mmB : Builtin → Option Bool
  | .min => some false
  | .max => some true
  | _ => none

/-- a check that a pointer is one -/
def vChk (H : Hp) (x : AV) (K : AV → Prop) : Prop :=
  match x with
  | .ptr k g off => g = (H k).g ∧ (H k).live = true ∧ K (.ptr k g off)
  | .iptr cs off => K (.iptr cs off)
  | _ => False

def vOp (P : Program) (H : Hp) (op : Op) (ρ : Operand → AV) (K : AV → Prop) : Prop :=
  match op with
  | .move x | .assign x => K (ρ x)
  | .pick c a b => match ρ c with | .d (.bool t) => K (if t then ρ a else ρ b) | _ => False
  | .load t x => vLoad P H t (ρ x) K
  | .fieldAddr t x i => vFieldAddr P H t i (ρ x) K
  | .field t x i => vField P t i (ρ x) K
  | .indexAddr t x i => vIndexAddr P H t (ρ x) (ρ i) K
  | .index t x i => vIndex P t (ρ x) (ρ i) K
  | .extract x i => match ρ x with | .tup vs => (match vs[i]? with | some y => K y | none => False) | _ => False
  | .binOp op t x y _ => vBin P H op t (isNilC y) (ρ x) (ρ y) K
  | .unOp op _ x => vUn op (ρ x) K
  | .convert s d x => vConv P s d (ρ x) K
  | .nilCheck x => vChk H (ρ x) K
  | .makeFunc fn first caps => K (.fn fn (first.toList.map ρ) (caps.toList.map ρ))
  | .slice t x lo hi mx => vSlice P H t (ρ x) (lo.map ρ) (hi.map ρ) mx.isSome K
  | .build t parts => vBuild P t (parts.toList.map fun p => (p.1, ρ p.2)) K
  | .call c => match c.callee, c.args[0]?, c.argTypes[0]? with
    | .builtin .len, some x, some t => c.args.size = 1 ∧ vLen P H t (ρ x) K
    | .builtin b, _, _ => (match mmB b, c.args.toList with | some mx, [x, y] => vMM mx (ρ x) (ρ y) K | some mx, [x, y, z] => vMM3 mx (ρ x) (ρ y) (ρ z) K | _, _ => False)
    | _, _, _ => False
  | _ => False

section
variable {P : Program} {l n : Nat} {H : Hp} {m : Mu} {S : Nat → Prop} {w : World} {s : Nat → AV} {a : Act}

theorem strB_places {fs : List Field} (h : fs.all (fun f => (P.info? f.type).isSome) = true) :
    fs.mapM (fun f => (P.info? f.type).map fun i => (f.offset, i.size)) = some (fs.map fun f => (f.offset, P.cellsOf f.type)) := by
  induction fs with
  | nil => rfl
  | cons f fs ih =>
    simp only [List.all_cons, Bool.and_eq_true] at h
    obtain ⟨i, hi⟩ := Option.isSome_iff_exists.1 h.1
    simp [List.mapM_cons, hi, ih h.2, Program.cellsOf]

theorem zer_some {t : TypeId} {z : List AV} (h : zer P t = some z) : ∃ it zv, P.info? t = some it ∧ it.zero = some zv ∧ CellsRep w S H m l z zv.cells ∧ z.length = it.size := by
  unfold zer at h
  cases hi : P.info? t with
  | none => rw [hi] at h; cases h
  | some it =>
    rw [hi] at h
    simp only [Option.bind_some] at h
    cases hz : it.zero with
    | none => rw [hz] at h; cases h
    | some zv =>
      rw [hz] at h
      simp only [Option.bind_some] at h
      split at h
      case isFalse => cases h
      rename_i hall
      simp only [Option.some.injEq] at h
      subst h
      refine ⟨it, zv, rfl, hz, ⟨by simp, fun i x v hx hv => ?_⟩, by simp [hall.2]⟩
      rw [List.getElem?_map, Array.getElem?_toList, hv] at hx
      simp only [Option.map_some, Option.some.injEq] at hx
      subst hx
      exact ⟨List.all_eq_true.1 hall.1 v (Array.mem_toList_iff.2 (Array.mem_of_getElem? hv)), cv_rep v⟩

theorem vBuild_sound {t : TypeId} {ps : List (Nat × AV)} {vs : Array (Nat × Value)} {K : AV → Prop} (h : vBuild P t ps K) (hl : ps.length = vs.size)
    (hp : ∀ (i : Nat) (p : Nat × AV) (q : Nat × Value), ps[i]? = some p → vs[i]? = some q → p.1 = q.1 ∧ RepA w S H m l p.2 q.2) :
    ∃ v' x', (Instr.build t vs).run P w = .ok v' w ∧ RepA w S H m l x' v' ∧ K x' := by
  unfold vBuild strB at h
  obtain ⟨h1, h⟩ := h
  split at h1
  · rename_i fs it hu hi
    split at h
    · rename_i z hz
      split at h
      · rename_i cs hf
        obtain ⟨it', zv, hi', hzz, hz0, _⟩ := zer_some (w := w) (S := S) (H := H) (m := m) (l := l) hz
        rw [hi] at hi'
        simp only [Option.some.injEq] at hi'
        subst hi'
        · obtain ⟨C, hC, hr⟩ := fill_sound ps vs.toList _ _ cs hz0 (by simpa using hl) (fun i p q a b => hp i p q a (by rwa [Array.getElem?_toList] at b)) hf
          refine ⟨.agg C, .agg cs, ?_, .agg _ _ hr.1 (fun i v hv => ?_) (fun i x v hi hv => (hr.2 i x v hi hv).2), h⟩
          · refine run_build w t vs C ?_
            unfold Program.built
            simp only [hi, hu, hzz, strB_places h1]
            have : (fun i => (fs.toList.map fun f => (f.offset, P.cellsOf f.type)).toArray[i]?) = fld P t := by
              funext i
              simp [fld, hu]
            rw [this]
            exact hC
          · have hlt : i < cs.length := by
              rw [hr.1]
              rcases Nat.lt_or_ge i C.size with h | h
              · exact h
              · rw [Array.getElem?_eq_none h] at hv; cases hv
            exact (hr.2 i _ v (List.getElem?_eq_getElem hlt) hv).1
      · exact h.elim
    · exact h.elim
  · cases h1

theorem map_rep (hS : Slots l s H m S a w) (xs : Array Operand) : (xs.toList.map (ev s)).length = (xs.map a.eval).size ∧
    ∀ (i : Nat) (x : AV) (v : Value), (xs.toList.map (ev s))[i]? = some x → (xs.map a.eval)[i]? = some v → RepA w S H m l x v := by
  refine ⟨by simp, fun i x v hx hv => ?_⟩
  simp only [List.getElem?_map, Array.getElem?_toList, Array.getElem?_map] at hx hv
  cases ho : xs[i]? with
  | none => rw [ho] at hx; cases hx
  | some o =>
    rw [ho] at hx hv
    simp only [Option.map_some, Option.some.injEq] at hx hv
    subst hx; subst hv
    exact ev_rep hS o

theorem ov_of (hS : Slots l s H m S a w) (o : Option Operand) : OV w S H m l (o.map (ev s)) (o.map a.eval) := by
  cases o with
  | none => exact ⟨fun _ h => by (cases h), fun _ => rfl⟩
  | some x => exact ⟨fun y h => by (simp only [Option.map_some, Option.some.injEq] at h; subst h; exact ⟨_, rfl, ev_rep hS x⟩), fun h => by (cases h)⟩

theorem guard_ok {op : BinOp} {t : TypeId} {x y : Operand} {v u : Value} (h1 : ∀ cs, v ≠ .agg cs) (h2 : v ≠ .nilIface) : (eqGuard op t x y v u).run P w = .ok () w := by
  unfold eqGuard
  cases v <;> first
    | (exact absurd rfl (h1 _))
    | (exact absurd rfl h2)
    | (cases op <;> simp)

theorem vBin_shape {op : BinOp} {t : TypeId} {ny : Bool} {x y : AV} {v : Value} {K : AV → Prop} (h : vBin P H op t ny x y K) (hna : ∀ xs, x ≠ .agg xs) (hx : RepA w S H m l x v) : (∀ cs, v ≠ .agg cs) ∧ v ≠ .nilIface := by
  have one : ∀ {z : D}, RepA w S H m l (.d z) v → (∀ cs, v ≠ .agg cs) ∧ v ≠ .nilIface := by
    intro z hz
    cases hz with
    | d _ _ hd => cases hd <;> exact ⟨fun _ e => (by cases e), fun e => (by cases e)⟩
  unfold vBin at h
  split at h
  · exact one hx
  · exact one hx
  · exact one hx
  · exact absurd rfl (hna _)
  · obtain ⟨_, _, h⟩ := h
    have nil : ∀ neg, vNil H neg x K → (∀ cs, v ≠ .agg cs) ∧ v ≠ .nilIface := by
      intro neg h
      unfold vNil at h
      split at h
      · exact one hx
      · cases hx with
        | e0 a => exact ⟨fun _ e => (by cases e), fun e => (by cases e)⟩
      · exact one hx
      · obtain ⟨⟨hg, hl⟩, _⟩ := h
        cases hx with
        | refL k off n oa hk hl' hn ha => exact ⟨fun _ e => (by cases e), fun e => (by cases e)⟩
        | refD k g off n v hk hg' hd h1 => rw [hd hg] at hl; cases hl
      · exact h.elim
    split at h
    · exact nil _ h
    · exact nil _ h
    · exact h.elim
  · exact h.elim

theorem vBin_guard {op : BinOp} {t : TypeId} {ny : Bool} {x y : AV} {v u : Value} {K : AV → Prop} {p q : Operand} (h : vBin P H op t ny x y K) (hx : RepA w S H m l x v) (hy : RepA w S H m l y u) : (eqGuard op t p q v u).run P w = .ok () w := by
  by_cases hag : ∃ xs, x = .agg xs
  · obtain ⟨xs, rfl⟩ := hag
    cases hx with
    | agg _ vs hl h1 hr =>
      unfold vBin at h
      split at h
      · rename_i e; cases e
      · rename_i e; cases e
      · rename_i e; cases e
      · rename_i ys e
        cases e
        cases hy with
        | agg _ us hl' h1' hr' =>
          unfold vAgg at h
          split at h
          case h_2 => exact h.elim
          rename_i ks hks
          unfold eqT at hks
          split at hks
          case h_2 => cases hks
          split at hks
          case isFalse => cases hks
          rename_i hg
          simp only [Bool.and_eq_true, Bool.not_eq_true'] at hg
          exact run_eqGuard_agg w op t p q vs us hg.2
      · obtain ⟨_, _, h⟩ := h
        split at h
        · exact h.elim
        · exact h.elim
        · exact h.elim
      · exact h.elim
  · obtain ⟨g1, g2⟩ := vBin_shape h (fun xs e => hag ⟨xs, e⟩) hx
    exact guard_ok g1 g2

/-- An operation that writes nothing yields what 'vOp' says. -/
theorem vOp_sound {o : Oper} {K : AV → Prop} (h : vOp P H o.op (ev s) K) (hO : Ok (l + 1) H m S w) (hS : Slots (l + 1) s H m S a w) :
    ∃ v x, (execOp a.eval o).run P w = .ok (.value v) w ∧ RepA w S H m (l + 1) x v ∧ K x := by
  have val : ∀ {c : Sem Value}, (∃ v x, c.run P w = .ok v w ∧ RepA w S H m (l + 1) x v ∧ K x) → (execOp a.eval o = (do pure (.value (← c)))) → ∃ v x, (execOp a.eval o).run P w = .ok (.value v) w ∧ RepA w S H m (l + 1) x v ∧ K x := by
    rintro c ⟨v, x, h1, h2, h3⟩ he
    exact ⟨v, x, by rw [he]; simp [h1], h2, h3⟩
  have hr : ∀ x : Operand, RepA w S H m (l + 1) (ev s x) (a.eval x) := ev_rep hS
  unfold vOp at h
  split at h
  · rename_i x he; exact ⟨_, _, by unfold execOp; simp [he], hr x, h⟩
  · rename_i x he; exact ⟨_, _, by unfold execOp; simp [he], hr x, h⟩
  · rename_i c x y he
    split at h
    · rename_i t ht
      have hc := hr c
      rw [ht] at hc
      cases hc with
      | d _ _ hd =>
        generalize hv : a.eval c = vc at hd
        cases hd
        refine ⟨if t then a.eval x else a.eval y, _, by unfold execOp; simp [he, hv, asBool], ?_, h⟩
        cases t
        · exact hr y
        · exact hr x
    · exact h.elim
  · rename_i t x he; exact val (vLoad_sound h (hr x) hO) (by unfold execOp; rw [he])
  · rename_i t x i he; exact val (vFieldAddr_sound h (hr x)) (by unfold execOp; rw [he])
  · rename_i t x i he; exact val (vField_sound h (hr x)) (by unfold execOp; rw [he])
  · rename_i t x i he; exact val (vIndexAddr_sound h (hr x) (hr i)) (by unfold execOp; rw [he])
  · rename_i t x i he; exact val (vIndex_sound h (hr x) (hr i)) (by unfold execOp; rw [he])
  · rename_i x i he
    split at h
    · rename_i vs hvs
      split at h
      · rename_i y hy
        have hx := hr x
        rw [hvs] at hx
        generalize hv : a.eval x = vx at hx
        cases hx with
        | tup _ us hl hc =>
          have hlt : i < us.size := by
            rw [← hl]
            rcases Nat.lt_or_ge i vs.length with h | h
            · exact h
            · rw [List.getElem?_eq_none h] at hy; cases hy
          have hu : us[i]? = some us[i] := Array.getElem?_eq_getElem hlt
          exact ⟨us[i], y, by unfold execOp; simp [he, hv, Instr.extract, hu], hc i y _ hy hu, h⟩
      · exact h.elim
    · exact h.elim
  · rename_i op t x y q he
    have hny : isNilC y = true → a.eval y = .slice none 0 0 := by
      intro hm
      unfold isNilC at hm
      split at hm
      · rfl
      · cases hm
    obtain ⟨v, x', h1, h2, h3⟩ := vBin_sound h (hr x) (hr y) hny
    refine ⟨v, x', ?_, h2, h3⟩
    simp only [execOp, he, Sem.run_bind, vBin_guard h (hr x) (hr y), Result.andThen_ok, h1, Sem.run_pure]
  · rename_i op t x he; exact val (vUn_sound h (hr x)) (by unfold execOp; rw [he])
  · rename_i t u x he; exact val (vConv_sound h (hr x)) (by unfold execOp; rw [he])
  · rename_i x he
    have hx := hr x
    unfold vChk at h
    split at h
    · rename_i k g off hxk
      obtain ⟨hg, hl, hK⟩ := h
      rw [hxk] at hx
      have hx2 := hx
      generalize hv : a.eval x = vx at hx hx2
      cases hx with
      | ptrL => exact ⟨_, _, by unfold execOp; simp [he, hv], hx2, hK⟩
      | ptrD _ _ _ _ _ _ hd => rw [hd hg] at hl; cases hl
    · rename_i cs off hxk
      rw [hxk] at hx
      have hx2 := hx
      generalize hv : a.eval x = vx at hx hx2
      cases hx with
      | iptr => exact ⟨_, _, by unfold execOp; simp [he, hv], hx2, h⟩
    · exact h.elim
  · rename_i fn first caps he
    refine ⟨_, _, by unfold execOp; simp [he, Instr.makeFunc]; rfl, ?_, h⟩
    exact .fn _ _ _ _ _ (map_rep hS first).1 (map_rep hS caps).1 (map_rep hS first).2 (map_rep hS caps).2
  · rename_i t x lo hi mx he
    exact val (vSlice_sound (mv := mx.map a.eval) h (hr x) (ov_of hS lo) (ov_of hS hi) (fun e => by cases mx <;> first | rfl | cases e)) (by simp only [execOp, he])
  · rename_i t parts he
    refine val (vBuild_sound (vs := parts.map fun (i, x) => (i, a.eval x)) h (by simp) (fun i p q hp hq => ?_)) (by unfold execOp; rw [he])
    simp only [List.getElem?_map, Array.getElem?_toList, Array.getElem?_map] at hp hq
    cases ho : parts[i]? with
    | none => rw [ho] at hp; cases hp
    | some o =>
      rw [ho] at hp hq
      simp only [Option.map_some, Option.some.injEq] at hp hq
      subst hp; subst hq
      exact ⟨rfl, hr o.2⟩
  · rename_i c he
    split at h
    · rename_i x t hc h0 h1
      obtain ⟨hsz, h⟩ := h
      obtain ⟨v, x', e1, e2, e3⟩ := vLen_sound h (hr x) o.type
      refine ⟨v, x', ?_, e2, e3⟩
      have ha : (c.args.map a.eval)[0]? = some (a.eval x) := by simp [h0]
      have hlen : (Builtin.len_ c.argTypes o.type (c.args.map a.eval)).run P w = .ok v w := by
        rw [← e1]
        unfold Builtin.len_
        simp only [ha, h1]
        rfl
      unfold execOp
      simp [he, resolve, hc, invoke, builtin, hlen]
    · rename_i b h0 hc
      split at h
      · rename_i mx x y hb ha
        have ha' : c.args = #[x, y] := Array.ext' (by simpa using ha)
        unfold vMM at h
        split at h
        · rename_i k m k' n' hx hy
          have h1 := hr x
          have h2 := hr y
          rw [hx] at h1
          rw [hy] at h2
          generalize hxv : a.eval x = xv at h1
          generalize hyv : a.eval y = yv at h2
          cases h1
          rename_i hd1
          cases h2
          rename_i hd2
          cases hd1
          cases hd2
          refine ⟨.int k (mmI mx m n'), _, ?_, .d _ _ (.int _ _), h⟩
          unfold mmB at hb
          split at hb
          · cases hb
            unfold execOp
            simp [he, resolve, h0, invoke, builtin, ha', hxv, hyv, Builtin.min_, Builtin.min2, mmI]
          · cases hb
            unfold execOp
            simp [he, resolve, h0, invoke, builtin, ha', hxv, hyv, Builtin.max_, Builtin.max2, mmI]
          · cases hb
        · exact h.elim
      · rename_i mx x y z hb ha
        have ha' : c.args = #[x, y, z] := Array.ext' (by simpa using ha)
        unfold vMM3 at h
        split at h
        · rename_i k m k' n' k'' p' hx hy hz
          have h1 := hr x
          have h2 := hr y
          have h3 := hr z
          rw [hx] at h1
          rw [hy] at h2
          rw [hz] at h3
          generalize hxv : a.eval x = xv at h1
          generalize hyv : a.eval y = yv at h2
          generalize hzv : a.eval z = zv at h3
          cases h1
          rename_i hd1
          cases h2
          rename_i hd2
          cases h3
          rename_i hd3
          cases hd1
          cases hd2
          cases hd3
          refine ⟨.int k (mmI mx (mmI mx m n') p'), _, ?_, .d _ _ (.int _ _), h⟩
          unfold mmB at hb
          split at hb
          · cases hb
            unfold execOp
            simp [he, resolve, h0, invoke, builtin, ha', hxv, hyv, hzv, Builtin.min_, Builtin.min2, mmI]
          · cases hb
            unfold execOp
            simp [he, resolve, h0, invoke, builtin, ha', hxv, hyv, hzv, Builtin.max_, Builtin.max2, mmI]
          · cases hb
        · exact h.elim
      · exact h.elim
    · exact h.elim
  · exact h.elim
end
end Go.Eng
