/-
  The abstract state of a walk, part D: 'vOp' is what the model's operations yield.
-/
import Derived.Test.YthagpbkmakocjaaEngC
namespace Go.Eng
set_option linter.all false
open Go Go.RowKit

section
variable {P : Program} {l n : Nat} {H : Hp} {m : Mu} {S : Nat → Prop} {w : World} {s : Nat → AV} {a : Act}

theorem vFieldAddr_sound {t : TypeId} {i : Nat} {x : AV} {v : Value} {K : AV → Prop} (h : vFieldAddr P H t i x K) (hx : RepA w S H m l x v) :
    ∃ v' x', (Instr.fieldAt t v i).run P w = .ok v' w ∧ RepA w S H m l x' v' ∧ K x' := by
  unfold vFieldAddr fld at h
  have run : ∀ (ad : Addr) (o c : Nat), (match P.underlying t with | some (.struct fs) => (fs[i]?).map fun f => (f.offset, P.cellsOf f.type) | _ => none) = some (o, c) → c ≠ 0 →
      (Instr.fieldAt t (.pointer (some ad)) i).run P w = .ok (.pointer (some (ad.add o))) w := by
    intro ad o c he hc
    cases hu : P.underlying t with
    | none => rw [hu] at he; cases he
    | some d =>
      rw [hu] at he
      cases d <;> simp only at he <;> try cases he
      rename_i fs
      cases hf : fs[i]? with
      | none => rw [hf] at he; cases he
      | some f =>
        rw [hf] at he
        simp only [Option.map_some, Option.some.injEq, Prod.mk.injEq] at he
        obtain ⟨rfl, rfl⟩ := he
        simp [Instr.fieldAt, run_underlying hu, hf, Instr.sureAddr, fieldPlace, run_size hc, hc]
  split at h
  · rename_i cs off o c he
    cases hx with
    | iptr cs off a cc hb hc hr =>
      refine ⟨_, _, run _ o c he h.1, ?_, h.2⟩
      rw [add_add]
      exact .iptr cs (off + o) a cc hb hc hr
  · rename_i k g off o c he
    obtain ⟨hz, hg, hl, hK⟩ := h
    cases hx with
    | ptrL k off hk hl' =>
      refine ⟨_, _, run _ o c he hz, ?_, hK⟩
      rw [Addr.add_lit, Nat.add_assoc]
      exact .ptrL k (off + o) hk hl
    | ptrD k g off v hk hg' hd h1 => rw [hd hg] at hl; cases hl
  · exact h.elim

theorem vField_sound {t : TypeId} {i : Nat} {x : AV} {v : Value} {K : AV → Prop} (h : vField P t i x K) (hx : RepA w S H m l x v) :
    ∃ v' x', (Instr.field t v i).run P w = .ok v' w ∧ RepA w S H m l x' v' ∧ K x' := by
  unfold vField at h
  split at h
  · rename_i cs fs hu
    cases hx with
    | agg _ vs hlen h1 hc =>
      split at h
      · rename_i f hf
        split at h
        · rename_i hag
          obtain ⟨hz, hK⟩ := h
          refine ⟨.agg (vs.extract f.offset (f.offset + P.cellsOf f.type)), _, ?_, ?_, hK⟩
          · simp [Instr.field, run_underlying hu, hf, asAgg, part, run_isAgg hag, run_size hz]
          · refine .agg _ _ (by simp; omega) (fun i v hv => ?_) (fun i x v hi hv => ?_)
            · rw [Array.getElem?_extract] at hv
              split at hv
              · exact h1 _ _ hv
              · cases hv
            · rw [Array.getElem?_extract] at hv
              split at hv
              · rw [List.getElem?_take] at hi
                split at hi
                · rw [List.getElem?_drop] at hi
                  exact hc _ _ _ hi hv
                · cases hi
              · cases hv
        · rename_i hag
          split at h
          · rename_i c hc'
            have hlt : f.offset < vs.size := by
              rw [← hlen]
              rcases Nat.lt_or_ge f.offset cs.length with h | h
              · exact h
              · rw [List.getElem?_eq_none h] at hc'; cases hc'
            refine ⟨vs[f.offset], c, ?_, hc _ _ _ hc' (Array.getElem?_eq_getElem hlt), h⟩
            simp [Instr.field, run_underlying hu, hf, asAgg, part, run_isAgg hag, Array.getElem?_eq_getElem hlt]
          · exact h.elim
        · exact h.elim
      · exact h.elim
  · exact h.elim

theorem elm_some {t e : TypeId} {sz : Nat} (h : elm P t = some (e, sz)) : P.underlying t = some (.slice e) ∧ P.cellsOf e = sz := by
  unfold elm at h
  split at h
  · rename_i e' hu
    simp only [Option.some.injEq, Prod.mk.injEq] at h
    obtain ⟨rfl, rfl⟩ := h
    exact ⟨hu, rfl⟩
  · cases h

theorem vIndexAddr_sound {t : TypeId} {x i : AV} {v u : Value} {K : AV → Prop} (h : vIndexAddr P H t x i K) (hx : RepA w S H m l x v) (hi : RepA w S H m l i u) :
    ∃ v' x', (Instr.indexAt t v u).run P w = .ok v' w ∧ RepA w S H m l x' v' ∧ K x' := by
  unfold vIndexAddr at h
  split at h
  · rename_i es k j e sz he
    obtain ⟨hu, hsz⟩ := elm_some he
    obtain ⟨h0, h⟩ := h
    split at h
    · rename_i c hc
      obtain ⟨hl, hz, hK⟩ := h
      have hlt : j.toNat < es.length := by
        rcases Nat.lt_or_ge j.toNat es.length with h | h
        · exact h
        · rw [List.getElem?_eq_none h] at hc; cases hc
      cases hi with
      | d _ _ hd =>
        cases hd
        cases hx with
        | d _ _ hd =>
          cases hd with
          | nil => simp at hlt
          | list es a sz' cap cc hb hcap hsz' hcc hrr =>
            have e1 : sz' = sz := by rw [← hsz' c (List.mem_of_getElem? hc), hl]
            refine ⟨.pointer (some (a.add (j.toNat * sz))), .iptr c 0, ?_, ?_, hK⟩
            · simp only [Instr.indexAt, asIntOf, Sem.run_bind, Sem.run_pure, Result.andThen_ok, run_underlying hu, hsz ▸ run_size (P := P) (hsz ▸ hz : P.cellsOf e ≠ 0)]
              rw [if_pos ⟨h0, by omega⟩]
              simp [run_size (P := P) (t := e) (hsz ▸ hz), hsz]
            · have := RepA.iptr (w := w) (S := S) (H := H) (m := m) (l := l) c 0 (a.add (j.toNat * sz)) (fun q => cc j.toNat q) (by rw [block_add]; exact hb (by rintro rfl; simp at hlt))
                (fun q x hq => by rw [add_add, ← e1]; exact hcc _ _ _ _ hc hq) (fun q x hq => hrr _ _ _ _ hc hq)
              simpa [Addr.add] using this
    · exact h.elim
  · rename_i k g off len _ j e sz he
    obtain ⟨hu, hsz⟩ := elm_some he
    obtain ⟨h0, hlt, hg, hl, hs, hz, hK⟩ := h
    cases hi with
    | d _ _ hd =>
      cases hd
      cases hx with
      | refL k off n oa hk hl' hn ha =>
        have hoa := ha (by omega)
        subst hoa
        refine ⟨.pointer (some ⟨(m k).b, (m k).o + (off + j.toNat) * sz, none⟩), _, ?_, .ptrL k _ hk hl', hK⟩
        simp only [Instr.indexAt, asIntOf, Sem.run_bind, Sem.run_pure, Result.andThen_ok, run_underlying hu]
        rw [if_pos ⟨h0, by omega⟩]
        simp [run_size (P := P) (t := e) (hsz ▸ hz), hsz, Addr.add_lit, hs, Nat.add_mul, Nat.add_assoc]
      | refD k g off n v hk hg' hd h1 => rw [hd hg] at hl; cases hl
  · exact h.elim

theorem kin_str {t : TypeId} (h : kin P t = 2) : P.underlying t = some .string := by
  unfold kin at h; split at h <;> simp_all
theorem kin_bool {t : TypeId} (h : kin P t = 1) : P.underlying t = some .bool := by
  unfold kin at h; split at h <;> simp_all
theorem kin_slice {t : TypeId} (h : kin P t = 4) : ∃ e, P.underlying t = some (.slice e) := by
  unfold kin at h; split at h <;> simp_all

theorem vIndex_sound {t : TypeId} {x i : AV} {v u : Value} {K : AV → Prop} (h : vIndex P t x i K) (hx : RepA w S H m l x v) (hi : RepA w S H m l i u) :
    ∃ v' x', (Instr.index t v u).run P w = .ok v' w ∧ RepA w S H m l x' v' ∧ K x' := by
  unfold vIndex at h
  split at h
  · rename_i s k j
    obtain ⟨hk, h0, h⟩ := h
    have hu := kin_str hk
    split at h
    · rename_i b hb
      cases hi with
      | d _ _ hd =>
        cases hd
        cases hx with
        | d _ _ hd =>
          cases hd
          have hlt : j.toNat < s.data.toList.length := by
            rcases Nat.lt_or_ge j.toNat s.data.toList.length with h | h
            · exact h
            · rw [List.getElem?_eq_none h] at hb; cases hb
          have hlt' : j.toNat < s.size := by simpa using hlt
          have e : s[j.toNat]? = some b := by
            rw [getElem?_pos s j.toNat hlt']
            rw [List.getElem?_eq_getElem hlt] at hb
            simp only [Option.some.injEq] at hb
            rw [← hb]
            rfl
          refine ⟨.int .u8 b.toNat, _, ?_, .d _ _ (.int _ _), h⟩
          simp [Instr.index, asIntOf, run_underlying hu, h0, e]
    · exact h.elim
  · exact h.elim

theorem str_beq (a b : ByteArray) : (a.toList == b.toList) = decide (a = b) := by
  by_cases h : a = b
  · subst h; simp
  · rw [decide_eq_false h]
    have : a.toList ≠ b.toList := by
      intro e
      rw [ByteArray.toList_eq, ByteArray.toList_eq] at e
      exact h (ByteArray.ext (Array.toList_inj.1 e))
    simpa using this

theorem vInt_sound {op : BinOp} {k : IntKind} {x y : Int} {K : AV → Prop} (h : vInt op k x y K) (t : TypeId) :
    ∃ v' x', (binOp op t (.int k x) (.int k y)).run P w = .ok v' w ∧ RepA w S H m l x' v' ∧ K x' := by
  cases op <;> simp only [vInt] at h
  case add => exact ⟨.int k (k.wrap (x + y)), _, by simp [binOp, Op.intArith], .d _ _ (.int _ _), h⟩
  case sub => exact ⟨.int k (k.wrap (x - y)), _, by simp [binOp, Op.intArith], .d _ _ (.int _ _), h⟩
  case mul => exact ⟨.int k (k.wrap (x * y)), _, by simp [binOp, Op.intArith], .d _ _ (.int _ _), h⟩
  case quo => exact ⟨.int k (k.wrap (x.tdiv y)), _, by simp [binOp, Op.intDiv, h.1], .d _ _ (.int _ _), h.2⟩
  case rem => exact ⟨.int k (x.tmod y), _, by simp [binOp, Op.intDiv, h.1], .d _ _ (.int _ _), h.2⟩
  case shr => exact ⟨.int k (x.fdiv (2 ^ (min y.toNat k.bits))), _, by simp [binOp, Op.shift, Int.not_lt.2 h.1], .d _ _ (.int _ _), h.2⟩
  case shl => exact ⟨.int k (k.wrap (x * 2 ^ (min y.toNat k.bits))), _, by simp [binOp, Op.shift, Int.not_lt.2 h.1], .d _ _ (.int _ _), h.2⟩
  case eql => exact ⟨.bool (decide (x = y)), _, by simp [binOp, Op.intCmp]; rfl, .d _ _ (.bool _), h⟩
  case neq => exact ⟨.bool (!decide (x = y)), _, by simp [binOp, Op.intCmp, bne]; rfl, .d _ _ (.bool _), h⟩
  case lss => exact ⟨.bool (decide (x < y)), _, by simp [binOp, Op.intCmp], .d _ _ (.bool _), h⟩
  case leq => exact ⟨.bool (decide (x ≤ y)), _, by simp [binOp, Op.intCmp], .d _ _ (.bool _), h⟩
  case gtr => exact ⟨.bool (decide (y < x)), _, by simp [binOp, Op.intCmp], .d _ _ (.bool _), h⟩
  case geq => exact ⟨.bool (decide (y ≤ x)), _, by simp [binOp, Op.intCmp], .d _ _ (.bool _), h⟩

theorem vStr_sound {op : BinOp} {x y : ByteArray} {K : AV → Prop} (h : vStr op x y K) (t : TypeId) :
    ∃ v' x', (binOp op t (.string x) (.string y)).run P w = .ok v' w ∧ RepA w S H m l x' v' ∧ K x' := by
  cases op <;> simp only [vStr] at h
  case add =>
    refine ⟨.string (x ++ y), _, ?_, .d _ _ (.str _), h.2⟩
    have e : ¬ (((x.size + y.size : Nat) : Int) > IntKind.i64.max) := by
      have : IntKind.i64.max = 9223372036854775807 := by decide
      rw [this]
      omega
    simp only [binOp, Op.stringOp]
    rw [if_neg e]
    rfl
  case eql => exact ⟨.bool (decide (x = y)), _, by simp only [binOp, Op.stringOp, str_beq, Sem.run_pure], .d _ _ (.bool _), h⟩
  case neq => exact ⟨.bool (!decide (x = y)), _, by simp only [binOp, Op.stringOp, str_beq, Sem.run_pure], .d _ _ (.bool _), h⟩
  case lss => exact ⟨.bool (sLt x y), _, by simp only [binOp, Op.stringOp, sLt, Sem.run_pure], .d _ _ (.bool _), h⟩
  case leq => exact ⟨.bool (sLt x y || decide (x = y)), _, by simp only [binOp, Op.stringOp, str_beq, sLt, Sem.run_pure], .d _ _ (.bool _), h⟩
  case gtr => exact ⟨.bool (!(sLt x y || decide (x = y))), _, by simp only [binOp, Op.stringOp, str_beq, sLt, Sem.run_pure], .d _ _ (.bool _), h⟩
  case geq => exact ⟨.bool (!sLt x y), _, by simp only [binOp, Op.stringOp, sLt, Sem.run_pure], .d _ _ (.bool _), h⟩

theorem run_equal_of {t : TypeId} {v u : Value} {b : Bool} (h : ∀ d : Nat, (Op.equalIn (d + 1) t v u).run P w = .ok b w) : (Op.equal t v u).run P w = .ok b w := h 9999

/-- whether a slice is nil -/
theorem run_nil {t e : TypeId} (hu : P.underlying t = some (.slice e)) (a : Option Addr) (k c : Nat) :
    (binOp .eql t (.slice a k c) (.slice none 0 0)).run P w = .ok (.bool a.isNone) w ∧ (binOp .neq t (.slice a k c) (.slice none 0 0)).run P w = .ok (.bool (!a.isNone)) w := by
  have h : (Op.equal t (.slice a k c) (.slice none 0 0)).run P w = .ok a.isNone w := run_equal_of fun d => by cases a <;> simp [Op.equalIn, run_underlying hu]
  constructor <;> (unfold binOp; simp [h])

theorem vNil_sound {neg : Bool} {t : TypeId} {x : AV} {v : Value} {K : AV → Prop} (h : vNil H neg x K) (hx : RepA w S H m l x v) (hk : kin P t = 4) :
    ∃ v' x', (binOp (if neg then .neq else .eql) t v (.slice none 0 0)).run P w = .ok v' w ∧ RepA w S H m l x' v' ∧ K x' := by
  obtain ⟨e, hu⟩ := kin_slice hk
  have go : ∀ (a : Option Addr) (k c : Nat), (K (.d (.bool (if neg then !a.isNone else a.isNone)))) → v = .slice a k c →
      ∃ v' x', (binOp (if neg then .neq else .eql) t v (.slice none 0 0)).run P w = .ok v' w ∧ RepA w S H m l x' v' ∧ K x' := by
    intro a k c hK hv
    subst hv
    obtain ⟨h1, h2⟩ := run_nil (w := w) hu a k c
    cases neg
    · exact ⟨_, _, h1, .d _ _ (.bool _), hK⟩
    · exact ⟨_, _, h2, .d _ _ (.bool _), hK⟩
  unfold vNil at h
  split at h
  · cases hx with
    | d _ _ hd =>
      cases hd with
      | nil => exact go none 0 0 (h _) rfl
      | list es a sz cap c hb hcap hsz hc hr => exact go (some a) 0 cap (h _) rfl
  · cases hx with
    | e0 a => exact go a 0 0 (h _) rfl
  · cases hx with
    | d _ _ hd =>
      cases hd with
      | list es a sz cap c hb hcap hsz hc hr => exact go (some a) _ cap (by cases neg <;> exact h) rfl
  · rename_i k g off n
    obtain ⟨⟨hg, hl⟩, h1, h2⟩ := h
    cases hx with
    | refL k off n oa hk hl' hn ha =>
      by_cases hz : n = 0
      · exact go oa _ _ (h2 hz _) rfl
      · have := ha (by omega)
        subst this
        exact go _ _ _ (by cases neg <;> exact h1 hz) rfl
    | refD k g off n v hk hg' hd h1 => rw [hd hg] at hl; cases hl
  · exact h.elim

theorem eqD_run {x y : D} {v u : Value} {b : Bool} {t : TypeId} (h : eqD (kin P t) x y = some b) (hx : RepD w S x v) (hy : RepD w S y u) (d : Nat) :
    aggB P t = some false ∧ (Op.equalIn (d + 1) t v u).run P w = .ok b w := by
  generalize hk : kin P t = k at h
  unfold eqD at h
  split at h
  · split at h
    · cases h
      cases hx; cases hy
      obtain ⟨k', hu⟩ : ∃ k', P.underlying t = some (.int k') := by unfold kin at hk; split at hk <;> simp_all
      rename_i k1 a k2 c e _ _
      subst e
      refine ⟨by simp [aggB, hu, aggD], ?_⟩
      rw [run_equalIn_int w d t _ k' _ _ hu]
      congr 1
    · cases h
  · cases h
    cases hx; cases hy
    refine ⟨by simp [aggB, kin_str hk, aggD], ?_⟩
    rw [run_equalIn_string w d t _ _ (kin_str hk), ← beq_toListBytes]
    congr 1
    rename_i a c
    rw [beq_toListBytes]
    by_cases e : a = c
    · subst e; simp
    · have : a.toList ≠ c.toList := fun h => e (by
        have h2 := beq_toListBytes a c
        rw [h, beq_self_eq_true] at h2
        rw [ByteArray.toList_eq, ByteArray.toList_eq] at h
        obtain ⟨⟨a⟩⟩ := a
        obtain ⟨⟨c⟩⟩ := c
        simp at h
        rw [h])
      simp [e, this]
  · cases h
    cases hx; cases hy
    refine ⟨by simp [aggB, kin_bool hk, aggD], ?_⟩
    rw [run_equalIn_bool' w d t _ _ (kin_bool hk)]
    rename_i a c; cases a <;> cases c <;> rfl
  · cases h

theorem eqFields_run (d : Nat) (vs us : Array Value) : ∀ (fs : List Field) (k : Nat) (ks : List Nat) (xs ys : List AV) (b : Bool), eqF P k fs = some ks → eqAVs ks xs ys = some b →
    (∀ (i : Nat) (x : AV), xs[i]? = some x → ∃ v, vs[k + i]? = some v ∧ RepA w S H m l x v) → (∀ (i : Nat) (x : AV), ys[i]? = some x → ∃ v, us[k + i]? = some v ∧ RepA w S H m l x v) →
    (Op.eqFields (d + 1) vs us fs).run P w = .ok b w
  | [], k, ks, xs, ys, b, h1, h2, hx, hy => by
    simp only [eqF, Option.some.injEq] at h1
    subst h1
    cases xs <;> cases ys <;> simp only [eqAVs] at h2 <;> cases h2
    simp [Op.eqFields]
  | f :: fs, k, ks, xs, ys, b, h1, h2, hx, hy => by
    simp only [eqF] at h1
    split at h1
    · cases h1
    rename_i hf
    obtain ⟨ks', h1', rfl⟩ := Option.map_eq_some_iff.1 h1
    match xs, ys, h2, hx, hy with
    | .d x :: xs, .d y :: ys, h2, hx, hy =>
      simp only [eqAVs] at h2
      split at h2
      · rename_i a c ha hc
        cases h2
        obtain ⟨v, e1, hv⟩ := hx 0 _ rfl
        obtain ⟨u, e2, hu⟩ := hy 0 _ rfl
        have g1 : RepD w S x v := by cases hv with | d _ _ hd => exact hd
        have g2 : RepD w S y u := by cases hu with | d _ _ hd => exact hd
        obtain ⟨hag, hr⟩ := eqD_run ha g1 g2 d
        have ho : f.offset = k := by
          rcases Nat.decEq f.offset k with h | h
          · exact absurd (.inr h) hf
          · exact h
        have ih := eqFields_run d vs us fs (k + 1) ks' xs ys c h1' hc (fun i x h => by
          obtain ⟨v, h3, h4⟩ := hx (i + 1) x (by simpa using h)
          exact ⟨v, by rw [show k + 1 + i = k + (i + 1) from by omega]; exact h3, h4⟩) (fun i x h => by
          obtain ⟨v, h3, h4⟩ := hy (i + 1) x (by simpa using h)
          exact ⟨v, by rw [show k + 1 + i = k + (i + 1) from by omega]; exact h3, h4⟩)
        have p1 : (part f.type vs f.offset).run P w = .ok v w := by
          unfold part
          rw [ho]
          simp only [Sem.run_bind, run_isAgg hag, Result.andThen_ok, Bool.false_eq_true, if_false]
          rw [show vs[k]? = some v from e1]
          rfl
        have p2 : (part f.type us f.offset).run P w = .ok u w := by
          unfold part
          rw [ho]
          simp only [Sem.run_bind, run_isAgg hag, Result.andThen_ok, Bool.false_eq_true, if_false]
          rw [show us[k]? = some u from e2]
          rfl
        unfold Op.eqFields
        rw [if_pos (fun e => hf (.inl e))]
        simp only [Sem.run_bind, p1, p2, Result.andThen_ok, hr]
        cases a
        · simp
        · simp [ih]
      · cases h2

theorem vAgg_sound {op : BinOp} {t : TypeId} {xs ys : List AV} {v u : Value} {K : AV → Prop} (h : vAgg P op t xs ys K) (hx : RepA w S H m l (.agg xs) v) (hy : RepA w S H m l (.agg ys) u) :
    ∃ v' x', (binOp op t v u).run P w = .ok v' w ∧ RepA w S H m l x' v' ∧ K x' := by
  unfold vAgg at h
  split at h
  case h_2 => exact h.elim
  rename_i ks hks
  split at h
  case h_2 => exact h.elim
  rename_i b hb
  unfold eqT at hks
  split at hks
  case h_2 => cases hks
  rename_i fs hu
  split at hks
  case isFalse => cases hks
  rename_i hg
  simp only [Bool.and_eq_true, Bool.not_eq_true'] at hg
  cases hx with
  | agg _ vs hl h1 hr =>
    cases hy with
    | agg _ us hl' h1' hr' =>
      have hfs : P.fieldsOf t = fs := by simp [Program.fieldsOf, hu]
      have heq : (Op.equalIn 10000 t (.agg vs) (.agg us)).run P w = .ok b w := by
        rw [show (10000 : Nat) = 9998 + 1 + 1 from rfl, run_equalIn_struct w (9998 + 1) t vs us (by rw [hfs]; exact hu) hg.1, hfs]
        exact eqFields_run 9998 vs us fs.toList 0 ks xs ys b hks hb
          (fun i x h => by
            have hlt : i < vs.size := by
              rw [← hl]
              rcases Nat.lt_or_ge i xs.length with h' | h'
              · exact h'
              · rw [List.getElem?_eq_none h'] at h; cases h
            exact ⟨vs[i], by simp [hlt], hr i x _ h (Array.getElem?_eq_getElem hlt)⟩)
          (fun i x h => by
            have hlt : i < us.size := by
              rw [← hl']
              rcases Nat.lt_or_ge i ys.length with h' | h'
              · exact h'
              · rw [List.getElem?_eq_none h'] at h; cases h
            exact ⟨us[i], by simp [hlt], hr' i x _ h (Array.getElem?_eq_getElem hlt)⟩)
      split at h
      · exact ⟨.bool b, _, by rw [run_eql_struct, heq]; rfl, .d _ _ (.bool _), h⟩
      · exact ⟨.bool (!b), _, by rw [run_neq_struct, heq]; rfl, .d _ _ (.bool _), h⟩
      · exact h.elim

theorem vBin_sound {op : BinOp} {t : TypeId} {ny : Bool} {x y : AV} {v u : Value} {K : AV → Prop} (h : vBin P H op t ny x y K) (hx : RepA w S H m l x v) (hy : RepA w S H m l y u)
    (hny : ny = true → u = .slice none 0 0) : ∃ v' x', (binOp op t v u).run P w = .ok v' w ∧ RepA w S H m l x' v' ∧ K x' := by
  unfold vBin at h
  split at h
  · cases hx with
    | d _ _ hd => cases hd; cases hy with
      | d _ _ hd => cases hd; obtain ⟨rfl, h⟩ := h; exact vInt_sound h t
  · cases hx with
    | d _ _ hd => cases hd; cases hy with
      | d _ _ hd => cases hd; exact vStr_sound h t
  · cases hx with
    | d _ _ hd => cases hd; cases hy with
      | d _ _ hd =>
        cases hd
        obtain ⟨hk, h⟩ := h
        rename_i a b
        have hu := kin_bool hk
        have he : (Op.equal t (.bool a) (.bool b)).run P w = .ok (a == b) w := run_equal_of fun d => by simp [Op.equalIn, run_underlying hu]
        split at h
        · exact ⟨.bool (a == b), _, by unfold binOp; simp [he], .d _ _ (.bool _), h⟩
        · exact ⟨.bool (!(a == b)), _, by unfold binOp; simp [he], .d _ _ (.bool _), h⟩
        · exact h.elim
  · exact vAgg_sound h hx hy
  · obtain ⟨h1, hk, h⟩ := h
    have := hny h1
    subst this
    split at h
    · exact vNil_sound (neg := false) h hx hk
    · exact vNil_sound (neg := true) h hx hk
    · exact h.elim
  · exact h.elim

theorem vUn_sound {op : UnOp} {x : AV} {v : Value} {K : AV → Prop} (h : vUn op x K) (hx : RepA w S H m l x v) :
    ∃ v' x', (Op.unary op v).run P w = .ok v' w ∧ RepA w S H m l x' v' ∧ K x' := by
  unfold vUn at h
  split at h
  · cases hx with
    | d _ _ hd => cases hd; exact ⟨_, _, rfl, .d _ _ (.bool _), h⟩
  · cases hx with
    | d _ _ hd => cases hd; exact ⟨_, _, rfl, .d _ _ (.int _ _), h⟩
  · exact h.elim

theorem vConv_sound {s d : TypeId} {x : AV} {v : Value} {K : AV → Prop} (h : vConv P s d x K) (hx : RepA w S H m l x v) :
    ∃ v' x', (convert s d v).run P w = .ok v' w ∧ RepA w S H m l x' v' ∧ K x' := by
  unfold vConv at h
  split at h
  · rename_i hs hd
    cases hx with
    | d _ _ hd' =>
      cases hd'
      exact ⟨_, _, by simp [convert, run_underlying hs, run_underlying hd, Conv.intToInt], .d _ _ (.int _ _), h⟩
  · rename_i hs hd
    cases hx with
    | d _ _ hd' =>
      cases hd'
      exact ⟨_, _, by simp [convert, run_underlying hs, run_underlying hd], .d _ _ (.str _), h⟩
  · exact h.elim

theorem vLen_sound {t : TypeId} {x : AV} {v : Value} {K : AV → Prop} (h : vLen P H t x K) (hx : RepA w S H m l x v) (ty : TypeId) :
    ∃ v' x', (Builtin.len_ #[t] ty #[v]).run P w = .ok v' w ∧ RepA w S H m l x' v' ∧ K x' := by
  unfold vLen at h
  split at h
  · obtain ⟨hk, h⟩ := h
    have hu := kin_str hk
    cases hx with
    | d _ _ hd => cases hd; exact ⟨_, _, by simp [Builtin.len_, run_underlying hu, goInt], .d _ _ (.int _ _), h⟩
  · obtain ⟨hk, h⟩ := h
    obtain ⟨e, hu⟩ := kin_slice hk
    cases hx with
    | d _ _ hd => cases hd with
      | nil => exact ⟨_, _, by simp [Builtin.len_, run_underlying hu, goInt], .d _ _ (.int _ _), h⟩
      | list es a sz cap c hb hcap hsz hc hr => exact ⟨_, _, by simp [Builtin.len_, run_underlying hu, goInt], .d _ _ (.int _ _), h⟩
  · obtain ⟨hk, h⟩ := h
    obtain ⟨e, hu⟩ := kin_slice hk
    cases hx with
    | e0 a => exact ⟨_, _, by simp [Builtin.len_, run_underlying hu, goInt], .d _ _ (.int _ _), h⟩
  · obtain ⟨hk, hg, hl, h⟩ := h
    obtain ⟨e, hu⟩ := kin_slice hk
    cases hx with
    | refL k off n oa hk' hl' hn ha => exact ⟨_, _, by simp [Builtin.len_, run_underlying hu, goInt], .d _ _ (.int _ _), h⟩
    | refD k g off n v hk' hg' hd h1 => rw [hd hg] at hl; cases hl
  · exact h.elim
end
end Go.Eng
