import Derived.Test.YthagpbkmakocjaaGreatCy00
import Derived.MapKept
namespace Go.Eng
set_option linter.all false
open Go Go.RowKit
section
variable {P : Program} {l n : Nat} {H : Hp} {m : Mu} {S : Nat → Prop} {w : World} {s : Nat → AV} {a : Act}
theorem ZfE {t : TypeId} {i : Nat} {x : AV} {v : Value} {K : AV → Prop} (h : Za7 P H t i x K) (hx : RepA w S H m l x v) :
  ∃ v' x', (Instr.fieldAt t v i).run P w = .ok v' w ∧ RepA w S H m l x' v' ∧ K x' := by
 unfold Za7 fld at h
 have run : ∀ (ad : Addr) (o c : Nat), (match P.underlying t with | some (.struct fs) => (fs[i]?).map fun f => (f.offset, P.cellsOf f.type) | _ => none) = some (o, c) → c ≠ 0 →
   (Instr.fieldAt t (.pointer (some ad)) i).run P w = .ok (.pointer (some (ad.add o))) w := by
  intro ad o c he hc
  cases hu : P.underlying t with
  | none => rw [hu] at he; cases he
  | some d =>
   rw [hu] at he
   cases d <;> simp only at he <;> try cases he
   rename_i fs
   cases hf : fs[i]? with
   | none => rw [hf] at he; cases he
   | some f =>
    rw [hf] at he
    simp only [Option.map_some, Option.some.injEq, Prod.mk.injEq] at he
    obtain ⟨rfl, rfl⟩ := he
    simp [Instr.fieldAt, run_underlying hu, hf, Instr.sureAddr, fieldPlace, ZbP hc, hc]
 split at h
 ·rename_i cs off o c he
  cases hx with
  | iptr cs off a cc hb hc hr =>
   refine ⟨_, _, run _ o c he h.1, ?_, h.2⟩
   rw [add_add]
   exact .iptr cs (off + o) a cc hb hc hr
 ·rename_i k g off o c he
  obtain ⟨hz, hg, hl, hK⟩ := h
  cases hx with
  | ptrL k off hk hl' =>
   refine ⟨_, _, run _ o c he hz, ?_, hK⟩
   rw [Addr.add_lit, Nat.add_assoc]
   exact .ptrL k (off + o) hk hl
  | ptrD k g off v hk hg' hd h1 => rw [hd hg] at hl; cases hl
 ·exact h.elim
theorem ZjG {t : TypeId} {i : Nat} {x : AV} {v : Value} {K : AV → Prop} (h : Zdq P t i x K) (hx : RepA w S H m l x v) :
  ∃ v' x', (Instr.field t v i).run P w = .ok v' w ∧ RepA w S H m l x' v' ∧ K x' := by
 unfold Zdq at h
 split at h
 ·rename_i cs fs hu
  cases hx with
  | agg _ vs hlen h1 hc =>
   split at h
   ·rename_i f hf
    split at h
    ·rename_i hag
     obtain ⟨hz, hK⟩ := h
     refine ⟨.agg (vs.extract f.offset (f.offset + P.cellsOf f.type)), _, ?_, ?_, hK⟩
     ·simp [Instr.field, run_underlying hu, hf, asAgg, part, ZcB hag, ZbP hz]
     ·refine .agg _ _ (by simp; omega) (fun i v hv => ?_) (fun i x v hi hv => ?_)
      ·rw [Array.getElem?_extract] at hv
       split at hv
       ·exact h1 _ _ hv
       ·cases hv
      ·rw [Array.getElem?_extract] at hv
       split at hv
       ·rw [List.getElem?_take] at hi
        split at hi
        ·rw [List.getElem?_drop] at hi
         exact hc _ _ _ hi hv
        ·cases hi
       ·cases hv
    ·rename_i hag
     split at h
     ·rename_i c hc'
      have hlt : f.offset < vs.size := by
       rw [← hlen]
       rcases Nat.lt_or_ge f.offset cs.length with h | h
       ·exact h
       ·rw [List.getElem?_eq_none h] at hc'; cases hc'
      refine ⟨vs[f.offset], c, ?_, hc _ _ _ hc' (Array.getElem?_eq_getElem hlt), h⟩
      simp [Instr.field, run_underlying hu, hf, asAgg, part, ZcB hag, Array.getElem?_eq_getElem hlt]
     ·exact h.elim
    ·exact h.elim
   ·exact h.elim
 ·exact h.elim
theorem Zb6 {t e : TypeId} {sz : Nat} (h : elm P t = some (e, sz)) : P.underlying t = some (.slice e) ∧ P.cellsOf e = sz := by
 unfold elm at h
 split at h
 ·rename_i e' hu
  simp only [Option.some.injEq, Prod.mk.injEq] at h
  obtain ⟨rfl, rfl⟩ := h
  exact ⟨hu, rfl⟩
 ·cases h
theorem ZfF {t : TypeId} {x i : AV} {v u : Value} {K : AV → Prop} (h : Za3 P H t x i K) (hx : RepA w S H m l x v) (hi : RepA w S H m l i u) :
  ∃ v' x', (Instr.indexAt t v u).run P w = .ok v' w ∧ RepA w S H m l x' v' ∧ K x' := by
 unfold Za3 at h
 split at h
 ·rename_i es k j e sz he
  obtain ⟨hu, hsz⟩ := Zb6 he
  obtain ⟨h0, h⟩ := h
  split at h
  ·rename_i c hc
   obtain ⟨hl, hz, hK⟩ := h
   have hlt : j.toNat < es.length := by
    rcases Nat.lt_or_ge j.toNat es.length with h | h
    ·exact h
    ·rw [List.getElem?_eq_none h] at hc; cases hc
   cases hi with
   | d _ _ hd =>
    cases hd
    cases hx with
    | d _ _ hd =>
     cases hd with
     | nil => simp at hlt
     | list es a sz' cap cc hb hcap hsz' hcc hrr =>
      have e1 : sz' = sz := by rw [← hsz' c (List.mem_of_getElem? hc), hl]
      refine ⟨.pointer (some (a.add (j.toNat * sz))), .iptr c 0, ?_, ?_, hK⟩
      ·simp only [Instr.indexAt, asIntOf, Sem.run_bind, Sem.run_pure, Result.andThen_ok, run_underlying hu, hsz ▸ ZbP (P := P) (hsz ▸ hz : P.cellsOf e ≠ 0)]
       rw [if_pos ⟨h0, by omega⟩]
       simp [ZbP (P := P) (t := e) (hsz ▸ hz), hsz]
      ·have := RepA.iptr (w := w) (S := S) (H := H) (m := m) (l := l) c 0 (a.add (j.toNat * sz)) (fun q => cc j.toNat q) (by rw [block_add]; exact hb (by rintro rfl; simp at hlt))
        (fun q x hq => by rw [add_add, ← e1]; exact hcc _ _ _ _ hc hq) (fun q x hq => hrr _ _ _ _ hc hq)
       simpa [Addr.add] using this
  ·exact h.elim
 ·rename_i k g off len _ j e sz he
  obtain ⟨hu, hsz⟩ := Zb6 he
  obtain ⟨h0, hlt, hg, hl, hs, hz, hK⟩ := h
  cases hi with
  | d _ _ hd =>
   cases hd
   cases hx with
   | refL k off n oa hk hl' hn ha =>
    have hoa := ha (by omega)
    subst hoa
    refine ⟨.pointer (some ⟨(m k).b, (m k).o + (off + j.toNat) * sz, none⟩), _, ?_, .ptrL k _ hk hl', hK⟩
    simp only [Instr.indexAt, asIntOf, Sem.run_bind, Sem.run_pure, Result.andThen_ok, run_underlying hu]
    rw [if_pos ⟨h0, by omega⟩]
    simp [ZbP (P := P) (t := e) (hsz ▸ hz), hsz, Addr.add_lit, hs, Nat.add_mul, Nat.add_assoc]
   | refD k g off n v hk hg' hd h1 => rw [hd hg] at hl; cases hl
 ·exact h.elim
theorem ZdY {t : TypeId} (h : kin P t = 2) : P.underlying t = some .string := by
 unfold kin at h; split at h <;> simp_all
theorem ZiE {t : TypeId} (h : kin P t = 1) : P.underlying t = some .bool := by
 unfold kin at h; split at h <;> simp_all
theorem ZeN {t : TypeId} (h : kin P t = 4) : ∃ e, P.underlying t = some (.slice e) := by
 unfold kin at h; split at h <;> simp_all
theorem Zjt {t : TypeId} {x i : AV} {v u : Value} {K : AV → Prop} (h : ZdK P t x i K) (hx : RepA w S H m l x v) (hi : RepA w S H m l i u) :
  ∃ v' x', (Instr.index t v u).run P w = .ok v' w ∧ RepA w S H m l x' v' ∧ K x' := by
 unfold ZdK at h
 split at h
 ·rename_i s k j
  obtain ⟨hk, h0, h⟩ := h
  have hu := ZdY hk
  split at h
  ·rename_i b hb
   cases hi with
   | d _ _ hd =>
    cases hd
    cases hx with
    | d _ _ hd =>
     cases hd
     have hlt : j.toNat < s.data.toList.length := by
      rcases Nat.lt_or_ge j.toNat s.data.toList.length with h | h
      ·exact h
      ·rw [List.getElem?_eq_none h] at hb; cases hb
     have hlt' : j.toNat < s.size := by simpa using hlt
     have e : s[j.toNat]? = some b := by
      rw [getElem?_pos s j.toNat hlt']
      rw [List.getElem?_eq_getElem hlt] at hb
      simp only [Option.some.injEq] at hb
      rw [← hb]
      rfl
     refine ⟨.int .u8 b.toNat, _, ?_, .d _ _ (.int _ _), h⟩
     simp [Instr.index, asIntOf, run_underlying hu, h0, e]
  ·exact h.elim
 ·exact h.elim
theorem Zit (a b : ByteArray) : (a.toList == b.toList) = decide (a = b) := by
 by_cases h : a = b
 ·subst h; simp
 ·rw [decide_eq_false h]
  have : a.toList ≠ b.toList := by
   intro e
   rw [ByteArray.toList_eq, ByteArray.toList_eq] at e
   exact h (ByteArray.ext (Array.toList_inj.1 e))
  simpa using this
theorem ZmO {op : BinOp} {k : IntKind} {x y : Int} {K : AV → Prop} (h : ZqW op k x y K) (t : TypeId) :
  ∃ v' x', (binOp op t (.int k x) (.int k y)).run P w = .ok v' w ∧ RepA w S H m l x' v' ∧ K x' := by
 cases op <;> simp only [ZqW] at h
 case add => exact ⟨.int k (k.wrap (x + y)), _, by simp [binOp, Op.intArith], .d _ _ (.int _ _), h⟩
 case sub => exact ⟨.int k (k.wrap (x - y)), _, by simp [binOp, Op.intArith], .d _ _ (.int _ _), h⟩
 case mul => exact ⟨.int k (k.wrap (x * y)), _, by simp [binOp, Op.intArith], .d _ _ (.int _ _), h⟩
 case quo => exact ⟨.int k (k.wrap (x.tdiv y)), _, by simp [binOp, Op.intDiv, h.1], .d _ _ (.int _ _), h.2⟩
 case rem => exact ⟨.int k (x.tmod y), _, by simp [binOp, Op.intDiv, h.1], .d _ _ (.int _ _), h.2⟩
 case shr => exact ⟨.int k (x.fdiv (2 ^ (min y.toNat k.bits))), _, by simp [binOp, Op.shift, Int.not_lt.2 h.1], .d _ _ (.int _ _), h.2⟩
 case shl => exact ⟨.int k (k.wrap (x * 2 ^ (min y.toNat k.bits))), _, by simp [binOp, Op.shift, Int.not_lt.2 h.1], .d _ _ (.int _ _), h.2⟩
 case eql => exact ⟨.bool (decide (x = y)), _, by simp [binOp, Op.intCmp]; rfl, .d _ _ (.bool _), h⟩
 case neq => exact ⟨.bool (!decide (x = y)), _, by simp [binOp, Op.intCmp, bne]; rfl, .d _ _ (.bool _), h⟩
 case lss => exact ⟨.bool (decide (x < y)), _, by simp [binOp, Op.intCmp], .d _ _ (.bool _), h⟩
 case leq => exact ⟨.bool (decide (x ≤ y)), _, by simp [binOp, Op.intCmp], .d _ _ (.bool _), h⟩
 case gtr => exact ⟨.bool (decide (y < x)), _, by simp [binOp, Op.intCmp], .d _ _ (.bool _), h⟩
 case geq => exact ⟨.bool (decide (y ≤ x)), _, by simp [binOp, Op.intCmp], .d _ _ (.bool _), h⟩
theorem Znk {op : BinOp} {x y : ByteArray} {K : AV → Prop} (h : ZqI op x y K) (t : TypeId) :
  ∃ v' x', (binOp op t (.string x) (.string y)).run P w = .ok v' w ∧ RepA w S H m l x' v' ∧ K x' := by
 cases op <;> simp only [ZqI] at h
 case add =>
  refine ⟨.string (x ++ y), _, ?_, .d _ _ (.str _), h.2⟩
  have e : ¬ (((x.size + y.size : Nat) : Int) > IntKind.i64.max) := by
   have : IntKind.i64.max = 9223372036854775807 := by decide
   rw [this]
   omega
  simp only [binOp, Op.stringOp]
  rw [if_neg e]
  rfl
 case eql => exact ⟨.bool (decide (x = y)), _, by simp only [binOp, Op.stringOp, Zit, Sem.run_pure], .d _ _ (.bool _), h⟩
 case neq => exact ⟨.bool (!decide (x = y)), _, by simp only [binOp, Op.stringOp, Zit, Sem.run_pure], .d _ _ (.bool _), h⟩
 case lss => exact ⟨.bool (sLt x y), _, by simp only [binOp, Op.stringOp, sLt, Sem.run_pure], .d _ _ (.bool _), h⟩
 case leq => exact ⟨.bool (sLt x y || decide (x = y)), _, by simp only [binOp, Op.stringOp, Zit, sLt, Sem.run_pure], .d _ _ (.bool _), h⟩
 case gtr => exact ⟨.bool (!(sLt x y || decide (x = y))), _, by simp only [binOp, Op.stringOp, Zit, sLt, Sem.run_pure], .d _ _ (.bool _), h⟩
 case geq => exact ⟨.bool (!sLt x y), _, by simp only [binOp, Op.stringOp, sLt, Sem.run_pure], .d _ _ (.bool _), h⟩
theorem Zfo {t : TypeId} {v u : Value} {b : Bool} (h : ∀ d : Nat, (Op.equalIn (d + 1) t v u).run P w = .ok b w) : (Op.equal t v u).run P w = .ok b w := h 9999
theorem ZyF {t e : TypeId} (hu : P.underlying t = some (.slice e)) (a : Option Addr) (k c : Nat) :
  (binOp .eql t (.slice a k c) (.slice none 0 0)).run P w = .ok (.bool a.isNone) w ∧ (binOp .neq t (.slice a k c) (.slice none 0 0)).run P w = .ok (.bool (!a.isNone)) w := by
 have h : (Op.equal t (.slice a k c) (.slice none 0 0)).run P w = .ok a.isNone w := Zfo fun d => by cases a <;> simp [Op.equalIn, run_underlying hu]
 constructor <;> (unfold binOp; simp [h])
theorem ZhS {neg : Bool} {t : TypeId} {x : AV} {v : Value} {K : AV → Prop} (h : Zke H neg x K) (hx : RepA w S H m l x v) (hk : kin P t = 4) :
  ∃ v' x', (binOp (if neg then .neq else .eql) t v (.slice none 0 0)).run P w = .ok v' w ∧ RepA w S H m l x' v' ∧ K x' := by
 obtain ⟨e, hu⟩ := ZeN hk
 have go : ∀ (a : Option Addr) (k c : Nat), (K (.d (.bool (if neg then !a.isNone else a.isNone)))) → v = .slice a k c →
   ∃ v' x', (binOp (if neg then .neq else .eql) t v (.slice none 0 0)).run P w = .ok v' w ∧ RepA w S H m l x' v' ∧ K x' := by
  intro a k c hK hv
  subst hv
  obtain ⟨h1, h2⟩ := ZyF (w := w) hu a k c
  cases neg
  ·exact ⟨_, _, h1, .d _ _ (.bool _), hK⟩
  ·exact ⟨_, _, h2, .d _ _ (.bool _), hK⟩
 unfold Zke at h
 split at h
 ·cases hx with
  | d _ _ hd =>
   cases hd with
   | nil => exact go none 0 0 (h _) rfl
   | list es a sz cap c hb hcap hsz hc hr => exact go (some a) 0 cap (h _) rfl
 ·cases hx with
  | e0 a => exact go a 0 0 (h _) rfl
 ·cases hx with
  | d _ _ hd =>
   cases hd with
   | list es a sz cap c hb hcap hsz hc hr => exact go (some a) _ cap (by cases neg <;> exact h) rfl
 ·rename_i k g off n
  obtain ⟨⟨hg, hl⟩, h1, h2⟩ := h
  cases hx with
  | refL k off n oa hk hl' hn ha =>
   by_cases hz : n = 0
   ·exact go oa _ _ (h2 hz _) rfl
   ·have := ha (by omega)
    subst this
    exact go _ _ _ (by cases neg <;> exact h1 hz) rfl
  | refD k g off n v hk hg' hd h1 => rw [hd hg] at hl; cases hl
 ·exact h.elim
theorem ZAR {x y : D} {v u : Value} {b : Bool} {t : TypeId} (h : eqD (kin P t) x y = some b) (hx : RepD w S x v) (hy : RepD w S y u) (d : Nat) :
  Zkg P t = some false ∧ (Op.equalIn (d + 1) t v u).run P w = .ok b w := by
 generalize hk : kin P t = k at h
 unfold eqD at h
 split at h
 ·split at h
  ·cases h
   cases hx; cases hy
   obtain ⟨k', hu⟩ : ∃ k', P.underlying t = some (.int k') := by unfold kin at hk; split at hk <;> simp_all
   rename_i k1 a k2 c e _ _
   subst e
   refine ⟨by simp [Zkg, hu, ZEV], ?_⟩
   rw [run_equalIn_int w d t _ k' _ _ hu]
   congr 1
  ·cases h
 ·cases h
  cases hx; cases hy
  refine ⟨by simp [Zkg, ZdY hk, ZEV], ?_⟩
  rw [run_equalIn_string w d t _ _ (ZdY hk), ← beq_toListBytes]
  congr 1
  rename_i a c
  rw [beq_toListBytes]
  by_cases e : a = c
  ·subst e; simp
  ·have : a.toList ≠ c.toList := fun h => e (by
    have h2 := beq_toListBytes a c
    rw [h, beq_self_eq_true] at h2
    rw [ByteArray.toList_eq, ByteArray.toList_eq] at h
    obtain ⟨⟨a⟩⟩ := a
    obtain ⟨⟨c⟩⟩ := c
    simp at h
    rw [h])
   simp [e, this]
 ·cases h
  cases hx; cases hy
  refine ⟨by simp [Zkg, ZiE hk, ZEV], ?_⟩
  rw [run_equalIn_bool' w d t _ _ (ZiE hk)]
  rename_i a c; cases a <;> cases c <;> rfl
 ·cases h
theorem Zfs (d : Nat) (vs us : Array Value) : ∀ (fs : List Field) (k : Nat) (ks : List Nat) (xs ys : List AV) (b : Bool), eqF P k fs = some ks → ZeP ks xs ys = some b →
  (∀ (i : Nat) (x : AV), xs[i]? = some x → ∃ v, vs[k + i]? = some v ∧ RepA w S H m l x v) → (∀ (i : Nat) (x : AV), ys[i]? = some x → ∃ v, us[k + i]? = some v ∧ RepA w S H m l x v) →
  (Op.eqFields (d + 1) vs us fs).run P w = .ok b w
 | [], k, ks, xs, ys, b, h1, h2, hx, hy => by
  simp only [eqF, Option.some.injEq] at h1
  subst h1
  cases xs <;> cases ys <;> simp only [ZeP] at h2 <;> cases h2
  simp [Op.eqFields]
 | f :: fs, k, ks, xs, ys, b, h1, h2, hx, hy => by
  simp only [eqF] at h1
  split at h1
  ·cases h1
  rename_i hf
  obtain ⟨ks', h1', rfl⟩ := Option.map_eq_some_iff.1 h1
  match xs, ys, h2, hx, hy with
  | .d x :: xs, .d y :: ys, h2, hx, hy =>
   simp only [ZeP] at h2
   split at h2
   ·rename_i a c ha hc
    cases h2
    obtain ⟨v, e1, hv⟩ := hx 0 _ rfl
    obtain ⟨u, e2, hu⟩ := hy 0 _ rfl
    have g1 : RepD w S x v := by cases hv with | d _ _ hd => exact hd
    have g2 : RepD w S y u := by cases hu with | d _ _ hd => exact hd
    obtain ⟨hag, hr⟩ := ZAR ha g1 g2 d
    have ho : f.offset = k := by
     rcases Nat.decEq f.offset k with h | h
     ·exact absurd (.inr h) hf
     ·exact h
    have ih := Zfs d vs us fs (k + 1) ks' xs ys c h1' hc (fun i x h => by
     obtain ⟨v, h3, h4⟩ := hx (i + 1) x (by simpa using h)
     exact ⟨v, by rw [show k + 1 + i = k + (i + 1) from by omega]; exact h3, h4⟩) (fun i x h => by
     obtain ⟨v, h3, h4⟩ := hy (i + 1) x (by simpa using h)
     exact ⟨v, by rw [show k + 1 + i = k + (i + 1) from by omega]; exact h3, h4⟩)
    have p1 : (part f.type vs f.offset).run P w = .ok v w := by
     unfold part
     rw [ho]
     simp only [Sem.run_bind, ZcB hag, Result.andThen_ok, Bool.false_eq_true, if_false]
     rw [show vs[k]? = some v from e1]
     rfl
    have p2 : (part f.type us f.offset).run P w = .ok u w := by
     unfold part
     rw [ho]
     simp only [Sem.run_bind, ZcB hag, Result.andThen_ok, Bool.false_eq_true, if_false]
     rw [show us[k]? = some u from e2]
     rfl
    unfold Op.eqFields
    rw [if_pos (fun e => hf (.inl e))]
    simp only [Sem.run_bind, p1, p2, Result.andThen_ok, hr]
    cases a
    ·simp
    ·simp [ih]
   ·cases h2
theorem Znv {op : BinOp} {t : TypeId} {xs ys : List AV} {v u : Value} {K : AV → Prop} (h : Zrg P op t xs ys K) (hx : RepA w S H m l (.agg xs) v) (hy : RepA w S H m l (.agg ys) u) :
  ∃ v' x', (binOp op t v u).run P w = .ok v' w ∧ RepA w S H m l x' v' ∧ K x' := by
 unfold Zrg at h
 split at h
 case h_2 => exact h.elim
 rename_i ks hks
 split at h
 case h_2 => exact h.elim
 rename_i b hb
 unfold eqT at hks
 split at hks
 case h_2 => cases hks
 rename_i fs hu
 split at hks
 case isFalse => cases hks
 rename_i hg
 simp only [Bool.and_eq_true, Bool.not_eq_true'] at hg
 cases hx with
 | agg _ vs hl h1 hr =>
  cases hy with
  | agg _ us hl' h1' hr' =>
   have hfs : P.fieldsOf t = fs := by simp [Program.fieldsOf, hu]
   have heq : (Op.equalIn 10000 t (.agg vs) (.agg us)).run P w = .ok b w := by
    rw [show (10000 : Nat) = 9998 + 1 + 1 from rfl, run_equalIn_struct w (9998 + 1) t vs us (by rw [hfs]; exact hu) hg.1, hfs]
    exact Zfs 9998 vs us fs.toList 0 ks xs ys b hks hb
     (fun i x h => by
      have hlt : i < vs.size := by
       rw [← hl]
       rcases Nat.lt_or_ge i xs.length with h' | h'
       ·exact h'
       ·rw [List.getElem?_eq_none h'] at h; cases h
      exact ⟨vs[i], by simp [hlt], hr i x _ h (Array.getElem?_eq_getElem hlt)⟩)
     (fun i x h => by
      have hlt : i < us.size := by
       rw [← hl']
       rcases Nat.lt_or_ge i ys.length with h' | h'
       ·exact h'
       ·rw [List.getElem?_eq_none h'] at h; cases h
      exact ⟨us[i], by simp [hlt], hr' i x _ h (Array.getElem?_eq_getElem hlt)⟩)
   split at h
   ·exact ⟨.bool b, _, by rw [run_eql_struct, heq]; rfl, .d _ _ (.bool _), h⟩
   ·exact ⟨.bool (!b), _, by rw [run_neq_struct, heq]; rfl, .d _ _ (.bool _), h⟩
   ·exact h.elim
theorem Zni {op : BinOp} {t : TypeId} {ny : Bool} {x y : AV} {v u : Value} {K : AV → Prop} (h : Zhn P H op t ny x y K) (hx : RepA w S H m l x v) (hy : RepA w S H m l y u)
  (hny : ny = true → u = .slice none 0 0) : ∃ v' x', (binOp op t v u).run P w = .ok v' w ∧ RepA w S H m l x' v' ∧ K x' := by
 unfold Zhn at h
 split at h
 ·cases hx with
  | d _ _ hd => cases hd; cases hy with
   | d _ _ hd => cases hd; obtain ⟨rfl, h⟩ := h; exact ZmO h t
 ·cases hx with
  | d _ _ hd => cases hd; cases hy with
   | d _ _ hd => cases hd; exact Znk h t
 ·cases hx with
  | d _ _ hd => cases hd; cases hy with
   | d _ _ hd =>
    cases hd
    obtain ⟨hk, h⟩ := h
    rename_i a b
    have hu := ZiE hk
    have he : (Op.equal t (.bool a) (.bool b)).run P w = .ok (a == b) w := Zfo fun d => by simp [Op.equalIn, run_underlying hu]
    split at h
    ·exact ⟨.bool (a == b), _, by unfold binOp; simp [he], .d _ _ (.bool _), h⟩
    ·exact ⟨.bool (!(a == b)), _, by unfold binOp; simp [he], .d _ _ (.bool _), h⟩
    ·exact h.elim
 ·exact Znv h hx hy
 ·obtain ⟨h1, hk, h⟩ := h
  have := hny h1
  subst this
  split at h
  ·exact ZhS (neg := false) h hx hk
  ·exact ZhS (neg := true) h hx hk
  ·exact h.elim
 ·exact h.elim
theorem ZpM {op : UnOp} {x : AV} {v : Value} {K : AV → Prop} (h : vUn op x K) (hx : RepA w S H m l x v) :
  ∃ v' x', (Op.unary op v).run P w = .ok v' w ∧ RepA w S H m l x' v' ∧ K x' := by
 unfold vUn at h
 split at h
 ·cases hx with
  | d _ _ hd => cases hd; exact ⟨_, _, rfl, .d _ _ (.bool _), h⟩
 ·cases hx with
  | d _ _ hd => cases hd; exact ⟨_, _, rfl, .d _ _ (.int _ _), h⟩
 ·exact h.elim
theorem ZkN {s d : TypeId} {x : AV} {v : Value} {K : AV → Prop} (h : Zfb P s d x K) (hx : RepA w S H m l x v) :
  ∃ v' x', (convert s d v).run P w = .ok v' w ∧ RepA w S H m l x' v' ∧ K x' := by
 unfold Zfb at h
 split at h
 ·rename_i hs hd
  cases hx with
  | d _ _ hd' =>
   cases hd'
   exact ⟨_, _, by simp [convert, run_underlying hs, run_underlying hd, Conv.intToInt], .d _ _ (.int _ _), h⟩
 ·rename_i hs hd
  cases hx with
  | d _ _ hd' =>
   cases hd'
   exact ⟨_, _, by simp [convert, run_underlying hs, run_underlying hd], .d _ _ (.str _), h⟩
 ·exact h.elim
theorem ZnP {t : TypeId} {x : AV} {v : Value} {K : AV → Prop} (h : Zkf P H t x K) (hx : RepA w S H m l x v) (ty : TypeId) :
  ∃ v' x', (Builtin.len_ #[t] ty #[v]).run P w = .ok v' w ∧ RepA w S H m l x' v' ∧ K x' := by
 unfold Zkf at h
 split at h
 ·obtain ⟨hk, h⟩ := h
  have hu := ZdY hk
  cases hx with
  | d _ _ hd => cases hd; exact ⟨_, _, by simp [Builtin.len_, run_underlying hu, goInt], .d _ _ (.int _ _), h⟩
 ·obtain ⟨hk, h⟩ := h
  obtain ⟨e, hu⟩ := ZeN hk
  cases hx with
  | d _ _ hd => cases hd with
   | nil => exact ⟨_, _, by simp [Builtin.len_, run_underlying hu, goInt], .d _ _ (.int _ _), h⟩
   | list es a sz cap c hb hcap hsz hc hr => exact ⟨_, _, by simp [Builtin.len_, run_underlying hu, goInt], .d _ _ (.int _ _), h⟩
 ·obtain ⟨hk, h⟩ := h
  obtain ⟨e, hu⟩ := ZeN hk
  cases hx with
  | e0 a => exact ⟨_, _, by simp [Builtin.len_, run_underlying hu, goInt], .d _ _ (.int _ _), h⟩
 ·obtain ⟨hk, hg, hl, h⟩ := h
  obtain ⟨e, hu⟩ := ZeN hk
  cases hx with
  | refL k off n oa hk' hl' hn ha => exact ⟨_, _, by simp [Builtin.len_, run_underlying hu, goInt], .d _ _ (.int _ _), h⟩
  | refD k g off n v hk' hg' hd h1 => rw [hd hg] at hl; cases hl
 ·exact h.elim
end
end Go.Eng
namespace Go.Eng
set_option linter.all false
open Go Go.RowKit
def ZI2 (P : Program) (t : TypeId) : Bool := match P.underlying t, P.info? t with | some (.struct fs), some _ => fs.toList.all (fun f => (P.info? f.type).isSome) | _, _ => false
def ZdL (P : Program) (t : TypeId) (parts : List (Nat × AV)) (K : AV → Prop) : Prop :=
 ZI2 P t = true ∧ match zer P t with
  | some z => match ZdV (fld P t) z parts with | some cs => K (.agg cs) | none => False
  | none => False
section
variable {P : Program} {l n : Nat} {H : Hp} {m : Mu} {S : Nat → Prop} {w : World} {s : Nat → AV} {a : Act}
theorem Zp1 {d : Nat} {o : Option AV} {b : Nat} (h : bnd d o = some b) {ov : Option Value} (ho : ∀ x, o = some x → ∃ v, ov = some v ∧ RepA w S H m l x v) (hn : o = none → ov = none) (y : Nat) (hy : b ≤ y) (hd : o = none → d = b) (code : BoundsCode) :
  (match ov with | some v => Instr.sliceBound v y code | none => (pure d : Sem Nat)).run P w = .ok b w := by
 cases o with
 | none =>
  rw [hn rfl]
  simp [hd rfl]
 | some x =>
  obtain ⟨v, rfl, hx⟩ := ho x rfl
  unfold bnd at h
  split at h
  ·rename_i heq; cases heq
  ·rename_i k j heq
   simp only [Option.some.injEq] at heq
   subst heq
   split at h
   ·rename_i h0
    simp only [Option.some.injEq] at h
    subst h
    cases hx with
    | d _ _ hd' =>
     cases hd'
     exact run_sliceBound (P := P) (w := w) k j y code h0 (by omega)
   ·cases h
  ·cases h
def OV (w : World) (S : Nat → Prop) (H : Hp) (m : Mu) (l : Nat) (o : Option AV) (ov : Option Value) : Prop := (∀ x, o = some x → ∃ v, ov = some v ∧ RepA w S H m l x v) ∧ (o = none → ov = none)
theorem Zeo {isSlice : Bool} {len cap : Nat} {lo hi : Option AV} {lv hv : Option Value} {b c : Nat} (h1 : bnd 0 lo = some b) (h2 : bnd len hi = some c) (hl : OV w S H m l lo lv) (hh : OV w S H m l hi hv)
  (hbc : b ≤ c) (hc : c ≤ len) (hcap : len ≤ cap) : (Instr.sliceBounds isSlice len cap lv hv none).run P w = .ok (b, c, cap) w := by
 unfold Instr.sliceBounds
 have e2 : (match hv, (none : Option Value) with
   | some v, some _ => Instr.sliceBound v cap .slice3B
   | some v, none => Instr.sliceBound v cap (if isSlice then .sliceAcap else .sliceAlen)
   | none, none => pure len
   | none, some _ => stuck "Slice: max without high").run P w = .ok c w := by
  have := Zp1 (P := P) (w := w) h2 hh.1 hh.2 cap (by omega) (fun e => by subst e; simpa [bnd] using h2) (if isSlice then .sliceAcap else .sliceAlen)
  cases hv <;> simpa using this
 have e3 : (match lv with
   | some v => Instr.sliceBound v c (if (none : Option Value).isSome then .slice3C else .sliceB)
   | none => pure 0).run P w = .ok b w := Zp1 (P := P) (w := w) h1 hl.1 hl.2 c hbc (fun e => by subst e; simpa [bnd] using h1) _
 cases hv <;> cases lv <;> simp only at e2 e3 <;> simp [e2, e3] <;> simp_all
theorem ZjY {t : TypeId} {x : AV} {lo hi : Option AV} {mx : Bool} {v : Value} {lv hv mv : Option Value} {K : AV → Prop} (h : Zc9 P H t x lo hi mx K) (hx : RepA w S H m l x v)
  (hl : OV w S H m l lo lv) (hh : OV w S H m l hi hv) (hm : mx = false → mv = none) :
  ∃ v' x', (Instr.sliceAt t v lv hv mv).run P w = .ok v' w ∧ RepA w S H m l x' v' ∧ K x' := by
 unfold Zc9 at h
 split at h
 ·rename_i s
  obtain ⟨hk, hmx, h⟩ := h
  obtain rfl := hm hmx
  have hu := ZdY hk
  split at h
  ·rename_i b c e1 e2
   obtain ⟨hbc, hc, hK⟩ := h
   cases hx with
   | d _ _ hd =>
    cases hd
    refine ⟨.string (s.extract b c), _, ?_, .d _ _ (.str _), hK⟩
    have hb := Zeo (P := P) (isSlice := false) (len := s.size) (cap := s.size) (w := w) e1 e2 hl hh hbc hc (Nat.le_refl _)
    simp [Instr.sliceAt, Instr.slice, run_underlying hu, hb]
  ·exact h.elim
 ·rename_i es
  obtain ⟨hmx, h⟩ := h
  obtain rfl := hm hmx
  split at h
  ·rename_i e sz b c he e1 e2
   obtain ⟨hu, hsz⟩ := Zb6 he
   obtain ⟨hz, hall, hbc, hc, hK⟩ := h
   cases hx with
   | d _ _ hd =>
    cases hd with
    | nil =>
     have hb := Zeo (P := P) (isSlice := true) (len := 0) (cap := 0) (w := w) e1 e2 hl hh hbc (by simpa using hc) (Nat.le_refl _)
     simp only [List.length_nil, Nat.le_zero] at hc
     subst hc
     obtain rfl : b = 0 := by omega
     refine ⟨.slice none 0 0, _, ?_, .d _ _ .nil, by simpa using hK⟩
     simp [Instr.sliceAt, Instr.slice, run_underlying hu, hb, ZbP (P := P) (t := e) (hsz ▸ hz)]
    | list es ad sz' cap cc hb hcap hsz' hcc hrr =>
     have hbr := Zeo (P := P) (isSlice := true) (len := es.length) (cap := cap) (w := w) e1 e2 hl hh hbc hc hcap
     refine ⟨.slice (some (if cap = b then ad else ad.add (b * sz))) (c - b) (cap - b), _, ?_, ?_, hK⟩
     ·simp only [Instr.sliceAt, Instr.slice, run_underlying hu, Sem.run_bind, Result.andThen_ok, hbr, ZbP (P := P) (t := e) (hsz ▸ hz), hsz]
      by_cases hcb : cap = b <;> simp [hcb]
     ·have hlen : ((es.drop b).take (c - b)).length = c - b := by simp; omega
      by_cases hbc' : b = c
      ·subst hbc'
       simp only [Nat.sub_self, List.take_zero]
       exact .d _ _ (.list [] _ 0 _ (fun _ _ => .bool true) (fun h => absurd rfl h) (Nat.zero_le _) (fun _ h => by cases h) (fun i j e x h => by simp at h) (fun i j e x h => by simp at h))
      ·have hne : cap ≠ b := by omega
       rw [if_neg hne]
       have key : ∀ (i : Nat) (q : List D), ((es.drop b).take (c - b))[i]? = some q → es[b + i]? = some q := by
        intro i q hq
        rw [List.getElem?_take] at hq
        split at hq
        ·rwa [List.getElem?_drop] at hq
        ·cases hq
       have := RepD.list (w := w) (S := S) ((es.drop b).take (c - b)) (ad.add (b * sz)) sz (cap - b) (fun i j => cc (b + i) j)
        (fun _ => by rw [block_add]; exact hb (by rintro rfl; simp at hc; omega)) (by rw [hlen]; omega) (fun q hq => hall q (List.mem_of_mem_drop (List.mem_of_mem_take hq)))
        (fun i j q x hi hj => by
         rw [add_add]
         have h1 := hcc (b + i) j q x (key i q hi) hj
         have h2 : sz' = sz := by rw [← hsz' q (List.mem_of_getElem? (key i q hi)), hall q (List.mem_of_getElem? (key i q hi))]
         rw [h2, Nat.add_mul, Nat.add_assoc] at h1
         exact h1)
        (fun i j q x hi hj => hrr (b + i) j q x (key i q hi) hj)
       rw [hlen] at this
       exact .d _ _ this
  ·exact h.elim
 ·rename_i k g off len
  obtain ⟨hmx, hg, hlv, h⟩ := h
  obtain rfl := hm hmx
  split at h
  ·rename_i e sz b c he e1 e2
   obtain ⟨hu, hsz⟩ := Zb6 he
   obtain ⟨hz, hs, hbc, hc, hK⟩ := h
   cases hx with
   | refL k off n oa hk hl' hn ha =>
    have hbr := Zeo (P := P) (isSlice := true) (len := len) (cap := (m k).cap - off) (w := w) e1 e2 hl hh hbc hc (by omega)
    refine ⟨.slice (if (m k).cap - off = b then oa else oa.map (·.add (b * sz))) (c - b) ((m k).cap - (off + b)), _, ?_, .refL k (off + b) (c - b) _ hk hl' (by omega) (fun ho => ?_), hK⟩
    ·simp only [Instr.sliceAt, Instr.slice, run_underlying hu, Sem.run_bind, Result.andThen_ok, hbr, ZbP (P := P) (t := e) (hsz ▸ hz), hsz]
     rw [show (m k).cap - (off + b) = (m k).cap - off - b from by omega]
     rfl
    ·rw [if_neg (by omega), ha (by omega), hs]
     simp [Addr.add_lit, Nat.add_mul, Nat.add_assoc]
   | refD k g off n v hk hg' hd h1 => rw [hd hg] at hlv; cases hlv
  ·exact h.elim
 ·exact h.elim
def ZaU (w : World) (S : Nat → Prop) (H : Hp) (m : Mu) (l : Nat) (xs : List AV) (C : Array Value) : Prop :=
 xs.length = C.size ∧ ∀ (i : Nat) (x : AV) (v : Value), xs[i]? = some x → C[i]? = some v → v.oneCell' = true ∧ RepA w S H m l x v
theorem Zg5 {x : AV} {v : Value} {xs : List AV} (hx : RepA w S H m l x v) (h : Zbs x = some xs) : ZaU w S H m l xs v.cells := by
 have one : ∀ {x : AV} {v : Value}, RepA w S H m l x v → v.oneCell' = true → ZaU w S H m l [x] v.cells := by
  intro x v hx h1
  have e : v.cells = #[v] := by cases v <;> first | rfl | cases h1
  rw [e]
  refine ⟨rfl, fun i y u hi hu => ?_⟩
  cases i with
  | zero => simp at hi hu; subst hi; subst hu; exact ⟨h1, hx⟩
  | succ i => simp at hi
 cases hx <;> simp only [Zbs, Option.some.injEq] at h <;> try cases h
 case d x hd => exact one (.d _ _ hd) hd.one
 case e0 a => exact one (.e0 a) rfl
 case p h1 => exact one (.p _ h1) h1
 case refL k off n oa hk hl hn ha => exact one (.refL k off n oa hk hl hn ha) rfl
 case refD k g off n hk hg hd h1 => exact one (.refD k g off n _ hk hg hd h1) h1
 case ptrL k off hk hl => exact one (.ptrL k off hk hl) rfl
 case ptrD k g off hk hg hd h1 => exact one (.ptrD k g off _ hk hg hd h1) h1
 case mpL k hk hl => exact one (.mpL k hk hl) rfl
 case mpD k g hk hg hd h1 => exact one (.mpD k g _ hk hg hd h1) h1
 case iptr cs off a c hb hc hr => exact one (.iptr cs off a c hb hc hr) rfl
 case fn f xs ys vs us hx hy h1 h2 => exact one (.fn f xs ys vs us hx hy h1 h2) rfl
 case agg vs h1 hl hc => exact ⟨hl, fun i x v hi hv => ⟨h1 i v hv, hc i x v hi hv⟩⟩
theorem ZjL (off : Nat) : ∀ (vs : List Value) (j : Nat) (C : Array Value), off + j + vs.length ≤ C.size →
  ((vs.zipIdx j).foldl (fun cs (c : Value × Nat) => cs.setIfInBounds (off + c.2) c.1) C).toList = C.toList.take (off + j) ++ vs ++ C.toList.drop (off + j + vs.length)
 | [], j, C, _ => by simp
 | v :: vs, j, C, h => by
  simp only [List.length_cons] at h
  simp only [List.zipIdx_cons, List.foldl_cons]
  rw [ZjL off vs (j + 1) _ (by simp; omega)]
  have hlt : off + j < C.toList.length := by simp; omega
  simp only [Array.toList_setIfInBounds]
  rw [show off + (j + 1) = off + j + 1 from by omega]
  rw [List.take_succ_eq_append_getElem (by simpa using hlt)]
  simp only [List.getElem_set_self, List.take_set_of_le (Nat.le_refl _)]
  rw [List.drop_set_of_lt (by omega)]
  simp only [List.append_assoc, List.cons_append, List.nil_append, List.length_cons]
  rw [show off + j + 1 + vs.length = off + j + (vs.length + 1) from by omega]
theorem ZaU.splice {zs xs : List AV} {Z C : Array Value} (hz : ZaU w S H m l zs Z) (hx : ZaU w S H m l xs C) (off : Nat) (ho : off + xs.length ≤ zs.length) :
  ZaU w S H m l (zs.take off ++ xs ++ zs.drop (off + xs.length)) (Z.toList.take off ++ C.toList ++ Z.toList.drop (off + C.toList.length)).toArray := by
 have e1 := hz.1
 have e2 := hx.1
 have e3 : C.toList.length = xs.length := by simp [e2]
 refine ⟨by simp; omega, fun i x v hi hv => ?_⟩
 rw [e3] at hv
 have hv : (Z.toList.take off ++ C.toList ++ Z.toList.drop (off + xs.length))[i]? = some v := by simpa using hv
 rcases Nat.lt_or_ge i off with h | h
 ·rw [List.append_assoc, List.getElem?_append_left (by simp; omega), List.getElem?_take, if_pos h] at hi
  rw [List.append_assoc, List.getElem?_append_left (by simp; omega), List.getElem?_take, if_pos h, Array.getElem?_toList] at hv
  exact hz.2 i x v hi hv
 ·rcases Nat.lt_or_ge i (off + xs.length) with h' | h'
  ·rw [List.getElem?_append_left (by simp; omega), List.getElem?_append_right (by simp; omega)] at hi
   rw [List.getElem?_append_left (by simp; omega), List.getElem?_append_right (by simp; omega), Array.getElem?_toList] at hv
   simp only [List.length_take] at hi hv
   rw [Nat.min_eq_left (by omega)] at hi
   rw [Nat.min_eq_left (by simp; omega)] at hv
   exact hx.2 _ x v hi hv
  ·rw [List.getElem?_append_right (by simp; omega), List.getElem?_drop] at hi
   rw [List.getElem?_append_right (by simp; omega), List.getElem?_drop, Array.getElem?_toList] at hv
   simp only [List.length_append, List.length_take] at hi hv
   rw [Nat.min_eq_left (by omega)] at hi
   rw [Nat.min_eq_left (by simp; omega), e3] at hv
   exact hz.2 _ x v hi hv
theorem Zel {place : Nat → Option (Nat × Nat)} : ∀ (ps : List (Nat × AV)) (vs : List (Nat × Value)) (zs : List AV) (Z : Array Value) (cs : List AV), ZaU w S H m l zs Z →
  ps.length = vs.length → (∀ (i : Nat) (p : Nat × AV) (q : Nat × Value), ps[i]? = some p → vs[i]? = some q → p.1 = q.1 ∧ RepA w S H m l p.2 q.2) →
  ZdV place zs ps = some cs → ∃ C, Instr.fill place Z vs = some C ∧ ZaU w S H m l cs C
 | [], [], zs, Z, cs, hz, _, _, h => by
  simp only [ZdV, Option.some.injEq] at h
  subst h
  exact ⟨Z, rfl, hz⟩
 | [], _ :: _, _, _, _, _, hl, _, _ => by simp at hl
 | _ :: _, [], _, _, _, _, hl, _, _ => by simp at hl
 | (i, x) :: ps, (j, v) :: vs, zs, Z, cs, hz, hl, hp, h => by
  obtain ⟨e, hx⟩ := hp 0 (i, x) (j, v) rfl rfl
  simp only at e hx
  subst e
  simp only [ZdV] at h
  split at h
  ·rename_i off size xs hpl hcx
   split at h
   ·cases h
   ·rename_i hc
    have hcr := Zg5 hx hcx
    have e1 := hcr.1
    have e2 := hz.1
    have hc1 : xs.length = size := by
     rcases Nat.lt_trichotomy xs.length size with h | h | h
     ·exact absurd (Or.inl (by omega)) hc
     ·exact h
     ·exact absurd (Or.inl (by omega)) hc
    have hc2 : off + xs.length ≤ zs.length := by
     rcases Nat.lt_or_ge zs.length (off + xs.length) with h | h
     ·exact absurd (Or.inr h) hc
     ·exact h
    have hs := hz.splice hcr off hc2
    obtain ⟨C, hC, hr⟩ := Zel ps vs _ _ cs hs (by simpa using hl) (fun i p q h1 h2 => hp (i + 1) p q (by simpa using h1) (by simpa using h2)) h
    refine ⟨C, ?_, hr⟩
    simp only [Instr.fill, hpl]
    have hn : ¬ ((decide (v.cells.size ≠ size) || decide (off + v.cells.size > Z.size)) = true) := by
     simp only [Bool.or_eq_true, decide_eq_true_eq]
     rintro (h | h)
     ·exact h (by omega)
     ·omega
    rw [if_neg hn]
    rw [← hC]
    congr 1
    apply Array.ext'
    have := ZjL off v.cells.toList 0 Z (by simp; omega)
    simp only [Nat.add_zero] at this
    rw [← Array.foldl_toList, Array.toList_zipIdx]
    exact this
  ·cases h
end
end Go.Eng
namespace Go.Eng
set_option linter.all false
open Go Go.RowKit
def ZgY (s : ByteArray) : List D → Bool
 | .str t :: _ => decide (t = s)
 | _ => false
def ZfA (s : ByteArray) : List (List D) → Option (List D)
 | [] => none
 | e :: es => match ZgY s e with | true => some e.tail | false => ZfA s es
def ZiQ (s : ByteArray) (vs : List D) : List (List D) → List (List D)
 | [] => [.str s :: vs]
 | e :: es => match ZgY s e with | true => (.str s :: vs) :: es | false => e :: ZiQ s vs es
def ZiR (s : ByteArray) : List (List D) → List (List D)
 | [] => []
 | e :: es => match ZgY s e with | true => es | false => e :: ZiR s es
def zds : List AV → Option (List D)
 | [] => some []
 | .d x :: r => (zds r).map (x :: ·)
 | .e0 :: r => (zds r).map (.list [] :: ·)
 | _ => none
def zD (P : Program) (e : TypeId) : Option (Bool × List D) :=
 match P.underlying e, (P.info? e).bind (·.zero) with
 | some (.map _ e'), some (.map none) => (Zkg P e').map fun q => (false, [.map q []])
 | _, some (.agg _) => ((zer P e).bind zds).map (true, ·)
 | _, some _ => ((zer P e).bind zds).map (false, ·)
 | _, none => none
def ZuY (P : Program) (t : TypeId) : Option (Bool × List D) :=
 match P.underlying t with
 | some (.map k e) => match kin P k, Zkg P e, zD P e with
  | 2, some b, some (q, z) => if b = q then some (b, z) else none
  | _, _, _ => none
 | _ => none
def meA (a : Bool) (ds : List D) : AV := match a, ds with
 | true, ds => .agg (ds.map .d)
 | false, [d] => .d d
 | _, _ => .top
def lkV (ck a : Bool) (ds : List D) (ok : Bool) : AV := match ck with
 | true => .tup [meA a ds, .d (.bool ok)]
 | false => meA a ds
def ZmY (H : Hp) : AV → Option (Bool × List (List D))
 | .d (.map q es) => some (q, es)
 | .mp k g => if g = (H k).g ∧ (H k).live = true then (match (H k).e with | .m q es => some (q, es) | _ => none) else none
 | _ => none
def ZfY (P : Program) (H : Hp) (t : TypeId) (x y : AV) (ck : Bool) (K : AV → Prop) : Prop :=
 match ZuY P t, ZmY H x, y with
 | some (q, z), some (q', es), .d (.str s) => q = q' ∧ K (lkV ck q ((ZfA s es).getD z) (ZfA s es).isSome)
 | _, _, _ => False
section
variable {P : Program} {l n : Nat} {H : Hp} {m : Mu} {S : Nat → Prop} {w : World} {s : Nat → AV} {a : Act}
theorem ZkD (a b : ByteArray) : (a == b) = decide (a = b) := by
 by_cases h : a = b
 ·rw [decide_eq_true h]; exact (MapKept.bytes_beq a b).2 h
 ·rw [decide_eq_false h]
  cases hb : a == b with
  | false => rfl
  | true => exact absurd ((MapKept.bytes_beq a b).1 hb) h
theorem ZlL {q : Bool} {s : ByteArray} : ∀ (es : List (List D)) (xs : List MapEntry) (k : Nat), es.length = xs.length → (∀ (i : Nat) (e : List D) (x : MapEntry), es[i]? = some e → xs[i]? = some x → ZJu w S q e x) →
  (ZfA s es = none ∧ Instr.findNow .string (.string s) xs k = some none ∧ (∀ vs, ZiQ s vs es = es ++ [.str s :: vs]) ∧ ZiR s es = es) ∨
  ∃ j x ds, Instr.findNow .string (.string s) xs k = some (some (k + j, x.val)) ∧ xs[j]? = some x ∧ x.key = .string s ∧ es[j]? = some (.str s :: ds) ∧ ZfA s es = some ds ∧ (∀ vs, ZiQ s vs es = es.set j (.str s :: vs)) ∧ ZiR s es = es.eraseIdx j ∧ VR w S q ds x.val
 | [], [], k, _, _ => .inl ⟨rfl, rfl, fun _ => rfl, rfl⟩
 | e :: es, x :: xs, k, hl, h => by
  obtain ⟨t, ds, rfl, h2, h3⟩ := h 0 _ x rfl rfl
  by_cases ht : t = s
  ·subst ht
   refine .inr ⟨0, x, ds, ?_, rfl, h2, rfl, ?_, fun vs => ?_, ?_, h3⟩
   ·simp [Instr.findNow, h2, Instr.sameNow, ZkD]
   ·simp [ZfA, ZgY]
   ·simp [ZiQ, ZgY]
   ·simp [ZiR, ZgY]
  ·have hk : ZgY s (.str t :: ds) = false := by simp [ZgY, ht]
   have hs : Instr.sameNow .string (.string s) x.key = some false := by
    rw [h2]; simp only [Instr.sameNow, ZkD]; rw [decide_eq_false (fun e => ht e.symm)]
   rcases ZlL (s := s) es xs (k + 1) (Nat.succ.inj hl) (fun i e y hi hy => h (i + 1) e y (by simpa using hi) (by simpa using hy)) with ⟨a1, a2, a3, a4⟩ | ⟨j, y, ds', a1, a2, a3, a4, a5, a6, a7, a8⟩
   ·exact .inl ⟨by simp only [ZfA, hk]; exact a1, by simp only [Instr.findNow, hs]; exact a2, fun vs => by simp only [ZiQ, hk, a3]; rfl, by simp only [ZiR, hk, a4]⟩
   ·refine .inr ⟨j + 1, y, ds', ?_, by simpa using a2, a3, by simpa using a4, by simp only [ZfA, hk]; exact a5, fun vs => by simp only [ZiQ, hk, a6, List.set_cons_succ], by simp only [ZiR, hk, a7, List.eraseIdx_cons_succ], a8⟩
    simp only [Instr.findNow, hs, a1]
    rw [show k + 1 + j = k + (j + 1) from by omega]
 | [], _ :: _, _, h, _ => by cases h
 | _ :: _, [], _, h, _ => by cases h
theorem Zg9 {t : TypeId} {q : Bool} {z : List D} (h : ZuY P t = some (q, z)) : ∃ k e, P.underlying t = some (.map k e) ∧ P.underlying k = some .string ∧ Zkg P e = some q ∧ zD P e = some (q, z) := by
 unfold ZuY at h
 split at h
 ·rename_i k e hu
  split at h
  ·rename_i b q' z' h1 h2 h3
   split at h
   ·rename_i hb
    simp only [Option.some.injEq, Prod.mk.injEq] at h
    obtain ⟨rfl, rfl⟩ := h
    subst hb
    exact ⟨k, e, hu, ZdY h1, h2, h3⟩
   ·cases h
  ·cases h
 ·cases h
theorem ZpZ : ∀ (xs : List AV) (ds : List D) (vs : List Value), zds xs = some ds → xs.length = vs.length → (∀ (i : Nat) (x : AV) (v : Value), xs[i]? = some x → vs[i]? = some v → RepA w S H m l x v) → ds.length = vs.length ∧ ∀ (i : Nat) (d : D) (v : Value), ds[i]? = some d → vs[i]? = some v → RepD w S d v
 | [], ds, [], h, _, _ => by simp only [zds, Option.some.injEq] at h; subst h; exact ⟨rfl, fun i d v hi => by simp at hi⟩
 | x :: xs, ds, v :: vs, h, hl, hr => by
  have h0 := hr 0 x v rfl rfl
  have key : ∃ d ds', ds = d :: ds' ∧ zds xs = some ds' ∧ RepD w S d v := by
   cases x <;> simp only [zds] at h <;> try (cases h; done)
   case d x =>
    obtain ⟨ds', e1, e2⟩ := Option.map_eq_some_iff.1 h
    cases h0 with
    | d _ _ hd => exact ⟨x, ds', e2.symm, e1, hd⟩
   case e0 =>
    obtain ⟨ds', e1, e2⟩ := Option.map_eq_some_iff.1 h
    cases h0.e0_d with
    | d _ _ hd => exact ⟨_, ds', e2.symm, e1, hd⟩
  obtain ⟨d, ds', rfl, e1, e2⟩ := key
  obtain ⟨a1, a2⟩ := ZpZ xs ds' vs e1 (Nat.succ.inj hl) (fun i x v hx hv => hr (i + 1) x v (by simpa using hx) (by simpa using hv))
  refine ⟨by simp [a1], fun i d' u hi hu => ?_⟩
  cases i with
  | zero => cases hi; cases hu; exact e2
  | succ i => exact a2 i d' u (by simpa using hi) (by simpa using hu)
 | [], _, _ :: _, _, h, _ => by cases h
 | _ :: _, _, [], _, h, _ => by cases h
theorem ZIz {e : TypeId} {q : Bool} {z : List D} (h : zD P e = some (q, z)) : ∃ zv, (zeroValue e).run P w = .ok zv w ∧ VR w S q z zv := by
 have run : ∀ {i : TypeInfo} {zv : Value}, P.info? e = some i → i.zero = some zv → (zeroValue e).run P w = .ok zv w := fun hi hz => by simp [zeroValue, typeInfo, hi, hz]
 have cell : ∀ {i : TypeInfo} {zv : Value} {ds : List D}, P.info? e = some i → i.zero = some zv → (zer P e).bind zds = some ds → ds.length = zv.cells.size ∧ ∀ (j : Nat) (d : D) (v : Value), ds[j]? = some d → zv.cells[j]? = some v → RepD w S d v := fun {i zv ds} hi hz hb => by
  obtain ⟨xs, h1, h2⟩ := Option.bind_eq_some_iff.1 hb
  unfold zer at h1
  rw [hi] at h1
  simp only [Option.bind_some, hz] at h1
  split at h1
  ·rename_i hc
   simp only [Option.some.injEq] at h1
   subst h1
   obtain ⟨a1, a2⟩ := ZpZ (w := w) (S := S) (H := fun _ => ⟨0, false, 0, 0, []⟩) (m := fun _ => ⟨0, 0, 0⟩) (l := 0) _ ds zv.cells.toList h2 (by simp) (fun j x v hx hv => by
    rw [List.getElem?_map] at hx
    rw [hv] at hx
    cases hx
    exact Zpi v)
   exact ⟨by simpa using a1, fun j d v hd hv => a2 j d v hd (by simpa using hv)⟩
  ·cases h1
 unfold zD at h
 cases hi : P.info? e with
 | none => rw [hi] at h; simp at h
 | some i =>
  cases hz : i.zero with
  | none => rw [hi] at h; simp [hz] at h
  | some zv =>
   rw [hi] at h
   simp only [Option.bind_some, hz] at h
   refine ⟨zv, run hi hz, ?_⟩
   split at h
   ·rename_i k e' hu he
    simp only [Option.some.injEq] at he
    subst he
    obtain ⟨b, _, h2⟩ := Option.map_eq_some_iff.1 h
    cases h2
    exact .inr ⟨rfl, _, rfl, .mnil _⟩
   ·rename_i cs he
    simp only [Option.some.injEq] at he
    subst he
    obtain ⟨ds, h1, h2⟩ := Option.map_eq_some_iff.1 h
    cases h2
    obtain ⟨a1, a2⟩ := cell hi hz h1
    exact .inl ⟨rfl, cs, rfl, a1.symm, a2⟩
   ·rename_i x hne2 he hne1
    simp only [Option.some.injEq] at he
    subst he
    obtain ⟨ds, h1, h2⟩ := Option.map_eq_some_iff.1 h
    simp only [Prod.mk.injEq] at h2
    obtain ⟨rfl, rfl⟩ := h2
    obtain ⟨a1, a2⟩ := cell hi hz h1
    have hc : zv.cells = #[zv] := by
     cases zv <;> first | rfl | exact absurd rfl (hne2 _)
    rw [hc] at a1 a2
    match ds, a1, a2 with
    | [d], _, a2 => exact .inr ⟨rfl, d, rfl, a2 0 d zv rfl rfl⟩
   ·rename_i he; cases he
theorem Zh5 {q : Bool} {ds : List D} {v : Value} (h : VR w S q ds v) : RepA w S H m l (meA q ds) v := by
 rcases h with ⟨rfl, cs, rfl, h1, h2⟩ | ⟨rfl, d, rfl, h⟩
 ·refine .agg _ _ (by simp [h1]) (fun i u hu => ?_) (fun i x u hx hu => ?_)
  ·have hlt : i < ds.length := by rw [← h1]; exact (Array.getElem?_eq_some_iff.1 hu).1
   exact (h2 i _ u (List.getElem?_eq_getElem hlt) hu).one
  ·rw [List.getElem?_map] at hx
   obtain ⟨d, e1, rfl⟩ := Option.map_eq_some_iff.1 hx
   exact .d _ _ (h2 i d u e1 hu)
 ·exact .d _ _ h
def ZK1 (w : World) (S : Nat → Prop) (q : Bool) (es : List (List D)) (v : Value) : Prop :=
 (v = .map none ∧ es = []) ∨ ∃ r ents clock, v = .map (some r) ∧ w.heap[r]? = some (.map ents clock) ∧ MEnt w S q es ents clock
theorem Zry {x : AV} {v : Value} {q : Bool} {es : List (List D)} (h : ZmY H x = some (q, es)) (hx : RepA w S H m l x v) (hl : ∀ k g, x = .mp k g → k.1 ≤ l) (hO : MOk l H m S w) : ZK1 w S q es v := by
 unfold ZmY at h
 split at h
 ·simp only [Option.some.injEq, Prod.mk.injEq] at h
  obtain ⟨rfl, rfl⟩ := h
  cases hx with
  | d _ _ hd =>
   cases v with
   | map r =>
    cases r with
    | none => cases hd; exact .inl ⟨rfl, rfl⟩
    | some r => obtain ⟨_, ents, clock, h1, h2⟩ := hd.toM; exact .inr ⟨r, ents, clock, rfl, h1, h2⟩
   | _ => cases hd
 ·rename_i k g
  split at h
  ·rename_i hg
   cases hx with
   | mpD _ _ _ hk hg' hd h1 => rw [hd hg.1] at hg; cases hg.2
   | mpL _ hk hlv =>
    split at h
    ·rename_i q' es' he
     simp only [Option.some.injEq, Prod.mk.injEq] at h
     obtain ⟨rfl, rfl⟩ := h
     have ho := hO.o k (hl k _ rfl) hlv
     rw [he] at ho
     obtain ⟨ents, clock, h1, h2⟩ := ho
     exact .inr ⟨_, ents, clock, rfl, h1, h2⟩
    ·cases h
  ·cases h
 ·cases h
theorem Zkp {t : TypeId} {x y : AV} {v u : Value} {ck : Bool} {K : AV → Prop} (h : ZfY P H t x y ck K) (hx : RepA w S H m l x v) (hy : RepA w S H m l y u) (hO : MOk l H m S w) :
  ∃ v' x', (Instr.lookup t v u ck).run P w = .ok v' w ∧ RepA w S H m l x' v' ∧ K x' := by
 unfold ZfY at h
 split at h
 ·rename_i q z q' es s hT hM
  obtain ⟨rfl, hK⟩ := h
  obtain ⟨kt, et, hu, hk, ha, hz⟩ := Zg9 hT
  obtain ⟨zv, z1, z2⟩ := ZIz (w := w) (S := S) hz
  have hlv : ∀ k g, x = .mp k g → k.1 ≤ l := fun k g e => by subst e; cases hx <;> assumption
  have hm := Zry hM hx hlv hO
  cases hy with
  | d _ _ hd =>
   cases hd
   have fin : ∀ (vv : Value) (ds : List D) (ok : Bool), VR w S q ds vv → RepA w S H m l (lkV ck q ds ok) (if ck = true then .tuple #[vv, .bool ok] else vv) := fun vv ds ok hv => by
    cases ck
    ·exact Zh5 hv
    ·refine .tup _ _ rfl (fun i x u hx hu => ?_)
     match i with
     | 0 => cases hx; cases hu; exact Zh5 hv
     | 1 => cases hx; cases hu; exact .d _ _ (.bool _)
     | i + 2 => simp at hx
   rcases hm with ⟨rfl, rfl⟩ | ⟨r, ents, clock, rfl, h1, h2⟩
   ·refine ⟨_, _, ?_, fin zv z false z2, hK⟩
    simp [Instr.lookup, run_underlying hu, MapKept.run_checkKey hk (show MapKept.IsKey .string (.string s) from trivial), MapKept.run_findKey hk (show Instr.findNow .string (.string s) [] 0 = some none from rfl), z1]
   ·rcases ZlL (w := w) (S := S) (q := q) (s := s) es ents.toList 0 (by simp [h2.n]) (fun i e x hi hx => h2.e i e x hi (by simpa using hx)) with ⟨a1, a2, _, _⟩ | ⟨j, x', ds, a1, a2, a3, a4, a5, a6, a7, a8⟩
    ·rw [a1] at hK
     refine ⟨_, _, ?_, fin zv z false z2, hK⟩
     simp [Instr.lookup, run_underlying hu, MapKept.run_getObj_map h1, MapKept.run_checkKey hk (show MapKept.IsKey .string (.string s) from trivial), MapKept.run_findKey hk a2, z1]
    ·rw [a5] at hK
     refine ⟨_, _, ?_, fin x'.val ds true a8, hK⟩
     simp [Instr.lookup, run_underlying hu, MapKept.run_getObj_map h1, MapKept.run_checkKey hk (show MapKept.IsKey .string (.string s) from trivial), MapKept.run_findKey hk a1]
 ·exact h.elim
theorem Zkc {t : TypeId} {x y : AV} {ck : Bool} {K K' : AV → Prop} (hk : ∀ v, K v → K' v) (h : ZfY P H t x y ck K) : ZfY P H t x y ck K' := by
 unfold ZfY at h ⊢
 split at h
 ·exact ⟨h.1, hk _ h.2⟩
 ·exact h.elim
theorem ZqQ {t : TypeId} {x y : AV} {ck : Bool} {K : AV → Prop} (h : ZfY P H t x y ck K) : ∃ v, ZfY P H t x y ck (fun y => y = v) ∧ K v := by
 unfold ZfY at h ⊢
 split at h
 ·exact ⟨_, ⟨h.1, rfl⟩, h.2⟩
 ·exact h.elim
end
end Go.Eng
