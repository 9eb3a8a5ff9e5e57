import Derived.Test.YtchkcemlglpobaaGreatCl00
import Derived.MapKept
namespace Go.Eng
set_option linter.all false
open Go Go.RowKit
section
variable {P : Program} {l n : Nat} {H : Hp} {m : Mu} {S : Nat → Prop} {w : World} {s : Nat → AV} {a : Act}
theorem Zfe {t : TypeId} {i : Nat} {x : AV} {v : Value} {K : AV → Prop} (h : ZaR P H t i x K) (hx : RepA w S H m l x v) :
  ∃ v' x', (Instr.fieldAt t v i).run P w = .ok v' w ∧ RepA w S H m l x' v' ∧ K x' := by
 unfold ZaR fld at h
 have run : ∀ (ad : Addr) (o c : Nat), (match P.underlying t with | some (.struct fs) => (fs[i]?).map fun f => (f.offset, P.cellsOf f.type) | _ => none) = some (o, c) → c ≠ 0 →
   (Instr.fieldAt t (.pointer (some ad)) i).run P w = .ok (.pointer (some (ad.add o))) w := by
  intro ad o c he hc
  cases hu : P.underlying t with
  | none => rw [hu] at he; cases he
  | some d =>
   rw [hu] at he
   cases d <;> simp only at he <;> try cases he
   rename_i fs
   cases hf : fs[i]? with
   | none => rw [hf] at he; cases he
   | some f =>
    rw [hf] at he
    simp only [YC, Ye, Y7] at he
    obtain ⟨rfl, rfl⟩ := he
    simp [Instr.fieldAt, run_underlying hu, hf, Instr.sureAddr, fieldPlace, ZbQ hc, hc]
 split at h
 ·rename_i cs off o c he
  cases hx with
  | iptr cs off a cc hb hc hr =>
   refine ⟨_, _, run _ o c he h.1, ?_, h.2⟩
   rw [add_add]
   exact .iptr cs (off + o) a cc hb hc hr
 ·rename_i k g off o c he
  obtain ⟨hz, hg, hl, hK⟩ := h
  cases hx with
  | ptrL k off hk hl' =>
   refine ⟨_, _, run _ o c he hz, ?_, hK⟩
   rw [Addr.add_lit, Yp]
   exact .ptrL k (off + o) hk hl
  | ptrD k g off v hk hg' hd h1 => rw [hd hg] at hl; cases hl
 grind
theorem ZiM {t : TypeId} {i : Nat} {x : AV} {v : Value} {K : AV → Prop} (h : Zds P t i x K) (hx : RepA w S H m l x v) :
  ∃ v' x', (Instr.field t v i).run P w = .ok v' w ∧ RepA w S H m l x' v' ∧ K x' := by
 unfold Zds at h
 split at h
 ·rename_i cs fs hu
  cases hx with
  | agg _ vs hlen h1 hc =>
   split at h
   ·rename_i f hf
    split at h
    ·rename_i hag
     obtain ⟨hz, hK⟩ := h
     refine ⟨.agg (vs.extract f.offset (f.offset + P.cellsOf f.type)), _, ?_, ?_, hK⟩
     ·simp [Instr.field, run_underlying hu, hf, asAgg, part, Zcv hag, ZbQ hz]
     ·refine .agg _ _ (by simp; omega) (fun i v hv => ?_) (fun i x v hi hv => ?_)
      ·rw [Y1] at hv
       grind
      grind
    ·rename_i hag
     split at h
     ·rename_i c hc'
      have hlt : f.offset < vs.size := by
       grind
      refine ⟨vs[f.offset], c, ?_, hc _ _ _ hc' (Yf hlt), h⟩
      simp [Instr.field, run_underlying hu, hf, asAgg, part, Zcv hag, Yf hlt]
     grind
    grind
   grind
 grind
theorem ZbZ {t e : TypeId} {sz : Nat} (h : elm P t = some (e, sz)) : P.underlying t = some (.slice e) ∧ P.cellsOf e = sz := by
 unfold elm at h
 grind
theorem Zfd {t : TypeId} {x i : AV} {v u : Value} {K : AV → Prop} (h : ZaJ P H t x i K) (hx : RepA w S H m l x v) (hi : RepA w S H m l i u) :
  ∃ v' x', (Instr.indexAt t v u).run P w = .ok v' w ∧ RepA w S H m l x' v' ∧ K x' := by
 unfold ZaJ at h
 split at h
 ·rename_i es k j e sz he
  obtain ⟨hu, hsz⟩ := ZbZ he
  obtain ⟨h0, h⟩ := h
  split at h
  ·rename_i c hc
   obtain ⟨hl, hz, hK⟩ := h
   have hlt : j.toNat < es.length := by
    grind
   cases hi with
   | d _ _ hd =>
    cases hd
    cases hx with
    | d _ _ hd =>
     cases hd with
     | nil => simp at hlt
     | list es a sz' cap cc hb hcap hsz' hcc hrr =>
      have e1 : sz' = sz := by rw [← hsz' c (Yj hc), hl]
      refine ⟨.pointer (some (a.add (j.toNat * sz))), .iptr c 0, ?_, ?_, hK⟩
      ·simp only [Instr.indexAt, asIntOf, Sem.run_bind, Sem.run_pure, Result.andThen_ok, run_underlying hu, hsz ▸ ZbQ (P := P) (hsz ▸ hz : P.cellsOf e ≠ 0)]
       rw [if_pos ⟨h0, by omega⟩]
       simp [ZbQ (P := P) (t := e) (hsz ▸ hz), hsz]
      ·have := RepA.iptr (w := w) (S := S) (H := H) (m := m) (l := l) c 0 (a.add (j.toNat * sz)) (fun q => cc j.toNat q) (by rw [block_add]; exact hb (by rintro rfl; simp at hlt))
        (fun q x hq => by rw [add_add, ← e1]; exact hcc _ _ _ _ hc hq) (fun q x hq => hrr _ _ _ _ hc hq)
       simpa [Addr.add] using this
  grind
 ·rename_i k g off len _ j e sz he
  obtain ⟨hu, hsz⟩ := ZbZ he
  obtain ⟨h0, hlt, hg, hl, hs, hz, hK⟩ := h
  cases hi with
  | d _ _ hd =>
   cases hd
   cases hx with
   | refL k off n oa hk hl' hn ha =>
    have hoa := ha (by omega)
    subst hoa
    refine ⟨.pointer (some ⟨(m k).b, (m k).o + (off + j.toNat) * sz, none⟩), _, ?_, .ptrL k _ hk hl', hK⟩
    simp only [Instr.indexAt, asIntOf, Sem.run_bind, Sem.run_pure, Result.andThen_ok, run_underlying hu]
    rw [if_pos ⟨h0, by omega⟩]
    simp [ZbQ (P := P) (t := e) (hsz ▸ hz), hsz, Addr.add_lit, hs, YB, Yp]
   | refD k g off n v hk hg' hd h1 => rw [hd hg] at hl; cases hl
 grind
theorem ZdE {t : TypeId} (h : kin P t = 2) : P.underlying t = some .string := by
 unfold kin at h; split at h <;> simp_all
theorem Zhr {t : TypeId} (h : kin P t = 1) : P.underlying t = some .bool := by
 unfold kin at h; split at h <;> simp_all
theorem ZeE {t : TypeId} (h : kin P t = 4) : ∃ e, P.underlying t = some (.slice e) := by
 unfold kin at h; split at h <;> simp_all
theorem Zi5 {t : TypeId} {x i : AV} {v u : Value} {K : AV → Prop} (h : ZdP P t x i K) (hx : RepA w S H m l x v) (hi : RepA w S H m l i u) :
  ∃ v' x', (Instr.index t v u).run P w = .ok v' w ∧ RepA w S H m l x' v' ∧ K x' := by
 unfold ZdP at h
 split at h
 ·rename_i s k j
  obtain ⟨hk, h0, h⟩ := h
  have hu := ZdE hk
  split at h
  ·rename_i b hb
   cases hi with
   | d _ _ hd =>
    cases hd
    cases hx with
    | d _ _ hd =>
     cases hd
     have hlt : j.toNat < s.data.toList.length := by
      grind
     have hlt' : j.toNat < s.size := by simpa using hlt
     have e : s[j.toNat]? = some b := by
      rw [getElem?_pos s j.toNat hlt']
      rw [Yb hlt] at hb
      simp only [Ye] at hb
      rw [← hb]
      rfl
     refine ⟨.int .u8 b.toNat, _, ?_, .d _ _ (.int _ _), h⟩
     simp [Instr.index, asIntOf, run_underlying hu, h0, e]
  grind
 grind
theorem Zhi (a b : ByteArray) : (a.toList == b.toList) = decide (a = b) := by
 by_cases h : a = b
 ·grind
 ·rw [decide_eq_false h]
  have : a.toList ≠ b.toList := by
   intro e
   rw [ByteArray.toList_eq, ByteArray.toList_eq] at e
   exact h (ByteArray.ext (Array.toList_inj.1 e))
  grind
theorem Zl0 {op : BinOp} {k : IntKind} {x y : Int} {K : AV → Prop} (h : Znn op k x y K) (t : TypeId) :
  ∃ v' x', (binOp op t (.int k x) (.int k y)).run P w = .ok v' w ∧ RepA w S H m l x' v' ∧ K x' := by
 cases op <;> simp only [Znn] at h
 case add => exact ⟨.int k (k.wrap (x + y)), _, by simp [binOp, Op.intArith], .d _ _ (.int _ _), h⟩
 case sub => exact ⟨.int k (k.wrap (x - y)), _, by simp [binOp, Op.intArith], .d _ _ (.int _ _), h⟩
 case mul => exact ⟨.int k (k.wrap (x * y)), _, by simp [binOp, Op.intArith], .d _ _ (.int _ _), h⟩
 case quo => exact ⟨.int k (k.wrap (x.tdiv y)), _, by simp [binOp, Op.intDiv, h.1], .d _ _ (.int _ _), h.2⟩
 case rem => exact ⟨.int k (x.tmod y), _, by simp [binOp, Op.intDiv, h.1], .d _ _ (.int _ _), h.2⟩
 case shr => exact ⟨.int k (x.fdiv (2 ^ (min y.toNat k.bits))), _, by simp [binOp, Op.shift, Int.not_lt.2 h.1], .d _ _ (.int _ _), h.2⟩
 case shl => exact ⟨.int k (k.wrap (x * 2 ^ (min y.toNat k.bits))), _, by simp [binOp, Op.shift, Int.not_lt.2 h.1], .d _ _ (.int _ _), h.2⟩
 case and => exact ⟨.int k (ZG9 k x y), _, by simp [binOp, Op.intBits, ZG9], .d _ _ (.int _ _), h⟩
 case or => exact ⟨.int k (orI k x y), _, by simp [binOp, Op.intBits, orI], .d _ _ (.int _ _), h⟩
 case xor => exact ⟨.int k (ZGl k x y), _, by simp [binOp, Op.intBits, ZGl], .d _ _ (.int _ _), h⟩
 case eql => exact ⟨.bool (decide (x = y)), _, by simp [binOp, Op.intCmp]; rfl, .d _ _ (.bool _), h⟩
 case neq => exact ⟨.bool (!decide (x = y)), _, by simp [binOp, Op.intCmp, bne]; rfl, .d _ _ (.bool _), h⟩
 case lss => exact ⟨.bool (decide (x < y)), _, by simp [binOp, Op.intCmp], .d _ _ (.bool _), h⟩
 case leq => exact ⟨.bool (decide (x ≤ y)), _, by simp [binOp, Op.intCmp], .d _ _ (.bool _), h⟩
 case gtr => exact ⟨.bool (decide (y < x)), _, by simp [binOp, Op.intCmp], .d _ _ (.bool _), h⟩
 case geq => exact ⟨.bool (decide (y ≤ x)), _, by simp [binOp, Op.intCmp], .d _ _ (.bool _), h⟩
theorem Zl1 {op : BinOp} {x y : ByteArray} {K : AV → Prop} (h : Zqh op x y K) (t : TypeId) :
  ∃ v' x', (binOp op t (.string x) (.string y)).run P w = .ok v' w ∧ RepA w S H m l x' v' ∧ K x' := by
 cases op <;> simp only [Zqh] at h
 case add =>
  refine ⟨.string (x ++ y), _, ?_, .d _ _ (.str _), h.2⟩
  have e : ¬ (((x.size + y.size : Nat) : Int) > IntKind.i64.max) := by
   have : IntKind.i64.max = 9223372036854775807 := by decide
   grind
  simp only [binOp, Op.stringOp]
  rw [if_neg e]
  rfl
 case eql => exact ⟨.bool (decide (x = y)), _, by simp only [binOp, Op.stringOp, Zhi, Sem.run_pure], .d _ _ (.bool _), h⟩
 case neq => exact ⟨.bool (!decide (x = y)), _, by simp only [binOp, Op.stringOp, Zhi, Sem.run_pure], .d _ _ (.bool _), h⟩
 case lss => exact ⟨.bool (sLt x y), _, by simp only [binOp, Op.stringOp, sLt, Sem.run_pure], .d _ _ (.bool _), h⟩
 case leq => exact ⟨.bool (sLt x y || decide (x = y)), _, by simp only [binOp, Op.stringOp, Zhi, sLt, Sem.run_pure], .d _ _ (.bool _), h⟩
 case gtr => exact ⟨.bool (!(sLt x y || decide (x = y))), _, by simp only [binOp, Op.stringOp, Zhi, sLt, Sem.run_pure], .d _ _ (.bool _), h⟩
 case geq => exact ⟨.bool (!sLt x y), _, by simp only [binOp, Op.stringOp, sLt, Sem.run_pure], .d _ _ (.bool _), h⟩
theorem Ze3 {t : TypeId} {v u : Value} {b : Bool} (h : ∀ d : Nat, (Op.equalIn (d + 1) t v u).run P w = .ok b w) : (Op.equal t v u).run P w = .ok b w := h 9999
theorem ZzR {t e : TypeId} (hu : P.underlying t = some (.slice e)) (a : Option Addr) (k c : Nat) :
  (binOp .eql t (.slice a k c) (.slice none 0 0)).run P w = .ok (.bool a.isNone) w ∧ (binOp .neq t (.slice a k c) (.slice none 0 0)).run P w = .ok (.bool (!a.isNone)) w := by
 have h : (Op.equal t (.slice a k c) (.slice none 0 0)).run P w = .ok a.isNone w := Ze3 fun d => by cases a <;> simp [Op.equalIn, run_underlying hu]
 constructor <;> (unfold binOp; simp [h])
theorem ZgK {neg : Bool} {t : TypeId} {x : AV} {v : Value} {K : AV → Prop} (h : Zjm H neg x K) (hx : RepA w S H m l x v) (hk : kin P t = 4) :
  ∃ v' x', (binOp (if neg then .neq else .eql) t v (.slice none 0 0)).run P w = .ok v' w ∧ RepA w S H m l x' v' ∧ K x' := by
 obtain ⟨e, hu⟩ := ZeE hk
 have go : ∀ (a : Option Addr) (k c : Nat), (K (.d (.bool (if neg then !a.isNone else a.isNone)))) → v = .slice a k c →
   ∃ v' x', (binOp (if neg then .neq else .eql) t v (.slice none 0 0)).run P w = .ok v' w ∧ RepA w S H m l x' v' ∧ K x' := by
  intro a k c hK hv
  subst hv
  obtain ⟨h1, h2⟩ := ZzR (w := w) hu a k c
  cases neg
  ·exact ⟨_, _, h1, .d _ _ (.bool _), hK⟩
  ·exact ⟨_, _, h2, .d _ _ (.bool _), hK⟩
 unfold Zjm at h
 split at h
 ·cases hx with
  | d _ _ hd =>
   cases hd with
   | nil => exact go none 0 0 (h _) rfl
   | list es a sz cap c hb hcap hsz hc hr => exact go (some a) 0 cap (h _) rfl
 ·cases hx with
  | e0 a => exact go a 0 0 (h _) rfl
 ·cases hx with
  | d _ _ hd =>
   cases hd with
   | list es a sz cap c hb hcap hsz hc hr => exact go (some a) _ cap (by cases neg <;> exact h) rfl
 ·rename_i k g off n
  obtain ⟨⟨hg, hl⟩, h1, h2⟩ := h
  cases hx with
  | refL k off n oa hk hl' hn ha =>
   grind
  | refD k g off n v hk hg' hd h1 => rw [hd hg] at hl; cases hl
 grind
theorem Zzb {x y : D} {v u : Value} {b : Bool} {t : TypeId} (h : eqD (kin P t) x y = some b) (hx : RepD w S x v) (hy : RepD w S y u) (d : Nat) :
  Zjh P t = some false ∧ (Op.equalIn (d + 1) t v u).run P w = .ok b w := by
 generalize hk : kin P t = k at h
 unfold eqD at h
 split at h
 ·split at h
  ·cases h
   cases hx; cases hy
   obtain ⟨k', hu⟩ : ∃ k', P.underlying t = some (.int k') := by unfold kin at hk; split at hk <;> simp_all
   rename_i k1 a k2 c e _ _
   subst e
   refine ⟨by simp [Zjh, hu, ZBG], ?_⟩
   rw [run_equalIn_int w d t _ k' _ _ hu]
   congr 1
  ·cases h
 ·cases h
  cases hx; cases hy
  refine ⟨by simp [Zjh, ZdE hk, ZBG], ?_⟩
  rw [run_equalIn_string w d t _ _ (ZdE hk), ← beq_toListBytes]
  congr 1
  rename_i a c
  rw [beq_toListBytes]
  by_cases e : a = c
  ·subst e; simp
  ·have : a.toList ≠ c.toList := fun h => e (by
    have h2 := beq_toListBytes a c
    rw [h, beq_self_eq_true] at h2
    rw [ByteArray.toList_eq, ByteArray.toList_eq] at h
    obtain ⟨⟨a⟩⟩ := a
    obtain ⟨⟨c⟩⟩ := c
    simp at h
    rw [h])
   simp [e, this]
 ·cases h
  cases hx; cases hy
  refine ⟨by simp [Zjh, Zhr hk, ZBG], ?_⟩
  rw [run_equalIn_bool' w d t _ _ (Zhr hk)]
  rename_i a c; cases a <;> cases c <;> rfl
 ·cases h
theorem Ze8 (d : Nat) (vs us : Array Value) : ∀ (fs : List Field) (k : Nat) (ks : List Nat) (xs ys : List AV) (b : Bool), eqF P k fs = some ks → ZeL ks xs ys = some b →
  (∀ (i : Nat) (x : AV), xs[i]? = some x → ∃ v, vs[k + i]? = some v ∧ RepA w S H m l x v) → (∀ (i : Nat) (x : AV), ys[i]? = some x → ∃ v, us[k + i]? = some v ∧ RepA w S H m l x v) →
  (Op.eqFields (d + 1) vs us fs).run P w = .ok b w
 | [], k, ks, xs, ys, b, h1, h2, hx, hy => by
  simp only [eqF, Ye] at h1
  subst h1
  cases xs <;> cases ys <;> simp only [ZeL] at h2 <;> cases h2
  simp [Op.eqFields]
 | f :: fs, k, ks, xs, ys, b, h1, h2, hx, hy => by
  simp only [eqF] at h1
  split at h1
  ·cases h1
  rename_i hf
  obtain ⟨ks', h1', rfl⟩ := YT.1 h1
  match xs, ys, h2, hx, hy with
  | .d x :: xs, .d y :: ys, h2, hx, hy =>
   simp only [ZeL] at h2
   split at h2
   ·rename_i a c ha hc
    cases h2
    obtain ⟨v, e1, hv⟩ := hx 0 _ rfl
    obtain ⟨u, e2, hu⟩ := hy 0 _ rfl
    have g1 : RepD w S x v := by cases hv with | d _ _ hd => exact hd
    have g2 : RepD w S y u := by cases hu with | d _ _ hd => exact hd
    obtain ⟨hag, hr⟩ := Zzb ha g1 g2 d
    have ho : f.offset = k := by
     rcases Nat.decEq f.offset k with h | h
     ·exact absurd (.inr h) hf
     ·exact h
    have ih := Ze8 d vs us fs (k + 1) ks' xs ys c h1' hc (fun i x h => by
     obtain ⟨v, h3, h4⟩ := hx (i + 1) x (by simpa using h)
     exact ⟨v, by rw [show k + 1 + i = k + (i + 1) from by omega]; exact h3, h4⟩) (fun i x h => by
     obtain ⟨v, h3, h4⟩ := hy (i + 1) x (by simpa using h)
     exact ⟨v, by rw [show k + 1 + i = k + (i + 1) from by omega]; exact h3, h4⟩)
    have p1 : (part f.type vs f.offset).run P w = .ok v w := by
     unfold part
     rw [ho]
     simp only [Sem.run_bind, Zcv hag, Result.andThen_ok, YN, if_false]
     rw [show vs[k]? = some v from e1]
     rfl
    have p2 : (part f.type us f.offset).run P w = .ok u w := by
     unfold part
     rw [ho]
     simp only [Sem.run_bind, Zcv hag, Result.andThen_ok, YN, if_false]
     rw [show us[k]? = some u from e2]
     rfl
    unfold Op.eqFields
    rw [if_pos (fun e => hf (.inl e))]
    simp only [Sem.run_bind, p1, p2, Result.andThen_ok, hr]
    cases a
    ·simp
    ·simp [ih]
   ·cases h2
theorem Zmh {op : BinOp} {t : TypeId} {xs ys : List AV} {v u : Value} {K : AV → Prop} (h : ZrG P op t xs ys K) (hx : RepA w S H m l (.agg xs) v) (hy : RepA w S H m l (.agg ys) u) :
  ∃ v' x', (binOp op t v u).run P w = .ok v' w ∧ RepA w S H m l x' v' ∧ K x' := by
 unfold ZrG at h
 split at h
 case h_2 => exact h.elim
 rename_i ks hks
 split at h
 case h_2 => exact h.elim
 rename_i b hb
 unfold eqT at hks
 split at hks
 case h_2 => cases hks
 rename_i fs hu
 split at hks
 case isFalse => cases hks
 rename_i hg
 simp only [Bool.and_eq_true, Bool.not_eq_true'] at hg
 cases hx with
 | agg _ vs hl h1 hr =>
  cases hy with
  | agg _ us hl' h1' hr' =>
   have hfs : P.fieldsOf t = fs := by simp [Program.fieldsOf, hu]
   have heq : (Op.equalIn 10000 t (.agg vs) (.agg us)).run P w = .ok b w := by
    rw [show (10000 : Nat) = 9998 + 1 + 1 from rfl, run_equalIn_struct w (9998 + 1) t vs us (by rw [hfs]; exact hu) hg.1, hfs]
    exact Ze8 9998 vs us fs.toList 0 ks xs ys b hks hb
     (fun i x h => by
      have hlt : i < vs.size := by
       grind
      exact ⟨vs[i], by simp [hlt], hr i x _ h (Yf hlt)⟩)
     (fun i x h => by
      have hlt : i < us.size := by
       grind
      exact ⟨us[i], by simp [hlt], hr' i x _ h (Yf hlt)⟩)
   split at h
   ·exact ⟨.bool b, _, by rw [run_eql_struct, heq]; rfl, .d _ _ (.bool _), h⟩
   ·exact ⟨.bool (!b), _, by rw [run_neq_struct, heq]; rfl, .d _ _ (.bool _), h⟩
   grind
theorem Zmj {op : BinOp} {t : TypeId} {ny : Bool} {x y : AV} {v u : Value} {K : AV → Prop} (h : Zgw P H op t ny x y K) (hx : RepA w S H m l x v) (hy : RepA w S H m l y u)
  (hny : ny = true → u = .slice none 0 0) : ∃ v' x', (binOp op t v u).run P w = .ok v' w ∧ RepA w S H m l x' v' ∧ K x' := by
 unfold Zgw at h
 split at h
 ·cases hx with
  | d _ _ hd => cases hd; cases hy with
   | d _ _ hd => cases hd; obtain ⟨rfl, h⟩ := h; exact Zl0 h t
 ·cases hx with
  | d _ _ hd => cases hd; cases hy with
   | d _ _ hd => cases hd; exact Zl1 h t
 ·cases hx with
  | d _ _ hd => cases hd; cases hy with
   | d _ _ hd =>
    cases hd
    obtain ⟨hk, h⟩ := h
    rename_i a b
    have hu := Zhr hk
    have he : (Op.equal t (.bool a) (.bool b)).run P w = .ok (a == b) w := Ze3 fun d => by simp [Op.equalIn, run_underlying hu]
    split at h
    ·exact ⟨.bool (a == b), _, by unfold binOp; simp [he], .d _ _ (.bool _), h⟩
    ·exact ⟨.bool (!(a == b)), _, by unfold binOp; simp [he], .d _ _ (.bool _), h⟩
    grind
 ·exact Zmh h hx hy
 ·obtain ⟨h1, hk, h⟩ := h
  have := hny h1
  subst this
  split at h
  ·exact ZgK (neg := false) h hx hk
  ·exact ZgK (neg := true) h hx hk
  grind
 grind
theorem ZoT {op : UnOp} {x : AV} {v : Value} {K : AV → Prop} (h : vUn op x K) (hx : RepA w S H m l x v) :
  ∃ v' x', (Op.unary op v).run P w = .ok v' w ∧ RepA w S H m l x' v' ∧ K x' := by
 unfold vUn at h
 split at h
 ·cases hx with
  | d _ _ hd => cases hd; exact ⟨_, _, rfl, .d _ _ (.bool _), h⟩
 ·cases hx with
  | d _ _ hd => cases hd; exact ⟨_, _, rfl, .d _ _ (.int _ _), h⟩
 ·cases hx with
  | d _ _ hd => cases hd; exact ⟨_, _, rfl, .d _ _ (.int _ _), h⟩
 grind
theorem Zj8 {s d : TypeId} {x : AV} {v : Value} {K : AV → Prop} (h : ZeZ P s d x K) (hx : RepA w S H m l x v) :
  ∃ v' x', (convert s d v).run P w = .ok v' w ∧ RepA w S H m l x' v' ∧ K x' := by
 unfold ZeZ at h
 split at h
 ·rename_i hs hd
  cases hx with
  | d _ _ hd' =>
   cases hd'
   exact ⟨_, _, by simp [convert, run_underlying hs, run_underlying hd, Conv.intToInt], .d _ _ (.int _ _), h⟩
 ·rename_i hs hd
  cases hx with
  | d _ _ hd' =>
   cases hd'
   exact ⟨_, _, by simp [convert, run_underlying hs, run_underlying hd], .d _ _ (.str _), h⟩
 grind
theorem ZlI {t : TypeId} {x : AV} {v : Value} {K : AV → Prop} (h : Zjp P H t x K) (hx : RepA w S H m l x v) (ty : TypeId) :
  ∃ v' x', (Builtin.len_ #[t] ty #[v]).run P w = .ok v' w ∧ RepA w S H m l x' v' ∧ K x' := by
 unfold Zjp at h
 split at h
 ·obtain ⟨hk, h⟩ := h
  have hu := ZdE hk
  cases hx with
  | d _ _ hd => cases hd; exact ⟨_, _, by simp [Builtin.len_, run_underlying hu, goInt], .d _ _ (.int _ _), h⟩
 ·obtain ⟨hk, h⟩ := h
  obtain ⟨e, hu⟩ := ZeE hk
  cases hx with
  | d _ _ hd => cases hd with
   | nil => exact ⟨_, _, by simp [Builtin.len_, run_underlying hu, goInt], .d _ _ (.int _ _), h⟩
   | list es a sz cap c hb hcap hsz hc hr => exact ⟨_, _, by simp [Builtin.len_, run_underlying hu, goInt], .d _ _ (.int _ _), h⟩
 ·obtain ⟨hk, h⟩ := h
  obtain ⟨e, hu⟩ := ZeE hk
  cases hx with
  | e0 a => exact ⟨_, _, by simp [Builtin.len_, run_underlying hu, goInt], .d _ _ (.int _ _), h⟩
 ·obtain ⟨hk, hg, hl, h⟩ := h
  obtain ⟨e, hu⟩ := ZeE hk
  cases hx with
  | refL k off n oa hk' hl' hn ha => exact ⟨_, _, by simp [Builtin.len_, run_underlying hu, goInt], .d _ _ (.int _ _), h⟩
  | refD k g off n v hk' hg' hd h1 => rw [hd hg] at hl; cases hl
 grind
end
end Go.Eng
namespace Go.Eng
set_option linter.all false
open Go Go.RowKit
def ZBV (P : Program) (t : TypeId) : Bool := match P.underlying t, P.info? t with | some (.struct fs), some _ => fs.toList.all (fun f => (P.info? f.type).isSome) | _, _ => false
def ZdQ (P : Program) (t : TypeId) (parts : List (Nat × AV)) (K : AV → Prop) : Prop :=
 ZBV P t = true ∧ match zer P t with
  | some z => match ZcP (fld P t) z parts with | some cs => K (.agg cs) | none => False
  | none => False
section
variable {P : Program} {l n : Nat} {H : Hp} {m : Mu} {S : Nat → Prop} {w : World} {s : Nat → AV} {a : Act}
theorem Zqn {d : Nat} {o : Option AV} {b : Nat} (h : bnd d o = some b) {ov : Option Value} (ho : ∀ x, o = some x → ∃ v, ov = some v ∧ RepA w S H m l x v) (hn : o = none → ov = none) (y : Nat) (hy : b ≤ y) (hd : o = none → d = b) (code : BoundsCode) :
  (match ov with | some v => Instr.sliceBound v y code | none => (pure d : Sem Nat)).run P w = .ok b w := by
 cases o with
 | none =>
  rw [hn rfl]
  simp [hd rfl]
 | some x =>
  obtain ⟨v, rfl, hx⟩ := ho x rfl
  unfold bnd at h
  split at h
  ·grind
  ·rename_i k j heq
   simp only [Ye] at heq
   subst heq
   split at h
   ·rename_i h0
    simp only [Ye] at h
    subst h
    cases hx with
    | d _ _ hd' =>
     cases hd'
     exact run_sliceBound (P := P) (w := w) k j y code h0 (by omega)
   ·cases h
  ·cases h
def OV (w : World) (S : Nat → Prop) (H : Hp) (m : Mu) (l : Nat) (o : Option AV) (ov : Option Value) : Prop := (∀ x, o = some x → ∃ v, ov = some v ∧ RepA w S H m l x v) ∧ (o = none → ov = none)
theorem Zee {isSlice : Bool} {len cap : Nat} {lo hi : Option AV} {lv hv : Option Value} {b c : Nat} (h1 : bnd 0 lo = some b) (h2 : bnd len hi = some c) (hl : OV w S H m l lo lv) (hh : OV w S H m l hi hv)
  (hbc : b ≤ c) (hc : c ≤ len) (hcap : len ≤ cap) : (Instr.sliceBounds isSlice len cap lv hv none).run P w = .ok (b, c, cap) w := by
 unfold Instr.sliceBounds
 have e2 : (match hv, (none : Option Value) with
   | some v, some _ => Instr.sliceBound v cap .slice3B
   | some v, none => Instr.sliceBound v cap (if isSlice then .sliceAcap else .sliceAlen)
   | none, none => pure len
   | none, some _ => stuck "Slice: max without high").run P w = .ok c w := by
  have := Zqn (P := P) (w := w) h2 hh.1 hh.2 cap (by omega) (fun e => by subst e; simpa [bnd] using h2) (if isSlice then .sliceAcap else .sliceAlen)
  grind
 have e3 : (match lv with
   | some v => Instr.sliceBound v c (if (none : Option Value).isSome then .slice3C else .sliceB)
   | none => pure 0).run P w = .ok b w := Zqn (P := P) (w := w) h1 hl.1 hl.2 c hbc (fun e => by subst e; simpa [bnd] using h1) _
 cases hv <;> cases lv <;> simp only at e2 e3 <;> simp [e2, e3] <;> simp_all
theorem ZiY {t : TypeId} {x : AV} {lo hi : Option AV} {mx : Bool} {v : Value} {lv hv mv : Option Value} {K : AV → Prop} (h : Zc3 P H t x lo hi mx K) (hx : RepA w S H m l x v)
  (hl : OV w S H m l lo lv) (hh : OV w S H m l hi hv) (hm : mx = false → mv = none) :
  ∃ v' x', (Instr.sliceAt t v lv hv mv).run P w = .ok v' w ∧ RepA w S H m l x' v' ∧ K x' := by
 unfold Zc3 at h
 split at h
 ·rename_i s
  obtain ⟨hk, hmx, h⟩ := h
  obtain rfl := hm hmx
  have hu := ZdE hk
  split at h
  ·rename_i b c e1 e2
   obtain ⟨hbc, hc, hK⟩ := h
   cases hx with
   | d _ _ hd =>
    cases hd
    refine ⟨.string (s.extract b c), _, ?_, .d _ _ (.str _), hK⟩
    have hb := Zee (P := P) (isSlice := false) (len := s.size) (cap := s.size) (w := w) e1 e2 hl hh hbc hc (Yd _)
    simp [Instr.sliceAt, Instr.slice, run_underlying hu, hb]
  ·exact h.elim
 ·rename_i es
  obtain ⟨hmx, h⟩ := h
  obtain rfl := hm hmx
  split at h
  ·rename_i e sz b c he e1 e2
   obtain ⟨hu, hsz⟩ := ZbZ he
   obtain ⟨hz, hall, hbc, hc, hK⟩ := h
   cases hx with
   | d _ _ hd =>
    cases hd with
    | nil =>
     have hb := Zee (P := P) (isSlice := true) (len := 0) (cap := 0) (w := w) e1 e2 hl hh hbc (by simpa using hc) (Yd _)
     simp only [Yaf, Nat.le_zero] at hc
     subst hc
     obtain rfl : b = 0 := by omega
     refine ⟨.slice none 0 0, _, ?_, .d _ _ .nil, by simpa using hK⟩
     simp [Instr.sliceAt, Instr.slice, run_underlying hu, hb, ZbQ (P := P) (t := e) (hsz ▸ hz)]
    | list es ad sz' cap cc hb hcap hsz' hcc hrr =>
     have hbr := Zee (P := P) (isSlice := true) (len := es.length) (cap := cap) (w := w) e1 e2 hl hh hbc hc hcap
     refine ⟨.slice (some (if cap = b then ad else ad.add (b * sz))) (c - b) (cap - b), _, ?_, ?_, hK⟩
     ·simp only [Instr.sliceAt, Instr.slice, run_underlying hu, Sem.run_bind, Result.andThen_ok, hbr, ZbQ (P := P) (t := e) (hsz ▸ hz), hsz]
      by_cases hcb : cap = b <;> simp [hcb]
     ·have hlen : ((es.drop b).take (c - b)).length = c - b := by simp; omega
      by_cases hbc' : b = c
      ·subst hbc'
       simp only [Nat.sub_self, List.take_zero]
       exact .d _ _ (.list [] _ 0 _ (fun _ _ => .bool true) (fun h => absurd rfl h) (Y4 _) (fun _ h => by cases h) (fun i j e x h => by simp at h) (fun i j e x h => by simp at h))
      ·have hne : cap ≠ b := by omega
       rw [if_neg hne]
       have key : ∀ (i : Nat) (q : List D), ((es.drop b).take (c - b))[i]? = some q → es[b + i]? = some q := by
        intro i q hq
        rw [YM] at hq
        split at hq
        ·rwa [YK] at hq
        ·cases hq
       have := RepD.list (w := w) (S := S) ((es.drop b).take (c - b)) (ad.add (b * sz)) sz (cap - b) (fun i j => cc (b + i) j)
        (fun _ => by rw [block_add]; exact hb (by rintro rfl; simp at hc; omega)) (by rw [hlen]; omega) (fun q hq => hall q (List.mem_of_mem_drop (List.mem_of_mem_take hq)))
        (fun i j q x hi hj => by
         rw [add_add]
         have h1 := hcc (b + i) j q x (key i q hi) hj
         have h2 : sz' = sz := by rw [← hsz' q (Yj (key i q hi)), hall q (Yj (key i q hi))]
         rw [h2, YB, Yp] at h1
         exact h1)
        (fun i j q x hi hj => hrr (b + i) j q x (key i q hi) hj)
       rw [hlen] at this
       exact .d _ _ this
  ·exact h.elim
 ·rename_i k g off len
  obtain ⟨hmx, hg, hlv, h⟩ := h
  obtain rfl := hm hmx
  split at h
  ·rename_i e sz b c he e1 e2
   obtain ⟨hu, hsz⟩ := ZbZ he
   obtain ⟨hz, hs, hbc, hc, hK⟩ := h
   cases hx with
   | refL k off n oa hk hl' hn ha =>
    have hbr := Zee (P := P) (isSlice := true) (len := len) (cap := (m k).cap - off) (w := w) e1 e2 hl hh hbc hc (by omega)
    refine ⟨.slice (if (m k).cap - off = b then oa else oa.map (·.add (b * sz))) (c - b) ((m k).cap - (off + b)), _, ?_, .refL k (off + b) (c - b) _ hk hl' (by omega) (fun ho => ?_), hK⟩
    ·simp only [Instr.sliceAt, Instr.slice, run_underlying hu, Sem.run_bind, Result.andThen_ok, hbr, ZbQ (P := P) (t := e) (hsz ▸ hz), hsz]
     rw [show (m k).cap - (off + b) = (m k).cap - off - b from by omega]
     rfl
    ·rw [if_neg (by omega), ha (by omega), hs]
     simp [Addr.add_lit, YB, Yp]
   | refD k g off n v hk hg' hd h1 => rw [hd hg] at hlv; cases hlv
  ·exact h.elim
 ·exact h.elim
def ZaE (w : World) (S : Nat → Prop) (H : Hp) (m : Mu) (l : Nat) (xs : List AV) (C : Array Value) : Prop :=
 xs.length = C.size ∧ ∀ (i : Nat) (x : AV) (v : Value), xs[i]? = some x → C[i]? = some v → v.oneCell' = true ∧ RepA w S H m l x v
theorem Zgo {x : AV} {v : Value} {xs : List AV} (hx : RepA w S H m l x v) (h : Zbh x = some xs) : ZaE w S H m l xs v.cells := by
 have one : ∀ {x : AV} {v : Value}, RepA w S H m l x v → v.oneCell' = true → ZaE w S H m l [x] v.cells := by
  intro x v hx h1
  have e : v.cells = #[v] := by cases v <;> first | rfl | cases h1
  rw [e]
  refine ⟨rfl, fun i y u hi hu => ?_⟩
  cases i with
  | zero => simp at hi hu; subst hi; subst hu; exact ⟨h1, hx⟩
  | succ i => simp at hi
 cases hx <;> simp only [Zbh, Ye] at h <;> try cases h
 case d x hd => exact one (.d _ _ hd) hd.one
 case e0 a => exact one (.e0 a) rfl
 case p h1 => exact one (.p _ h1) h1
 case refL k off n oa hk hl hn ha => exact one (.refL k off n oa hk hl hn ha) rfl
 case refD k g off n hk hg hd h1 => exact one (.refD k g off n _ hk hg hd h1) h1
 case ptrL k off hk hl => exact one (.ptrL k off hk hl) rfl
 case ptrD k g off hk hg hd h1 => exact one (.ptrD k g off _ hk hg hd h1) h1
 case mpL k hk hl => exact one (.mpL k hk hl) rfl
 case mpD k g hk hg hd h1 => exact one (.mpD k g _ hk hg hd h1) h1
 case iptr cs off a c hb hc hr => exact one (.iptr cs off a c hb hc hr) rfl
 case ifc t ds a v hv => exact one (.ifc t ds a v hv) rfl
 case fn f xs ys vs us hx hy h1 h2 => exact one (.fn f xs ys vs us hx hy h1 h2) rfl
 case agg vs h1 hl hc => exact ⟨hl, fun i x v hi hv => ⟨h1 i v hv, hc i x v hi hv⟩⟩
theorem ZiE (off : Nat) : ∀ (vs : List Value) (j : Nat) (C : Array Value), off + j + vs.length ≤ C.size →
  ((vs.zipIdx j).foldl (fun cs (c : Value × Nat) => cs.setIfInBounds (off + c.2) c.1) C).toList = C.toList.take (off + j) ++ vs ++ C.toList.drop (off + j + vs.length)
 | [], j, C, _ => by simp
 | v :: vs, j, C, h => by
  simp only [YZ] at h
  simp only [List.zipIdx_cons, Yap]
  rw [ZiE off vs (j + 1) _ (by simp; omega)]
  have hlt : off + j < C.toList.length := by simp; omega
  simp only [Array.toList_setIfInBounds]
  rw [show off + (j + 1) = off + j + 1 from by omega]
  rw [Y0 (by simpa using hlt)]
  simp only [List.getElem_set_self, List.take_set_of_le (Yd _)]
  rw [List.drop_set_of_lt (by omega)]
  grind
theorem ZaE.splice {zs xs : List AV} {Z C : Array Value} (hz : ZaE w S H m l zs Z) (hx : ZaE w S H m l xs C) (off : Nat) (ho : off + xs.length ≤ zs.length) :
  ZaE w S H m l (zs.take off ++ xs ++ zs.drop (off + xs.length)) (Z.toList.take off ++ C.toList ++ Z.toList.drop (off + C.toList.length)).toArray := by
 have e1 := hz.1
 have e2 := hx.1
 have e3 : C.toList.length = xs.length := by simp [e2]
 refine ⟨by simp; omega, fun i x v hi hv => ?_⟩
 rw [e3] at hv
 have hv : (Z.toList.take off ++ C.toList ++ Z.toList.drop (off + xs.length))[i]? = some v := by simpa using hv
 rcases Yo i off with h | h
 ·rw [YW, Yg (by simp; omega), YM, if_pos h] at hi
  rw [YW, Yg (by simp; omega), YM, if_pos h, Yi] at hv
  exact hz.2 i x v hi hv
 ·rcases Yo i (off + xs.length) with h' | h'
  ·rw [Yg (by simp; omega), Yk (by simp; omega)] at hi
   rw [Yg (by simp; omega), Yk (by simp; omega), Yi] at hv
   simp only [YU] at hi hv
   rw [Yaq (by omega)] at hi
   rw [Yaq (by simp; omega)] at hv
   exact hx.2 _ x v hi hv
  ·rw [Yk (by simp; omega), YK] at hi
   rw [Yk (by simp; omega), YK, Yi] at hv
   simp only [Yr, YU] at hi hv
   rw [Yaq (by omega)] at hi
   rw [Yaq (by simp; omega), e3] at hv
   exact hz.2 _ x v hi hv
theorem Zed {place : Nat → Option (Nat × Nat)} : ∀ (ps : List (Nat × AV)) (vs : List (Nat × Value)) (zs : List AV) (Z : Array Value) (cs : List AV), ZaE w S H m l zs Z →
  ps.length = vs.length → (∀ (i : Nat) (p : Nat × AV) (q : Nat × Value), ps[i]? = some p → vs[i]? = some q → p.1 = q.1 ∧ RepA w S H m l p.2 q.2) →
  ZcP place zs ps = some cs → ∃ C, Instr.fill place Z vs = some C ∧ ZaE w S H m l cs C
 | [], [], zs, Z, cs, hz, _, _, h => by
  simp only [ZcP, Ye] at h
  subst h
  exact ⟨Z, rfl, hz⟩
 | [], _ :: _, _, _, _, _, hl, _, _ => by simp at hl
 | _ :: _, [], _, _, _, _, hl, _, _ => by simp at hl
 | (i, x) :: ps, (j, v) :: vs, zs, Z, cs, hz, hl, hp, h => by
  obtain ⟨e, hx⟩ := hp 0 (i, x) (j, v) rfl rfl
  simp only at e hx
  subst e
  simp only [ZcP] at h
  split at h
  ·rename_i off size xs hpl hcx
   split at h
   ·cases h
   ·rename_i hc
    have hcr := Zgo hx hcx
    have e1 := hcr.1
    have e2 := hz.1
    have hc1 : xs.length = size := by
     grind
    have hc2 : off + xs.length ≤ zs.length := by
     grind
    have hs := hz.splice hcr off hc2
    obtain ⟨C, hC, hr⟩ := Zed ps vs _ _ cs hs (by simpa using hl) (fun i p q h1 h2 => hp (i + 1) p q (by simpa using h1) (by simpa using h2)) h
    refine ⟨C, ?_, hr⟩
    simp only [Instr.fill, hpl]
    have hn : ¬ ((decide (v.cells.size ≠ size) || decide (off + v.cells.size > Z.size)) = true) := by
     grind
    rw [if_neg hn]
    rw [← hC]
    congr 1
    apply YS
    have := ZiE off v.cells.toList 0 Z (by simp; omega)
    simp only [Yae] at this
    rw [← Array.foldl_toList, Array.toList_zipIdx]
    exact this
  ·cases h
end
def ZgA (s : ByteArray) : List D → Bool
 | .str t :: _ => decide (t = s)
 | _ => false
def Zfg (s : ByteArray) : List (List D) → Option (List D)
 | [] => none
 | e :: es => match ZgA s e with | true => some e.tail | false => Zfg s es
def Zh9 (s : ByteArray) (vs : List D) : List (List D) → List (List D)
 | [] => [.str s :: vs]
 | e :: es => match ZgA s e with | true => (.str s :: vs) :: es | false => e :: Zh9 s vs es
def Zjk (s : ByteArray) : List (List D) → List (List D)
 | [] => []
 | e :: es => match ZgA s e with | true => es | false => e :: Zjk s es
def zds : List AV → Option (List D)
 | [] => some []
 | .d x :: r => (zds r).map (x :: ·)
 | .e0 :: r => (zds r).map (.list [] :: ·)
 | _ => none
def zD (P : Program) (e : TypeId) : Option (Bool × List D) :=
 match P.underlying e, (P.info? e).bind (·.zero) with
 | some (.map _ e'), some (.map none) => (Zjh P e').map fun q => (false, [.map q []])
 | _, some (.agg _) => ((zer P e).bind zds).map (true, ·)
 | _, some _ => ((zer P e).bind zds).map (false, ·)
 | _, none => none
def Zvt (P : Program) (t : TypeId) : Option (Bool × List D) :=
 match P.underlying t with
 | some (.map k e) => match kin P k, Zjh P e, zD P e with
  | 2, some b, some (q, z) => if b = q then some (b, z) else none
  | _, _, _ => none
 | _ => none
def meA (a : Bool) (ds : List D) : AV := match a, ds with
 | true, ds => .agg (ds.map .d)
 | false, [d] => .d d
 | _, _ => .top
def lkV (ck a : Bool) (ds : List D) (ok : Bool) : AV := match ck with
 | true => .tup [meA a ds, .d (.bool ok)]
 | false => meA a ds
def ZlN (H : Hp) : AV → Option (Bool × List (List D))
 | .d (.map q es) => some (q, es)
 | .mp k g => if g = (H k).g ∧ (H k).live = true then (match (H k).e with | .m q es => some (q, es) | _ => none) else none
 | _ => none
def Zf6 (P : Program) (H : Hp) (t : TypeId) (x y : AV) (ck : Bool) (K : AV → Prop) : Prop :=
 match Zvt P t, ZlN H x, y with
 | some (q, z), some (q', es), .d (.str s) => q = q' ∧ K (lkV ck q ((Zfg s es).getD z) (Zfg s es).isSome)
 | _, _, _ => False
section
variable {P : Program} {l n : Nat} {H : Hp} {m : Mu} {S : Nat → Prop} {w : World} {s : Nat → AV} {a : Act}
theorem ZjZ (a b : ByteArray) : (a == b) = decide (a = b) := by
 by_cases h : a = b
 ·rw [decide_eq_true h]; exact (MapKept.bytes_beq a b).2 h
 ·rw [decide_eq_false h]
  cases hb : a == b with
  | false => rfl
  | true => exact absurd ((MapKept.bytes_beq a b).1 hb) h
theorem Zkx {q : Bool} {s : ByteArray} : ∀ (es : List (List D)) (xs : List MapEntry) (k : Nat), es.length = xs.length → (∀ (i : Nat) (e : List D) (x : MapEntry), es[i]? = some e → xs[i]? = some x → ZHC w S q e x) →
  (Zfg s es = none ∧ Instr.findNow .string (.string s) xs k = some none ∧ (∀ vs, Zh9 s vs es = es ++ [.str s :: vs]) ∧ Zjk s es = es) ∨
  ∃ j x ds, Instr.findNow .string (.string s) xs k = some (some (k + j, x.val)) ∧ xs[j]? = some x ∧ x.key = .string s ∧ es[j]? = some (.str s :: ds) ∧ Zfg s es = some ds ∧ (∀ vs, Zh9 s vs es = es.set j (.str s :: vs)) ∧ Zjk s es = es.eraseIdx j ∧ VR w S q ds x.val
 | [], [], k, _, _ => .inl ⟨rfl, rfl, fun _ => rfl, rfl⟩
 | e :: es, x :: xs, k, hl, h => by
  obtain ⟨t, ds, rfl, h2, h3⟩ := h 0 _ x rfl rfl
  by_cases ht : t = s
  ·subst ht
   refine .inr ⟨0, x, ds, ?_, rfl, h2, rfl, ?_, fun vs => ?_, ?_, h3⟩
   ·simp [Instr.findNow, h2, Instr.sameNow, ZjZ]
   ·simp [Zfg, ZgA]
   ·simp [Zh9, ZgA]
   ·simp [Zjk, ZgA]
  ·have hk : ZgA s (.str t :: ds) = false := by simp [ZgA, ht]
   have hs : Instr.sameNow .string (.string s) x.key = some false := by
    rw [h2]; simp only [Instr.sameNow, ZjZ]; rw [decide_eq_false (fun e => ht e.symm)]
   rcases Zkx (s := s) es xs (k + 1) (YaK hl) (fun i e y hi hy => h (i + 1) e y (by simpa using hi) (by simpa using hy)) with ⟨a1, a2, a3, a4⟩ | ⟨j, y, ds', a1, a2, a3, a4, a5, a6, a7, a8⟩
   ·exact .inl ⟨by simp only [Zfg, hk]; exact a1, by simp only [Instr.findNow, hs]; exact a2, fun vs => by simp only [Zh9, hk, a3]; rfl, by simp only [Zjk, hk, a4]⟩
   ·refine .inr ⟨j + 1, y, ds', ?_, by simpa using a2, a3, by simpa using a4, by simp only [Zfg, hk]; exact a5, fun vs => by simp only [Zh9, hk, a6, List.set_cons_succ], by simp only [Zjk, hk, a7, YaA], a8⟩
    simp only [Instr.findNow, hs, a1]
    grind
 | [], _ :: _, _, h, _ => by cases h
 | _ :: _, [], _, h, _ => by cases h
theorem Zgu {t : TypeId} {q : Bool} {z : List D} (h : Zvt P t = some (q, z)) : ∃ k e, P.underlying t = some (.map k e) ∧ P.underlying k = some .string ∧ Zjh P e = some q ∧ zD P e = some (q, z) := by
 unfold Zvt at h
 split at h
 ·rename_i k e hu
  split at h
  ·rename_i b q' z' h1 h2 h3
   split at h
   ·rename_i hb
    simp only [Ye, Y7] at h
    obtain ⟨rfl, rfl⟩ := h
    subst hb
    exact ⟨k, e, hu, ZdE h1, h2, h3⟩
   ·cases h
  ·cases h
 ·cases h
theorem ZmQ : ∀ (xs : List AV) (ds : List D) (vs : List Value), zds xs = some ds → xs.length = vs.length → (∀ (i : Nat) (x : AV) (v : Value), xs[i]? = some x → vs[i]? = some v → RepA w S H m l x v) → ds.length = vs.length ∧ ∀ (i : Nat) (d : D) (v : Value), ds[i]? = some d → vs[i]? = some v → RepD w S d v
 | [], ds, [], h, _, _ => by simp only [zds, Ye] at h; subst h; exact ⟨rfl, fun i d v hi => by simp at hi⟩
 | x :: xs, ds, v :: vs, h, hl, hr => by
  have h0 := hr 0 x v rfl rfl
  have key : ∃ d ds', ds = d :: ds' ∧ zds xs = some ds' ∧ RepD w S d v := by
   cases x <;> simp only [zds] at h <;> try (cases h; done)
   case d x =>
    obtain ⟨ds', e1, e2⟩ := YT.1 h
    cases h0 with
    | d _ _ hd => exact ⟨x, ds', e2.symm, e1, hd⟩
   case e0 =>
    obtain ⟨ds', e1, e2⟩ := YT.1 h
    cases h0.e0_d with
    | d _ _ hd => exact ⟨_, ds', e2.symm, e1, hd⟩
  obtain ⟨d, ds', rfl, e1, e2⟩ := key
  obtain ⟨a1, a2⟩ := ZmQ xs ds' vs e1 (YaK hl) (fun i x v hx hv => hr (i + 1) x v (by simpa using hx) (by simpa using hv))
  refine ⟨by simp [a1], fun i d' u hi hu => ?_⟩
  cases i with
  | zero => cases hi; cases hu; exact e2
  | succ i => exact a2 i d' u (by simpa using hi) (by simpa using hu)
 | [], _, _ :: _, _, h, _ => by cases h
 | _ :: _, _, [], _, h, _ => by cases h
theorem ZFr {e : TypeId} {q : Bool} {z : List D} (h : zD P e = some (q, z)) : ∃ zv, (zeroValue e).run P w = .ok zv w ∧ VR w S q z zv := by
 have run : ∀ {i : TypeInfo} {zv : Value}, P.info? e = some i → i.zero = some zv → (zeroValue e).run P w = .ok zv w := fun hi hz => by simp [zeroValue, typeInfo, hi, hz]
 have cell : ∀ {i : TypeInfo} {zv : Value} {ds : List D}, P.info? e = some i → i.zero = some zv → (zer P e).bind zds = some ds → ds.length = zv.cells.size ∧ ∀ (j : Nat) (d : D) (v : Value), ds[j]? = some d → zv.cells[j]? = some v → RepD w S d v := fun {i zv ds} hi hz hb => by
  obtain ⟨xs, h1, h2⟩ := Yba.1 hb
  unfold zer at h1
  rw [hi] at h1
  simp only [Yn, hz] at h1
  split at h1
  ·rename_i hc
   simp only [Ye] at h1
   subst h1
   obtain ⟨a1, a2⟩ := ZmQ (w := w) (S := S) (H := fun _ => ⟨0, false, 0, 0, []⟩) (m := fun _ => ⟨0, 0, 0⟩) (l := 0) _ ds zv.cells.toList h2 (by simp) (fun j x v hx hv => by
    rw [Yv] at hx
    rw [hv] at hx
    cases hx
    exact ZqK v)
   grind
  grind
 unfold zD at h
 cases hi : P.info? e with
 | none => rw [hi] at h; simp at h
 | some i =>
  cases hz : i.zero with
  | none => rw [hi] at h; simp [hz] at h
  | some zv =>
   rw [hi] at h
   simp only [Yn, hz] at h
   refine ⟨zv, run hi hz, ?_⟩
   split at h
   ·rename_i k e' hu he
    simp only [Ye] at he
    subst he
    obtain ⟨b, _, h2⟩ := YT.1 h
    cases h2
    exact .inr ⟨rfl, _, rfl, .mnil _⟩
   ·rename_i cs he
    simp only [Ye] at he
    subst he
    obtain ⟨ds, h1, h2⟩ := YT.1 h
    cases h2
    obtain ⟨a1, a2⟩ := cell hi hz h1
    exact .inl ⟨rfl, cs, rfl, a1.symm, a2⟩
   ·rename_i x hne2 he hne1
    simp only [Ye] at he
    subst he
    obtain ⟨ds, h1, h2⟩ := YT.1 h
    simp only [Y7] at h2
    obtain ⟨rfl, rfl⟩ := h2
    obtain ⟨a1, a2⟩ := cell hi hz h1
    have hc : zv.cells = #[zv] := by
     cases zv <;> first | rfl | exact absurd rfl (hne2 _)
    rw [hc] at a1 a2
    match ds, a1, a2 with
    | [d], _, a2 => exact .inr ⟨rfl, d, rfl, a2 0 d zv rfl rfl⟩
   grind
theorem ZhQ {q : Bool} {ds : List D} {v : Value} (h : VR w S q ds v) : RepA w S H m l (meA q ds) v := by
 rcases h with ⟨rfl, cs, rfl, h1, h2⟩ | ⟨rfl, d, rfl, h⟩
 ·refine .agg _ _ (by simp [h1]) (fun i u hu => ?_) (fun i x u hx hu => ?_)
  ·have hlt : i < ds.length := by rw [← h1]; exact (YD.1 hu).1
   exact (h2 i _ u (Yb hlt) hu).one
  ·rw [Yv] at hx
   obtain ⟨d, e1, rfl⟩ := YT.1 hx
   exact .d _ _ (h2 i d u e1 hu)
 ·exact .d _ _ h
def ZIm (w : World) (S : Nat → Prop) (q : Bool) (es : List (List D)) (v : Value) : Prop :=
 (v = .map none ∧ es = []) ∨ ∃ r ents clock, v = .map (some r) ∧ w.heap[r]? = some (.map ents clock) ∧ MEnt w S q es ents clock
theorem Zuh {x : AV} {v : Value} {q : Bool} {es : List (List D)} (h : ZlN H x = some (q, es)) (hx : RepA w S H m l x v) (hl : ∀ k g, x = .mp k g → k.1 ≤ l) (hO : MOk l H m S w) : ZIm w S q es v := by
 unfold ZlN at h
 split at h
 ·simp only [Ye, Y7] at h
  obtain ⟨rfl, rfl⟩ := h
  cases hx with
  | d _ _ hd =>
   cases v with
   | map r =>
    cases r with
    | none => cases hd; exact .inl ⟨rfl, rfl⟩
    | some r => obtain ⟨_, ents, clock, h1, h2⟩ := hd.toM; exact .inr ⟨r, ents, clock, rfl, h1, h2⟩
   | _ => cases hd
 ·rename_i k g
  split at h
  ·rename_i hg
   cases hx with
   | mpD _ _ _ hk hg' hd h1 => rw [hd hg.1] at hg; cases hg.2
   | mpL _ hk hlv =>
    split at h
    ·rename_i q' es' he
     simp only [Ye, Y7] at h
     obtain ⟨rfl, rfl⟩ := h
     have ho := hO.o k (hl k _ rfl) hlv
     rw [he] at ho
     obtain ⟨ents, clock, h1, h2⟩ := ho
     exact .inr ⟨_, ents, clock, rfl, h1, h2⟩
    ·cases h
  ·cases h
 ·cases h
theorem ZjM {t : TypeId} {x y : AV} {v u : Value} {ck : Bool} {K : AV → Prop} (h : Zf6 P H t x y ck K) (hx : RepA w S H m l x v) (hy : RepA w S H m l y u) (hO : MOk l H m S w) :
  ∃ v' x', (Instr.lookup t v u ck).run P w = .ok v' w ∧ RepA w S H m l x' v' ∧ K x' := by
 unfold Zf6 at h
 split at h
 ·rename_i q z q' es s hT hM
  obtain ⟨rfl, hK⟩ := h
  obtain ⟨kt, et, hu, hk, ha, hz⟩ := Zgu hT
  obtain ⟨zv, z1, z2⟩ := ZFr (w := w) (S := S) hz
  have hlv : ∀ k g, x = .mp k g → k.1 ≤ l := fun k g e => by subst e; cases hx <;> assumption
  have hm := Zuh hM hx hlv hO
  cases hy with
  | d _ _ hd =>
   cases hd
   have fin : ∀ (vv : Value) (ds : List D) (ok : Bool), VR w S q ds vv → RepA w S H m l (lkV ck q ds ok) (if ck = true then .tuple #[vv, .bool ok] else vv) := fun vv ds ok hv => by
    cases ck
    ·exact ZhQ hv
    ·refine .tup _ _ rfl (fun i x u hx hu => ?_)
     match i with
     | 0 => cases hx; cases hu; exact ZhQ hv
     | 1 => cases hx; cases hu; exact .d _ _ (.bool _)
     | i + 2 => simp at hx
   rcases hm with ⟨rfl, rfl⟩ | ⟨r, ents, clock, rfl, h1, h2⟩
   ·refine ⟨_, _, ?_, fin zv z false z2, hK⟩
    simp [Instr.lookup, run_underlying hu, MapKept.run_checkKey hk (show MapKept.IsKey .string (.string s) from trivial), MapKept.run_findKey hk (show Instr.findNow .string (.string s) [] 0 = some none from rfl), z1]
   ·rcases Zkx (w := w) (S := S) (q := q) (s := s) es ents.toList 0 (by simp [h2.n]) (fun i e x hi hx => h2.e i e x hi (by simpa using hx)) with ⟨a1, a2, _, _⟩ | ⟨j, x', ds, a1, a2, a3, a4, a5, a6, a7, a8⟩
    ·rw [a1] at hK
     refine ⟨_, _, ?_, fin zv z false z2, hK⟩
     simp [Instr.lookup, run_underlying hu, MapKept.run_getObj_map h1, MapKept.run_checkKey hk (show MapKept.IsKey .string (.string s) from trivial), MapKept.run_findKey hk a2, z1]
    ·rw [a5] at hK
     refine ⟨_, _, ?_, fin x'.val ds true a8, hK⟩
     simp [Instr.lookup, run_underlying hu, MapKept.run_getObj_map h1, MapKept.run_checkKey hk (show MapKept.IsKey .string (.string s) from trivial), MapKept.run_findKey hk a1]
 grind
theorem Zjb {t : TypeId} {x y : AV} {ck : Bool} {K K' : AV → Prop} (hk : ∀ v, K v → K' v) (h : Zf6 P H t x y ck K) : Zf6 P H t x y ck K' := by
 unfold Zf6 at h ⊢
 grind
theorem ZoS {t : TypeId} {x y : AV} {ck : Bool} {K : AV → Prop} (h : Zf6 P H t x y ck K) : ∃ v, Zf6 P H t x y ck (fun y => y = v) ∧ K v := by
 unfold Zf6 at h ⊢
 grind
end
end Go.Eng
