import Derived.Test.YtchkcemlglpobaaGreatCl03
import Derived.Still
import Derived.IntWalk
import Derived.Test.YtchkcemlglpobaaGreatCl00
namespace Go.Eng
set_option linter.all false
open Go Go.RowKit
def ZaU (o : Oper) : Bool := o.dst.isSome && match o.op with
 | .call c => match c.callee with
  | .value _ => true
  | .builtin .len | .builtin .min | .builtin .max => true
  | _ => false
 | .binOp _ _ _ y _ => !Ze4 y
 | .alloc _ | .box _ _ | .store _ _ _ | .buildSlice _ _ _ | .makeSlice _ _ _ | .makeMap _ _ | .range _ _ | .next _ _ | .entry _ => false
 | _ => true
def ZIE (o : Oper) : Bool := match o.op with
 | .buildSlice _ (_ + 1) _ => true
 | _ => false
def Zb9 (o : Oper) : Bool := ZaU o || (o.dst.isSome && ZIE o)
def ZLm (P : Program) (t : TypeId) (len : Nat) (ps : List (Nat × AV)) (v : AV) : Prop :=
 ∃ e sz z es, elm P t = some (e, sz) ∧ sz ≠ 0 ∧ (len + 1) * sz ≤ 16777216 ∧ zer P e = some z ∧ z.length = sz ∧ Zmu sz 0 ps = some es ∧ es.length = len + 1 ∧ v = .d (.list es)
def qV (P : Program) (l : Nat) (H : Hp) (o : Oper) (ρ : Operand → AV) (v : AV) : Prop :=
 match o.op with
 | .buildSlice t (len + 1) parts => ZLm P t len (parts.toList.map fun p => (p.1, ρ p.2)) v
 | .call c => match c.callee with
  | .value f => match ρ f with
   | .fn (.func g) first caps => ZbY P g (l + 1) (first ++ c.args.toList.map ρ ++ caps) H (fun y H' => y = v ∧ H' = H)
   | _ => False
  | _ => vOp P H o.op ρ (fun y => y = v)
 | _ => vOp P H o.op ρ (fun y => y = v)
def Zmw (P : Program) (l n : Nat) (o : Oper) (K : St → Prop) (σ : St) : Prop :=
 match o.op with
 | .buildSlice t (len + 1) parts => ∃ v, ZLm P t len (parts.toList.map fun p => (p.1, ev σ.s p.2)) v ∧ ZfI n o.dst K σ v
 | .call c => match c.callee with
  | .value f => match ev σ.s f with
   | .fn (.func g) first caps => ∃ r, ZbY P g (l + 1) (first ++ c.args.toList.map (ev σ.s) ++ caps) σ.H (fun y H' => y = r ∧ H' = σ.H) ∧ ZfI n o.dst K σ r
   | _ => False
  | _ => rOp P l n o K σ
 | _ => rOp P l n o K σ
def Zjq (P : Program) (l n : Nat) (ds : List (Option Nat)) : List Oper → (St → Prop) → St → Prop
 | [], K, σ => K σ
 | o :: rest, K, σ => match o.guard with
  | none => Zmw P l n o (Zjq P l n ds rest K) σ
  | some (i, b) => match grd σ.s ds i b with
   | some t => (t = true → Zmw P l n o (Zjq P l n ds rest K) σ) ∧ (t = false → match o.dst with | some d => d < n ∧ Zjq P l n ds rest K ⟨upd σ.s d (.tup []), σ.H⟩ | none => False)
   | none => False
section
variable {P : Program} {l n : Nat} {B : Base} {H : Hp} {K K' : AV → Prop} {t : TypeId} {x y : AV} {ρ ρ' : Operand → AV}
theorem Ziv {op : BinOp} {k : IntKind} {a b : Int} (h : ∀ v, K v → K' v) (hh : Znn op k a b K) : Znn op k a b K' := by
 cases op <;> simp only [Znn] at hh ⊢ <;> first | exact h _ hh | exact ⟨hh.1, h _ hh.2⟩ | exact hh
theorem Zir {op : BinOp} {a b : ByteArray} (h : ∀ v, K v → K' v) (hh : Zqh op a b K) : Zqh op a b K' := by
 cases op <;> simp only [Zqh] at hh ⊢ <;> first | exact h _ hh | exact ⟨hh.1, h _ hh.2⟩ | exact hh
theorem Zsl {op : BinOp} {k : IntKind} {a b : Int} (hh : Znn op k a b K) : ∃ v, Znn op k a b (fun y => y = v) ∧ K v := by
 cases op <;> simp only [Znn] at hh ⊢ <;> first | exact ⟨_, rfl, hh⟩ | exact ⟨_, ⟨hh.1, rfl⟩, hh.2⟩ | exact hh.elim
theorem Zs7 {op : BinOp} {a b : ByteArray} (hh : Zqh op a b K) : ∃ v, Zqh op a b (fun y => y = v) ∧ K v := by
 cases op <;> simp only [Zqh] at hh ⊢ <;> first | exact ⟨_, rfl, hh⟩ | exact ⟨_, ⟨hh.1, rfl⟩, hh.2⟩ | exact hh.elim
theorem Zro (h : ZeC P H t x K) : ∃ v, ZeC P H t x (fun y => y = v) ∧ K v := by
 unfold ZeC at h ⊢
 split at h
 ·grind
 ·grind
 grind
theorem ZgG {i : Nat} (h : ZaR P H t i x K) : ∃ v, ZaR P H t i x (fun y => y = v) ∧ K v := by
 unfold ZaR at h ⊢
 grind
theorem Zl6 {i : Nat} (h : Zds P t i x K) : ∃ v, Zds P t i x (fun y => y = v) ∧ K v := by
 unfold Zds at h ⊢
 split at h
 ·split at h
  ·grind
  grind
 grind
theorem ZgC (h : ZaJ P H t x y K) : ∃ v, ZaJ P H t x y (fun y => y = v) ∧ K v := by
 unfold ZaJ at h ⊢
 grind
theorem Zmg (h : ZdP P t x y K) : ∃ v, ZdP P t x y (fun y => y = v) ∧ K v := by
 unfold ZdP at h ⊢
 grind
theorem ZsY {op : BinOp} {xs ys : List AV} (h : ZrG P op t xs ys K) : ∃ v, ZrG P op t xs ys (fun y => y = v) ∧ K v := by
 unfold ZrG at h ⊢
 split at h
 ·grind
 grind
theorem ZsF {op : BinOp} (h : Zgw P H op t false x y K) : ∃ v, Zgw P H op t false x y (fun y => y = v) ∧ K v := by
 unfold Zgw at h ⊢
 split at h
 ·obtain ⟨v, h1, h2⟩ := Zsl h.2; exact ⟨v, ⟨h.1, h1⟩, h2⟩
 ·exact Zs7 h
 ·grind
 ·exact ZsY h
 ·cases h.1
 grind
theorem ZzW {op : UnOp} (h : vUn op x K) : ∃ v, vUn op x (fun y => y = v) ∧ K v := by
 unfold vUn at h ⊢
 grind
theorem ZnR {u : TypeId} (h : ZeZ P t u x K) : ∃ v, ZeZ P t u x (fun y => y = v) ∧ K v := by
 unfold ZeZ at h ⊢
 grind
theorem ZlR {lo hi : Option AV} {mx : Bool} (h : Zc3 P H t x lo hi mx K) : ∃ v, Zc3 P H t x lo hi mx (fun y => y = v) ∧ K v := by
 unfold Zc3 at h ⊢
 grind
theorem Ztr (h : Zjp P H t x K) : ∃ v, Zjp P H t x (fun y => y = v) ∧ K v := by
 unfold Zjp at h ⊢
 grind
theorem Zmf {ps : List (Nat × AV)} (h : ZdQ P t ps K) : ∃ v, ZdQ P t ps (fun y => y = v) ∧ K v := by
 unfold ZdQ at h ⊢
 grind
theorem Zza {op : Op} (hq : ∀ o t x y u, op = .binOp o t x y u → Ze4 y = false) (h : vOp P H op ρ K) : ∃ v, vOp P H op ρ (fun y => y = v) ∧ K v := by
 cases op <;> simp only [vOp] at h ⊢ <;> try exact h.elim
 case move x => exact ⟨_, rfl, h⟩
 case assign x => exact ⟨_, rfl, h⟩
 case pick c a b =>
  split at h
  ·grind
  ·grind
 case load => exact Zro h
 case fieldAddr => exact ZgG h
 case field => exact Zl6 h
 case indexAddr => exact ZgC h
 case index => exact Zmg h
 case extract =>
  split at h
  ·grind
  ·grind
 case binOp o t x y u =>
  rw [hq _ _ _ _ _ rfl] at h ⊢
  exact ZsF h
 case unOp => exact ZzW h
 case convert => exact ZnR h
 case nilCheck =>
  unfold ZvG at h ⊢
  split at h
  ·grind
  ·grind
  ·grind
 case makeFunc => exact ⟨_, rfl, h⟩
 case makeInterface =>
  obtain ⟨h0, h⟩ := h
  repeat' split at h
  all_goals first | exact h.elim | exact ⟨_, ⟨h0, rfl⟩, h⟩
 case typeAssert =>
  obtain ⟨h0, h⟩ := h
  repeat' split at h
  all_goals first | exact h.elim | exact ⟨_, ⟨h0, h.1, rfl⟩, h.2⟩
 case slice => exact ZlR h
 case build => exact Zmf h
 case lookup => exact ZoS h
 case call c =>
  split at h
  ·obtain ⟨v, h1, h2⟩ := Ztr h.2; exact ⟨v, ⟨h.1, h1⟩, h2⟩
  ·split at h
   ·unfold vMM at h ⊢
    grind
   ·unfold ZrK at h ⊢
    grind
   grind
  ·grind
theorem Zkj {op : Op} (hq : ∀ o t x y u, op = .binOp o t x y u → Ze4 y = false) {v : AV} (hv : K v) (h : vOp P H op ρ (fun y => y = v)) : vOp P H op ρ K := by
 have : (fun y => y = v) = (fun y => y = v ∧ K v) := by funext y; simp [hv]
 rw [this] at h
 clear this hv
 cases op <;> simp only [vOp] at h ⊢ <;> try exact h.elim
 case move x => exact h.1 ▸ h.2
 case assign x => exact h.1 ▸ h.2
 case pick c a b =>
  split at h
  ·grind
  ·grind
 case load t x =>
  unfold ZeC at h ⊢
  split at h
  ·grind
  ·grind
  ·grind
 case fieldAddr =>
  unfold ZaR at h ⊢
  split at h
  ·grind
  ·grind
  ·grind
 case field =>
  unfold Zds at h ⊢
  split at h
  ·split at h
   ·grind
   grind
  ·grind
 case indexAddr =>
  unfold ZaJ at h ⊢
  split at h
  ·grind
  ·grind
  ·grind
 case index =>
  unfold ZdP at h ⊢
  split at h
  ·grind
  ·grind
 case makeInterface =>
  refine ⟨h.1, ?_⟩
  replace h := h.2
  repeat' split at h
  all_goals first | exact h.elim | exact h.1 ▸ h.2
 case typeAssert =>
  refine ⟨h.1, ?_⟩
  replace h := h.2
  repeat' split at h
  all_goals first | exact h.elim | exact ⟨h.1, h.2.1 ▸ h.2.2⟩
 case extract =>
  split at h
  ·grind
  ·grind
 case binOp o t x y u =>
  rw [hq _ _ _ _ _ rfl] at h ⊢
  unfold Zgw at h ⊢
  split at h
  ·exact ⟨h.1, Ziv (fun y (hy : y = v ∧ K v) => hy.1 ▸ hy.2) h.2⟩
  ·exact Zir (fun y (hy : y = v ∧ K v) => hy.1 ▸ hy.2) h
  ·grind
  ·unfold ZrG at h ⊢
   split at h
   ·split at h
    ·grind
    grind
   grind
  ·cases h.1
  ·grind
 case unOp =>
  unfold vUn at h ⊢
  split at h <;> grind
 case nilCheck =>
  unfold ZvG at h ⊢
  split at h
  ·grind
  ·grind
  ·grind
 case convert =>
  unfold ZeZ at h ⊢
  split at h
  ·grind
  ·grind
  ·grind
 case makeFunc => exact h.1 ▸ h.2
 case slice =>
  unfold Zc3 at h ⊢
  split at h
  ·grind
  ·grind
  ·grind
  ·grind
 case build =>
  unfold ZdQ at h ⊢
  split at h
  ·grind
  ·grind
 case lookup => exact Zjb (fun y (hy : y = v ∧ K v) => hy.1 ▸ hy.2) h
 case call c =>
  split at h
  ·refine ⟨h.1, ?_⟩
   replace h := h.2
   unfold Zjp at h ⊢
   grind
  ·split at h
   ·unfold vMM at h ⊢
    grind
   ·unfold ZrK at h ⊢
    grind
   grind
  ·grind
theorem Zhq {o : Oper} (h : Zb9 o = true) (hb : ∀ t len ps, o.op = .buildSlice t (len + 1) ps → False) : ZaU o = true := by
 unfold Zb9 at h
 rw [Bool.or_eq_true] at h
 rcases h with h | h
 ·exact h
 ·exfalso
  unfold ZIE at h
  split at h
  ·rename_i e; exact hb _ _ _ e
  ·simp at h
theorem Zgb {o : Oper} (hq : Zb9 o = true) : ∀ b t x y u, o.op = .binOp b t x y u → Ze4 y = false := by
 intro b t x y u h
 simp only [Zb9, ZIE, ZaU, h, Bool.and_false, Bool.or_false, Bool.and_eq_true, Bool.not_eq_true'] at hq
 exact hq.2
theorem Zla {o : Oper} {v : AV} (h : ∀ x ∈ o.op.operands, ρ x = ρ' x) (hh : qV P l H o ρ v) : qV P l H o ρ' v := by
 obtain ⟨dst, op, type, pos, after, guard⟩ := o
 have arr : ∀ aZ : Array Operand, (∀ x ∈ aZ, ρ x = ρ' x) → aZ.toList.map ρ = aZ.toList.map ρ' := fun aZ ha => YR fun x hx => ha x (by simpa using hx)
 cases op <;> simp only [Op.operands] at h <;> simp only [qV, vOp] at hh ⊢ <;> try exact hh
 case call c =>
  have ha : c.args.toList.map ρ = c.args.toList.map ρ' := arr _ fun x hx => h x (by simp [Call.operands, hx])
  cases hc : c.callee with
  | value f =>
   have hf : ρ f = ρ' f := h f (by simp [Call.operands, hc])
   grind
  | invoke r m => simp only [hc] at hh
  | builtin b =>
   simp only [hc] at hh ⊢
   split at hh
   ·rename_i x t hb h0 h1
    rw [← h x (by simp [Call.operands, hc, Ybg h0])]
    exact hh
   ·grind
   grind
 case build t ps =>
  have : (ps.toList.map fun p => (p.1, ρ p.2)) = ps.toList.map fun p => (p.1, ρ' p.2) := YR fun p hp => by
   grind
  rw [← this]; exact hh
 case buildSlice t n ps =>
  cases n with
  | zero => exact hh
  | succ n =>
   have : (ps.toList.map fun p => (p.1, ρ p.2)) = ps.toList.map fun p => (p.1, ρ' p.2) := YR fun p hp => by
    grind
   simp only at hh ⊢
   rw [← this]; exact hh
 case makeFunc fn first caps =>
  rw [← arr first fun x hx => h x (by simp [hx]), ← arr caps fun x hx => h x (by simp [hx])]; exact hh
 case slice t x lo hi mx =>
  rw [← h x (by simp), show lo.map ρ' = lo.map ρ from by cases lo <;> simp_all, show hi.map ρ' = hi.map ρ from by cases hi <;> simp_all]; exact hh
 all_goals (first | (simp_all; done))
theorem Zlt {o : Oper} {s : Nat → AV} {K : St → Prop} (hq : Zb9 o = true) (h : Zmw P l n o K ⟨s, H⟩) : ∃ d v, o.dst = some d ∧ d < n ∧ qV P l H o (ev s) v ∧ K ⟨upd s d v, H⟩ := by
 have hd : ∃ d, o.dst = some d := by
  have : o.dst.isSome = true := by
   unfold Zb9 ZaU at hq
   rw [Bool.or_eq_true, Bool.and_eq_true, Bool.and_eq_true] at hq
   rcases hq with h | h
   ·exact h.1
   ·exact h.1
  exact YI.1 this
 obtain ⟨d, hd⟩ := hd
 have plain : vOp P H o.op (ev s) (ZfI n o.dst K ⟨s, H⟩) → (∀ v, vOp P H o.op (ev s) (fun y => y = v) → qV P l H o (ev s) v) → ∃ d v, o.dst = some d ∧ d < n ∧ qV P l H o (ev s) v ∧ K ⟨upd s d v, H⟩ := fun h hv => by
  obtain ⟨v, h1, h2⟩ := Zza (Zgb hq) h
  rw [hd] at h2
  exact ⟨d, v, hd, h2.1, hv v h1, h2.2⟩
 unfold Zmw at h
 split at h
 ·rename_i hop
  obtain ⟨v, h1, h2⟩ := h
  rw [hd] at h2
  refine ⟨d, v, hd, h2.1, ?_, h2.2⟩
  unfold qV
  rw [hop]
  exact h1
 ·rename_i c hc
  replace hq : ZaU o = true := Zhq hq fun t n ps e => by rw [hc] at e; cases e
  split at h
  ·rename_i f hf
   simp only [] at h
   split at h
   ·rename_i g first caps hg
    obtain ⟨r, h1, h2⟩ := h
    rw [hd] at h2
    refine ⟨d, r, hd, h2.1, ?_, h2.2⟩
    simp only [qV, hc, hf, hg]
    exact h1
   ·exact h.elim
  ·rename_i hf
   refine plain ?_ ?_
   ·unfold rOp at h
    simp only [hc] at h
    simp only [ZaU, hc, Bool.and_eq_true] at hq
    split at h
    ·rename_i f hf'; exact absurd hf' (hf f)
    ·rename_i hb; rw [hb] at hq; simp at hq
    ·rw [hc]; exact h
   ·intro v hv
    unfold qV
    rw [hc] at hv ⊢
    cases hcal : c.callee with
    | value f => exact absurd hcal (hf f)
    | _ => simpa [hcal] using hv
 ·rename_i hb hc
  replace hq : ZaU o = true := Zhq hq fun t n ps e => hb _ _ _ e
  refine plain ?_ ?_
  ·unfold rOp at h
   split at h
   ·rename_i he; simp [ZaU, he] at hq
   ·rename_i he; simp [ZaU, he] at hq
   ·rename_i he; simp [ZaU, he] at hq
   ·rename_i he; simp [ZaU, he] at hq
   ·rename_i he; simp [ZaU, he] at hq
   ·rename_i c he; exact absurd he (hc c)
   ·exact h
  ·intro v hv
   unfold qV
   split
   ·rename_i he; exact absurd he (hb _ _ _)
   ·rename_i c he; exact absurd he (hc c)
   ·exact hv
theorem ZFY {o : Oper} {s : Nat → AV} {v : AV} {d : Nat} (hq : Zb9 o = true) (hd : o.dst = some d) (hdn : d < n) (h : qV P l H o (ev s) v) : AOp P l n B o (fun σ' => σ' = ⟨upd s d v, H⟩) ⟨s, H⟩ := by
 unfold qV at h
 split at h
 ·rename_i t len parts hop
  obtain ⟨e, sz, z, es, h1, h2, h3, h4, h5, h6, h7, rfl⟩ := h
  exact Zfa hop hd h1 h2 h3 h4 h5 h6 h7 hdn rfl
 ·rename_i c hc
  split at h
  ·rename_i f hf
   split at h
   ·rename_i g first caps hg
    refine ZkD hc hf hg (h.mono fun r H' ⟨h1, h2⟩ => ?_)
    subst h1; subst h2
    rw [hd]
    exact ⟨hdn, rfl⟩
   grind
  ·rename_i hf
   exact ZhY (Zkj (Zgb hq) (by rw [hd]; exact ⟨hdn, rfl⟩) h)
 ·exact ZhY (Zkj (Zgb hq) (by rw [hd]; exact ⟨hdn, rfl⟩) h)
end
section
variable {P : Program} {l n : Nat} {B : Base} {H : Hp} {ops : Array Oper} {md : Region.Mode} {Q : (Nat → AV) → Prop}
def YA (P : Program) (l : Nat) (H : Hp) (ops : Array Oper) (o : Oper) (s : Nat → AV) (v : AV) : Prop :=
 match o.guard with
 | none => qV P l H o (ev s) v
 | some (i, b) => match grd s (ops.toList.map (·.dst)) i b with
  | some t => (t = true → qV P l H o (ev s) v) ∧ (t = false → v = .tup [])
  | none => False
theorem Zwb {o : Oper} {s : Nat → AV} {v u : AV} {d : Nat} (hd : d ∉ o.looksAt ops) (h : YA P l H ops o (upd s d u) v) : YA P l H ops o s v := by
 have hev : ∀ x ∈ o.op.operands, ev (upd s d u) x = ev s x := fun x hx => by
  cases x with
  | tmp t =>
   have hne : t ≠ d := fun e => hd (by
    subst e
    exact Y6 _ (List.mem_filterMap.2 ⟨.tmp t, by simpa using hx, rfl⟩))
   simp [ev, upd, hne]
  | _ => rfl
 unfold YA at *
 cases hg : o.guard with
 | none => simp only [hg] at h ⊢; exact Zla hev h
 | some gw =>
  obtain ⟨i, b⟩ := gw
  simp only [hg] at h ⊢
  have hgrd : grd (upd s d u) (ops.toList.map (·.dst)) i b = grd s (ops.toList.map (·.dst)) i b := by
   unfold grd
   simp only [Yv, Yi]
   cases ho : ops[i]? with
   | none => rfl
   | some oi =>
    cases hdi : oi.dst with
    | none => simp [hdi]
    | some t =>
     have hne : t ≠ d := fun e => hd (by subst e; simp [Oper.looksAt, hg, ho, hdi])
     simp [hdi, upd, hne]
  rw [hgrd] at h
  split at h
  ·rename_i t ht
   exact ⟨fun e => Zla hev (h.1 e), h.2⟩
  ·exact h
theorem Zy0 {o : Oper} {s : Nat → AV} {v u : AV} {d : Nat} (hd : d ∉ o.looksAt ops) (h : YA P l H ops o s v) : YA P l H ops o (upd s d u) v := by
 refine Zwb (d := d) (u := s d) hd ?_
 have : upd (upd s d u) d (s d) = s := by funext j; unfold upd; split <;> simp_all
 grind
theorem ZrX {s : Nat → AV} {d e : Nat} {u v : AV} (h : d ≠ e) : upd (upd s d u) e v = upd (upd s e v) d u := by
 funext j
 unfold upd
 grind
end
end Go.Eng
namespace Go.Eng
set_option linter.all false
open Go Go.RowKit
def ZD8 (P : Program) (t : TypeId) (i : Nat) : Option (Nat × Nat × Bool) :=
 match P.underlying t with
 | some (.struct fs) => (fs[i]?).bind fun f => (Zjh P f.type).map fun b => (f.offset, P.cellsOf f.type, b)
 | _ => none
def ZEu (o : Option (Nat × Nat × Bool)) (x : AV) (K : AV → Prop) : Prop :=
 match o, x with
 | some (o, n, true), .agg cs => n ≠ 0 ∧ K (.agg ((cs.drop o).take n))
 | some (o, _, false), .agg cs => (match cs[o]? with | some c => K c | none => False)
 | _, _ => False
theorem Zps {P : Program} {t : TypeId} {i : Nat} {x : AV} {K : AV → Prop} : Zds P t i x K = ZEu (ZD8 P t i) x K := by
 unfold Zds ZD8
 cases x with
 | agg cs =>
  cases hu : P.underlying t with
  | none => rfl
  | some d =>
   cases d with
   | struct fs =>
    simp only
    cases hf : fs[i]? with
    | none => rfl
    | some f =>
     simp only [Yn]
     cases ha : Zjh P f.type with
     | none => rfl
     | some b => cases b <;> rfl
   | _ => rfl
 | _ =>
  have e : ∀ (o : Option (Nat × Nat × Bool)) (y : AV), (∀ cs, y ≠ .agg cs) → ZEu o y K = False := fun o y h => by
   unfold ZEu
   grind
  grind
structure fins (P : Program) (l : Nat) (H : Hp) (rs : List ResultVar) (Post : AV → Hp → Prop) (e : Exit) (σ : St) : Prop where
 he : e = .normal ∨ e = .ret
 hy : Zlk P σ rs (fun xs => ∃ y, Fz σ.H l (ZiI xs) y ∧ Post y (mrg l σ.H H))
inductive Fit : D → Prop
 | int (k : IntKind) (n : Int) : Fit (.int k n)
 | bool (b : Bool) : Fit (.bool b)
 | str (s : ByteArray) (h : s.size < 2147483648) : Fit (.str s)
 | list (es : List (List D)) (hl : es.length < 2147483648) (h : ∀ e ∈ es, ∀ x ∈ e, Fit x) : Fit (.list es)
def ZzA (l : List D) : Prop := ∀ d ∈ l, Fit d
theorem Fit.len {α : Type} {e : α → List D} {xs : List α} (h : Fit (.list (xs.map e))) : xs.length < 2147483648 := by
 cases h with | list _ hl h => simpa using hl
theorem Fit.mem {α : Type} {e : α → List D} {xs : List α} (h : Fit (.list (xs.map e))) {x : α} (hx : x ∈ xs) : ZzA (e x) := by
 cases h with | list _ hl h => exact h _ (Yao hx)
theorem Fit.el {α : Type} {e : α → List D} {xs : List α} (h : Fit (.list (xs.map e))) {i : Nat} {x : α} (hx : xs[i]? = some x) : ZzA (e x) := h.mem (Yj hx)
theorem ZzA.at {l : List D} (h : ZzA l) (i : Nat) {d : D} (hi : l[i]? = some d) : Fit d := h d (Yj hi)
theorem ZzA.sub {l : List D} (h : ZzA l) (i n : Nat) {m : List D} (hi : (l.drop i).take n = m) : ZzA m := by
 subst hi
 exact fun d hd => h d (List.mem_of_mem_drop (List.mem_of_mem_take hd))
def nrm : AV → AV
 | .e0 => .d (.list [])
 | .agg xs => .agg (xs.map fun x => match x with | .e0 => .d (.list []) | x => x)
 | x => x
section
variable {P : Program} {l n : Nat} {B : Base} {H H' : Hp} {K : St → Prop} {σ σ' : St} {Q : Exit → St → Prop} {s : Nat → AV} {ds : List (Option Nat)} {d : Option Nat} {op : Op} {ty : TypeId} {ps : String} {af : Array Edge} {rest : List Oper}
 {g : Option (Nat × Bool)} {x y : Operand} {t : TypeId}
theorem Zhl {a b : Code} (h : AWp P l n B a (ZDG (AWp P l n B b Q) Q) σ) : AWp P l n B (.seq a b) Q σ := Zz1 fun _ hK => ZcD h fun e σ' h => by
 cases e <;> first | exact hK σ' h | exact h
theorem Zsv {f : FuncId} {fn : Func} (rs : List ResultVar) {c : Code} {xs : List AV} {Post : AV → Hp → Prop} (hf : P.funcs[f]? = some fn) (hb : fn.body = some c) (hname : (fn.name == "runtime.NumGoroutine") = false)
  (hn : fn.ntmps = n) (hr : fn.results.toList = rs) (hx : xs.length ≤ n) (h : ∀ B : Base, AWp P l n B c (fins P l H rs Post) ⟨args xs, clr l H⟩) : ZbY P f l xs H Post := by
 refine Ztx hf hb hname hn hx fun B => ZcD (h B) fun e σ hq => ?_
 unfold ZKY
 rw [hr]
 exact ⟨hq.he, hq.hy⟩
theorem Fz.data {xs : List D} : Fz H' l (.agg (xs.map .d)) (.agg (xs.map .d)) :=
 .agg _ _ rfl fun i x y hx hy => by
  rw [hx] at hy; cases hy
  rw [Yv] at hx
  cases hi : xs[i]? with
  | none => rw [hi] at hx; cases hx
  | some d => rw [hi] at hx; cases hx; exact .keep _ rfl
theorem Fz.pure {xs : List AV} {ds : List D} (h : Zdg xs = some ds) : Fz H' l (.agg xs) (.agg (ds.map .d)) :=
 .agg _ _ (by rw [Yu]; exact ZfK h) fun i x y hx hy => by
  rw [Yv] at hy
  cases hi : ds[i]? with
  | none => rw [hi] at hy; cases hy
  | some d =>
   rw [hi] at hy; cases hy
   have := ZkY h hx hi
   cases x <;> simp only [Zeh] at this <;> cases this
   ·exact .keep _ rfl
   ·exact .e0
theorem Fz.d' {x : AV} {y : D} (h : x = .d y) : Fz H' l x (.d y) := by subst h; exact .keep _ rfl
theorem Fz.two {x y x' y' : AV} (hx : Fz H' l x x') (hy : Fz H' l y y') : Fz H' l (ZiI [x, y]) (.tup [x', y']) :=
 .tup _ _ rfl fun i a b ha hb => by
  match i with
  | 0 => cases ha; cases hb; exact hx
  | 1 => cases ha; cases hb; exact hy
  | i + 2 => simp at ha
theorem Fz.one {x x' : AV} (hx : Fz H' l x x') : Fz H' l (ZiI [x]) x' := hx
theorem RepA.nrm {S : Nat → Prop} {m : Mu} {w : World} {x : AV} {v : Value} (h : RepA w S H m l x v) : RepA w S H m l (nrm x) v := by
 cases x with
 | e0 => exact h.e0_d
 | agg xs =>
  cases h with
  | agg _ vs hx h1 h =>
   refine .agg _ _ (by simpa using hx) h1 (fun i y v hy hv => ?_)
   rw [Yv] at hy
   cases hi : xs[i]? with
   | none => rw [hi] at hy; cases hy
   | some x =>
    rw [hi] at hy
    simp only [YC, Ye] at hy
    subst hy
    have := h i x v hi hv
    split
    ·exact this.e0_d
    grind
 | _ => exact h
theorem ZbY.nrm {f : FuncId} {xs : List AV} {Post : AV → Hp → Prop} (h : ZbY P f l (xs.map nrm) H Post) : ZbY P f l xs H Post :=
 ⟨h.1, fun m S w vs hO ha => h.2 m S w vs hO ⟨by simpa using ha.1, fun i x v hx hv => by
  rw [Yv] at hx
  cases hi : xs[i]? with
  | none => rw [hi] at hx; cases hx
  | some y =>
   rw [hi] at hx
   simp only [YC, Ye] at hx
   subst hx
   exact (ha.2 i y v hi hv).nrm⟩⟩
end
def ZiH : List Operand → List Nat
 | [] => []
 | .tmp t :: r => t :: ZiH r
 | _ :: r => ZiH r
def ZBc : List (Option Nat) → Nat → Option Nat
 | [], _ => none
 | x :: _, 0 => x
 | _ :: r, i + 1 => ZBc r i
def Zfi (ds : List (Option Nat)) (o : Oper) : List Nat :=
 ZiH o.op.operands.toList ++ match o.guard with
  | some (g, _) => (match ZBc ds g with | some d => [d] | none => [])
  | none => []
def Zfj : List (Nat × Nat) → Nat → Option Nat
 | [], _ => none
 | (d, k) :: r, t => match Nat.beq d t with | true => some k | false => Zfj r t
def onE (o : Oper) (i : Nat) : Bool := o.after.toList.any fun e => Region.binds .any e && Nat.beq e.on i
def clear (o : Oper) (d : Nat) : List (Nat × Nat) → Bool
 | [] => true
 | (t, i) :: r => (match Nat.beq t d with | true => onE o i | false => true) && clear o d r
theorem Zk9 {o : Oper} {d i : Nat} : ∀ {l : List (Nat × Nat)}, clear o d l = true → (d, i) ∈ l → onE o i = true
 | [], _, h => by cases h
 | (t, j) :: r, hc, h => by
  simp only [clear, Bool.and_eq_true] at hc
  rcases Ys.1 h with h | h
  ·cases h
   have := hc.1
   rw [Ya4] at this
   exact this
  ·exact Zk9 hc.2 h
def Zl2 (ds : List (Option Nat)) : Nat → List (Nat × Nat) → List (Nat × Nat) → List Oper → Bool
 | _, _, _, [] => true
 | k, seen, looked, o :: r =>
  (o.after.toList.all fun e => !Region.binds .any e || Nat.ble (e.on + 1) k) &&
  ((Zfi ds o).all fun t => match Zfj seen t with | some i => onE o i | none => true) &&
  match o.dst with
  | some d => (Zfj seen d).isNone && clear o d looked && Zl2 ds (k + 1) ((d, k) :: seen) ((Zfi ds o).map (·, k) ++ looked) r
  | none => Zl2 ds (k + 1) seen ((Zfi ds o).map (·, k) ++ looked) r
def ZrT : List Oper → Bool
 | [] => true
 | o :: r => (match o.op with | .select _ _ => false | _ => true) && ZrT r
def ZsW (ops : List Oper) : Bool := ZrT ops && Zl2 (ops.map (·.dst)) 0 [] [] ops
theorem ZnO (xs : List Operand) : ZiH xs = xs.filterMap fun | .tmp t => some t | _ => none := by
 induction xs with
 | nil => rfl
 | cons x xs ih => cases x <;> simp [ZiH, ih]
theorem ZmA : ∀ (ds : List (Option Nat)) (i : Nat), ZBc ds i = (ds[i]?).join
 | [], i => by simp [ZBc]
 | x :: r, 0 => by simp [ZBc]
 | x :: r, i + 1 => by simp [ZBc, ZmA r i]
theorem Zk7 (ops : List Oper) (o : Oper) : Zfi (ops.map (·.dst)) o = o.looksAt ops.toArray := by
 unfold Zfi Oper.looksAt
 rw [ZnO]
 congr 1
 cases hg : o.guard with
 | none => rfl
 | some gb =>
  obtain ⟨g, b⟩ := gb
  simp only
  rw [ZmA, Yv]
  simp only [Ybh]
  cases ops[g]? with
  | none => rfl
  | some o' => simp only [YC, Option.join_some, Yn]; cases o'.dst <;> rfl
structure FInv (ds : List (Option Nat)) (pre : List Oper) (seen : List (Nat × Nat)) (looked : List (Nat × Nat)) : Prop where
 s1 : ∀ d i, Zfj seen d = some i → ∃ o, pre[i]? = some o ∧ o.dst = some d
 s2 : ∀ (i : Nat) (o : Oper) (d : Nat), pre[i]? = some o → o.dst = some d → Zfj seen d = some i
 lo : ∀ (i : Nat) (o : Oper), pre[i]? = some o → ∀ t ∈ Zfi ds o, (t, i) ∈ looked
def Zkt (ds : List (Option Nat)) (x y : Oper) : Prop := (∀ d, x.dst = some d → d ∉ Zfi ds y ∧ y.dst ≠ some d) ∧ (∀ d, y.dst = some d → d ∉ Zfi ds x)
theorem Zf8 (ds : List (Option Nat)) : ∀ (rest pre : List Oper) (seen looked : List (Nat × Nat)), FInv ds pre seen looked → Zl2 ds pre.length seen looked rest = true →
  ∀ (j : Nat) (oj : Oper), rest[j]? = some oj → (∀ e ∈ oj.after, Region.binds .any e = true → e.on < pre.length + j) ∧
   ∀ (i : Nat) (oi : Oper), i < pre.length + j → (pre ++ rest)[i]? = some oi → onE oj i = true ∨ Zkt ds oi oj
 | [], pre, seen, looked, hI, h, j, oj, hj => by simp at hj
 | o :: r, pre, seen, looked, hI, h, j, oj, hj => by
  simp only [Zl2, Bool.and_eq_true] at h
  obtain ⟨⟨h1, h2⟩, h3⟩ := h
  cases j with
  | zero =>
   simp only [YG, Ye] at hj
   subst hj
   refine ⟨fun e he hb => ?_, fun i oi hi ho => ?_⟩
   ·have := Yh.1 h1 e (by simpa using he)
    simp only [hb, YaD, YaE] at this
    have := Yc this
    omega
   ·rw [Yg (by omega)] at ho
    by_cases hon : onE o i = true
    ·exact .inl hon
    ·right
     refine ⟨fun d hd => ⟨fun hm => ?_, fun hd' => ?_⟩, fun d hd hm => ?_⟩
     ·have := Yh.1 h2 d hm
      rw [hI.s2 i oi d ho hd] at this
      exact hon this
     ·rw [hd'] at h3
      simp only [Bool.and_eq_true] at h3
      have := h3.1.1
      rw [hI.s2 i oi d ho hd] at this
      cases this
     ·rw [hd] at h3
      simp only [Bool.and_eq_true] at h3
      exact hon (Zk9 h3.1.2 (hI.lo i oi ho d hm))
  | succ j =>
   simp only [YY] at hj
   have hlook : ∀ (seen' : List (Nat × Nat)), (∀ d i, Zfj seen' d = some i → ∃ o', (pre ++ [o])[i]? = some o' ∧ o'.dst = some d) → (∀ (i : Nat) (o' : Oper) (d : Nat), (pre ++ [o])[i]? = some o' → o'.dst = some d → Zfj seen' d = some i) →
     FInv ds (pre ++ [o]) seen' ((Zfi ds o).map (·, pre.length) ++ looked) := fun seen' a b => ⟨a, b, fun i o' ho t ht => by
    rcases YaC i pre.length with hlt | heq | hgt
    ·rw [Yg hlt] at ho; exact List.mem_append_right _ (hI.lo i o' ho t ht)
    ·subst heq; simp at ho; subst ho; exact Y6 _ (Yy.2 ⟨t, ht, rfl⟩)
    ·rw [Yx (by simp; omega)] at ho; cases ho⟩
   have fin : ∀ seen', FInv ds (pre ++ [o]) seen' ((Zfi ds o).map (·, pre.length) ++ looked) → Zl2 ds (pre.length + 1) seen' ((Zfi ds o).map (·, pre.length) ++ looked) r = true → _ := fun seen' hI' hg =>
    Zf8 ds r (pre ++ [o]) seen' ((Zfi ds o).map (·, pre.length) ++ looked) hI' (by simpa using hg) j oj hj
   have conv : (∀ e ∈ oj.after, Region.binds .any e = true → e.on < (pre ++ [o]).length + j) ∧ (∀ (i : Nat) (oi : Oper), i < (pre ++ [o]).length + j → (pre ++ [o] ++ r)[i]? = some oi → onE oj i = true ∨ Zkt ds oi oj) →
     (∀ e ∈ oj.after, Region.binds .any e = true → e.on < pre.length + (j + 1)) ∧ (∀ (i : Nat) (oi : Oper), i < pre.length + (j + 1) → (pre ++ o :: r)[i]? = some oi → onE oj i = true ∨ Zkt ds oi oj) := by
    rintro ⟨a, b⟩
    simp only [Yr, YZ, Yaf, YW, YaF, Yag] at a b
    exact ⟨fun e he hb => by have := a e he hb; omega, fun i oi hi ho => b i oi (by omega) ho⟩
   split at h3
   ·rename_i d hd
    simp only [Bool.and_eq_true] at h3
    obtain ⟨⟨h4, h5⟩, h6⟩ := h3
    have hnone : Zfj seen d = none := by cases hf : Zfj seen d with | none => rfl | some i => rw [hf] at h4; cases h4
    refine conv (fin _ (hlook ((d, pre.length) :: seen) (fun d' i hf => ?_) (fun i o' d' ho hd' => ?_)) h6)
    ·simp only [Zfj] at hf
     split at hf
     ·rename_i he; cases hf; rw [← Ya he]; exact ⟨o, by simp, hd⟩
     ·obtain ⟨o', a, b⟩ := hI.s1 d' i hf
      refine ⟨o', ?_, b⟩
      rw [Yg]; exact a
      rcases Yo i pre.length with hlt | hge
      ·exact hlt
      ·rw [Yx hge] at a; cases a
    ·simp only [Zfj]
     rcases YaC i pre.length with hlt | heq | hgt
     ·rw [Yg hlt] at ho
      have := hI.s2 i o' d' ho hd'
      split
      ·rename_i he
       rw [← Ya he, hnone] at this; cases this
      ·exact this
     ·subst heq; simp at ho; subst ho; rw [hd] at hd'; cases hd'; simp
     ·rw [Yx (by simp; omega)] at ho; cases ho
   ·rename_i hd
    refine conv (fin _ (hlook seen (fun d' i hf => ?_) (fun i o' d' ho hd' => ?_)) h3)
    ·obtain ⟨o', a, b⟩ := hI.s1 d' i hf
     refine ⟨o', ?_, b⟩
     rw [Yg]; exact a
     rcases Yo i pre.length with hlt | hge
     ·exact hlt
     ·rw [Yx hge] at a; cases a
    ·rcases YaC i pre.length with hlt | heq | hgt
     ·rw [Yg hlt] at ho; exact hI.s2 i o' d' ho hd'
     ·subst heq; simp at ho; subst ho; rw [hd] at hd'; cases hd'
     ·rw [Yx (by simp; omega)] at ho; cases ho
theorem ZiW {ops : List Oper} {x y : Oper} (h : Zkt (ops.map (·.dst)) x y) : x.apart ops.toArray y = true := by
 obtain ⟨h1, h2⟩ := h
 rw [Zk7] at h2
 have h1' : ∀ d, x.dst = some d → d ∉ y.looksAt ops.toArray ∧ y.dst ≠ some d := fun d hd => by have := h1 d hd; rw [Zk7] at this; exact this
 unfold Oper.apart
 grind
theorem Zg9 {ops : Array Oper} (h1 : ∀ (j : Nat) (oj : Oper), ops[j]? = some oj → ∀ e ∈ oj.after, Region.binds .any e = true → e.on < j)
  (h2 : ∀ (i j : Nat) (oi oj : Oper), i < j → ops[i]? = some oi → ops[j]? = some oj → onE oj i = true ∨ oi.apart ops oj = true) :
  ∀ (fuel k : Nat) (listed : Array Bool), fuel + k = ops.size → listed.size = ops.size → (∀ j, j < ops.size → listed[j]? = some (decide (j < k))) → Region.lexFrom .any ops fuel k listed = true
 | 0, k, listed, hf, hs, hl => by
  simp only [Region.lexFrom]
  rw [List.isEmpty_iff, Region.ready, Ybf]
  intro i hi
  have hi := Yat.1 hi
  have := hl i hi
  simp [Ym, this]
  omega
 | fuel + 1, k, listed, hf, hs, hl => by
  have hk : k < ops.size := by omega
  have hok : ops[k]? = some ops[k] := Yf hk
  simp only [Region.lexFrom, Bool.and_eq_true]
  refine ⟨⟨?_, ?_⟩, Zg9 h1 h2 fuel (k + 1) _ (by omega) (by simp [hs]) (fun j hj => ?_)⟩
  ·rw [List.contains_iff_mem]
   unfold Region.ready
   refine YX.2 ⟨Yat.2 hk, ?_⟩
   rw [Bool.and_eq_true]
   refine ⟨by simp [Ym, hl k hk], ?_⟩
   rw [hok]
   simp only [YC, YV]
   rw [Array.all_eq_true_iff_forall_mem]
   intro e he
   by_cases hb : Region.binds .any e = true
   ·have := h1 k _ hok e he hb
    simp [Ym, hl e.on (by omega), this]
   grind
  ·unfold Region.free
   rw [hok]
   simp only [Yh, Yat]
   intro j hj
   rw [Bool.or_eq_true, Bool.or_eq_true]
   rcases YaC j k with hlt | heq | hgt
   ·left; right; simp [Ym, hl j hj, hlt]
   ·grind
   ·right
    rw [Yf hj]
    simp only
    rw [Bool.or_eq_true]
    rcases h2 k j _ _ hgt hok (Yf hj) with h | h
    ·left
     unfold onE at h
     obtain ⟨e, he, h⟩ := YH.1 h
     rw [← Array.any_toList]
     exact YH.2 ⟨e, he, by simpa using h⟩
    grind
  grind
theorem Zg5 {ops : List Oper} (h : ZsW ops = true) : Region.lexB .any ops.toArray = true := by
 unfold ZsW at h
 rw [Bool.and_eq_true] at h
 have hsel : ∀ (l : List Oper), ZrT l = true → l.all (fun o => match o.op with | .select .. => false | _ => true) = true := fun l => by
  induction l with
  | nil => intro _; rfl
  | cons o l ih =>
   intro hn
   simp only [ZrT, Bool.and_eq_true] at hn
   grind
 have key := Zf8 (ops.map (·.dst)) ops [] [] [] ⟨fun d i hf => by simp [Zfj] at hf, fun i o d ho => by simp at ho, fun i o ho => by simp at ho⟩ h.2
 simp only [Yaf, Yz, Yag] at key
 unfold Region.lexB
 rw [Bool.and_eq_true]
 refine ⟨?_, Zg9 (fun j oj hj => (key j oj (by simpa using hj)).1) (fun i j oi oj hij hi hj => ?_) _ 0 _ rfl (by simp) (fun j hj => by simp at hj ⊢; simp [hj])⟩
 ·unfold Region.noSelect
  grind
 ·rcases (key j oj (by simpa using hj)).2 i oi hij (by simpa using hi) with a | a
  ·grind
  ·exact .inr (ZiW a)
structure TI where
 agg : Bool := false
 kin : Nat := 0
 siz : Nat := 1
 elm : Option (Nat × Nat) := none
 fld : List (Nat × Nat × Bool) := []
 zer : Option (List AV) := none
 eqt : Option (List Nat) := none
 str : Bool := false
 ik : Option IntKind := none
 byt : Option Nat := none
 mp : Option (Bool × List D) := none
def AV.flat : AV → Bool
 | .d _ | .e0 | .p _ | .iptr _ _ => true
 | _ => false
structure TIok (P : Program) (t : TypeId) (i : TI) : Prop where
 agg : Zjh P t = some i.agg
 kin : kin P t = i.kin
 siz : P.cellsOf t = i.siz
 elm : ∀ e, i.elm = some e → Go.Eng.elm P t = some e
 fld : ∀ (j : Nat) (x : Nat × Nat × Bool), i.fld[j]? = some x → Go.Eng.fld P t j = some (x.1, x.2.1) ∧ ZD8 P t j = some x
 zer : ∀ z, i.zer = some z → Go.Eng.zer P t = some z
 eqt : ∀ z, i.eqt = some z → eqT P t = some z
 str : i.str = true → ZBV P t = true
 ik : ∀ z, i.ik = some z → P.underlying t = some (.int z)
 byt : ∀ z, i.byt = some z → P.bytesOf t ≤ z ∧ P.bytesOf t ≠ 0
 flt : ∀ z, i.zer = some z → z.all AV.flat = true
 mp : ∀ z, i.mp = some z → Zvt P t = some z
def TOk (P : Program) (T : Nat → Option TI) : Prop := ∀ t i, T t = some i → TIok P t i
inductive AT where
 | nil
 | go (r : AT)
 | av (x : AV) (r : AT)
 | cs (c : List AV) (r : AT)
 | ds (e : List D) (r : AT)
 | num (n : Int) (r : AT)
 | nat (n : Nat) (r : AT)
 | call (x : AV) (ks : List Key) (r : AT)
 | callH (x : AV) (ks : List Key) (hb : List (Key × List AV)) (r : AT)
 | br (a b : AT)
 | frz (d : Nat) (js : List (Nat × List (List D))) (cs : List (Key × Nat × List (List D))) (r : AT)
 | adc (k : Key) (i d : Nat) (e : TypeId) (sz : Nat) (r : AT)
 | mv (d j : Nat) (r : AT)
 | ads (j d : Nat) (e : TypeId) (sz : Nat) (r : AT)
 | trim (k : Key) (c : List AV) (r : AT)
 | reb (j d m : Nat) (c : List AV) (r : AT)
 | sep (r : AT)
 | hard (x : AV) (ks : List Key) (hb : List (Key × Blk)) (fr : List Key) (r : AT)
 | ents (es : List (List D)) (r : AT)
 | all (a : AT) (f : Nat → AT)
 | fzm (d : Nat) (js : List Nat) (r : AT)
 | fzb (d : Nat) (js : List Nat) (r : AT)
 | rnm (d d' e i : Nat) (r : AT)
 | mvc (d q e i : Nat) (r : AT)
 | one (v : Bool) (r : AT)
structure Ren where
 κ : Key → Key
 γ : Key → Nat
 θ : Nat → AV
 H0 : Hp
 no : Key → Prop
mutual
def ren (r : Ren) : AV → AV
 | .ref k g off n => .ref (r.κ k) (r.γ k + g) off n
 | .ptr k g off => .ptr (r.κ k) (r.γ k + g) off
 | .mp k g => .mp (r.κ k) (r.γ k + g)
 | .fn f xs ys => match f with
  | .yield i => r.θ i
  | f => .fn f (Zan r xs) (Zan r ys)
 | .agg xs => .agg (Zan r xs)
 | .tup xs => .tup (Zan r xs)
 | .top => .top
 | .d x => .d x
 | .e0 => .e0
 | .p x => .p x
 | .iptr cs off => .iptr cs off
 | .ifc t ds a => .ifc t ds a
def Zan (r : Ren) : List AV → List AV
 | [] => []
 | x :: xs => ren r x :: Zan r xs
end
def ZaZ (r : Ren) (k : Key) (b : Blk) : Blk := ⟨r.γ k + b.g, true, b.e, b.sz, Zan r b.cells⟩
theorem Zcx {r : Ren} (xs : List AV) : Zan r xs = xs.map (ren r) := by
 induction xs with
 | nil => simp [Zan]
 | cons x xs ih => simp [Zan, ih]
theorem ZaB {r : Ren} (xs : List AV) : (Zan r xs).length = xs.length := by rw [Zcx, Yu]
theorem Zcr {r : Ren} (xs ys : List AV) : Zan r (xs ++ ys) = Zan r xs ++ Zan r ys := by simp [Zcx]
theorem Zbj {r : Ren} (xs : List AV) (n : Nat) : (Zan r xs).drop n = Zan r (xs.drop n) := by simp [Zcx]
theorem ZbB {r : Ren} (xs : List AV) (n : Nat) : (Zan r xs).take n = Zan r (xs.take n) := by simp [Zcx]
theorem ZdM {r : Ren} (xs : List AV) (n : Nat) : (Zan r xs)[n]? = (xs[n]?).map (ren r) := by simp [Zcx]
theorem Zez {r : Ren} (xs : List D) : Zan r (xs.map .d) = xs.map .d := by
 induction xs with
 | nil => simp [Zan]
 | cons x xs ih => simp only [YE, Zan, ren, ih]
theorem Zsw {r : Ren} {xs : List AV} (h : xs ≠ []) : Zan r xs ≠ [] := by cases xs <;> simp_all [Zan]
def ZiO (r : Ren) (H H' : Hp) : Prop := ∀ k, (H k).live = true → H' (r.κ k) = ZaZ r k (H k)
def nth {α : Type} : List α → Nat → Option α
 | [], _ => none
 | x :: _, 0 => some x
 | _ :: xs, i + 1 => nth xs i
theorem Zby {α : Type} : ∀ (xs : List α) (i : Nat), nth xs i = xs[i]?
 | [], i => by simp [nth]
 | x :: xs, 0 => by simp [nth]
 | x :: xs, i + 1 => by simp [nth, Zby xs i]
def ZiZ {α : Type} : Nat → List α → Option (List α)
 | 0, _ => some []
 | n + 1, x :: xs => match ZiZ n xs with | some r => some (x :: r) | none => none
 | _ + 1, [] => none
theorem ZhF {α : Type} : ∀ (n : Nat) (xs r : List α), ZiZ n xs = some r → xs.take n = r ∧ n ≤ xs.length
 | 0, xs, r, h => by simp only [ZiZ, Ye] at h; subst h; simp
 | n + 1, [], r, h => by simp [ZiZ] at h
 | n + 1, x :: xs, r, h => by
  simp only [ZiZ] at h
  split at h
  ·rename_i q hq
   cases h
   obtain ⟨h1, h2⟩ := ZhF n xs q hq
   grind
  ·cases h
def ZbU (H : Hp) (k : Key) (g : Nat) : Bool := Nat.beq g (H k).g && (H k).live
theorem Za9 {H : Hp} {k : Key} {g : Nat} (h : ZbU H k g = true) : g = (H k).g ∧ (H k).live = true := by
 simp only [ZbU, Bool.and_eq_true] at h
 exact ⟨Ya h.1, h.2⟩
theorem ZiO.at {r : Ren} {H H' : Hp} (h : ZiO r H H') {k : Key} {g : Nat} (hl : ZbU H k g = true) : r.γ k + g = (H' (r.κ k)).g ∧ (H' (r.κ k)).live = true ∧ (H' (r.κ k)).e = (H k).e ∧ (H' (r.κ k)).sz = (H k).sz ∧ (H' (r.κ k)).cells = Zan r (H k).cells := by
 obtain ⟨h1, h2⟩ := Za9 hl
 rw [h k h2]
 subst h1
 exact ⟨rfl, rfl, rfl, rfl, rfl⟩
def sdP (g : Option Bool) (S : Prop) : Prop :=
 match g with
 | none => S
 | some b => b = true → S
theorem Zaq {g : Option Bool} {S : Prop} (hg : ∀ b, g = some b → b = true) (h : sdP g S) : S := by
 unfold sdP at h
 grind
def ZcM (cs : List AV) (off : Nat) (c : List AV) : Prop := (cs.drop off).take c.length = c
def Zv8 (es : List (List D)) (n : Int) (e : List D) : Prop := 0 ≤ n ∧ es[n.toNat]? = some e
def ZA9 (n : Int) (len off sz o : Nat) : Prop := 0 ≤ n ∧ n < len ∧ (off + n.toNat) * sz = o
def Zwo (s : ByteArray) (n b : Int) : Prop := 0 ≤ n ∧ ∃ x : UInt8, s.data.toList[n.toNat]? = some x ∧ b = x.toNat
def ZcL (k : IntKind) (a r : Int) : Prop := k.wrap a = r
def EqI (a b : Int) : Prop := a = b
def NeI (a b : Int) : Prop := a ≠ b
def LeI (a b : Int) : Prop := a ≤ b
def ZLr (a b : ByteArray) : Prop := a.size + b.size ≤ 9223372036854775807
def SlB (dflt : Nat) (o : Option AV) (l : Nat) : Prop :=
 match o with
 | none => l = dflt
 | some (.d (.int _ n)) => n = l
 | _ => False
def SlS (l h n : Nat) : Prop := l ≤ h ∧ h ≤ n
def SlD (es : List (List D)) (sz l h : Nat) (es' : List (List D)) : Prop := (∀ e, e ∈ es → e.length = sz) ∧ (es.drop l).take (h - l) = es'
def SlR (off l h o n : Nat) : Prop := off + l = o ∧ h - l = n
def Zyh (t : Bool) (a b : AV) : AV :=
 match a, b with
 | .d (.bool x), .d (.bool y) => .d (.bool (cond t x y))
 | a, b => cond t a b
theorem ZtQ (t : Bool) (a b : AV) : Zyh t a b = if t then a else b := by
 unfold Zyh
 grind
def ZlB (i : TI) (H : Hp) (x : AV) (g : Option Bool) (a : AT) (K : AV → AT → Prop) : Prop :=
 match x with
 | .iptr cs off => match i.agg with
  | true => match Nat.ble 1 i.siz, ZiZ i.siz (cs.drop off) with | true, some c => K (.agg (c.map .d)) a | _, _ => False
  | false => match nth cs off with | some c => K (.d c) a | none => False
 | .ptr k q off => match ZbU H k q with
  | true => match a with
   | .go r => (match i.agg with
    | true => match Nat.ble 1 i.siz, ZiZ i.siz ((H k).cells.drop off) with | true, some c => K (.agg c) r | _, _ => False
    | false => match nth (H k).cells off with | some c => K c r | none => False)
   | .cs c r => (match i.agg with
    | true => match Nat.ble 1 i.siz, Nat.beq c.length i.siz with | true, true => sdP g (ZcM (H k).cells off c) ∧ K (.agg c) r | _, _ => False
    | false => match c with | [x] => sdP g (ZcM (H k).cells off [x]) ∧ K x r | _ => False)
   | _ => False
  | false => False
 | _ => False
def Zea (i : TI) (H : Hp) (f : Nat) (x : AV) (a : AT) (K : AV → AT → Prop) : Prop :=
 match nth i.fld f with
 | some (o, n, _) => match Nat.ble 1 n with
  | true => (match x with
   | .iptr cs off => K (.iptr cs (off + o)) a
   | .ptr k q off => match ZbU H k q with | true => K (.ptr k q (off + o)) a | false => False
   | _ => False)
  | false => False
 | none => False
def ZkF (i : TI) (f : Nat) (x : AV) (a : AT) (K : AV → AT → Prop) : Prop :=
 match nth i.fld f, x with
 | some (o, n, true), .agg cs => (match Nat.ble 1 n with | true => K (.agg ((cs.drop o).take n)) a | false => False)
 | some (o, _, false), .agg cs => (match nth cs o with | some c => K c a | none => False)
 | _, _ => False
def Zec (i : TI) (H : Hp) (x j : AV) (g : Option Bool) (a : AT) (K : AV → AT → Prop) : Prop :=
 match i.elm, j with
 | some (_, sz), .d (.int _ n) => (match x, a with
  | .d (.list es), .ds e r => (match Nat.beq e.length sz, Nat.ble 1 sz with | true, true => sdP g (Zv8 es n e) ∧ K (.iptr e 0) r | _, _ => False)
  | .ref k q off len, .nat o r => (match ZbU H k q, Nat.beq (H k).sz sz, Nat.ble 1 sz with | true, true, true => sdP g (ZA9 n len off sz o) ∧ K (.ptr k q o) r | _, _, _ => False)
  | _, _ => False)
 | _, _ => False
def ZkT (i : TI) (x j : AV) (g : Option Bool) (a : AT) (K : AV → AT → Prop) : Prop :=
 match x, j, a with
 | .d (.str s), .d (.int _ n), .num b r => (match Nat.beq i.kin 2 with | true => sdP g (Zwo s n b) ∧ K (.d (.int .u8 b)) r | false => False)
 | _, _, _ => False
def ZGL (op : BinOp) (k : IntKind) (x y : Int) (g : Option Bool) (a : AT) (K : AV → AT → Prop) : Prop :=
 match op with
 | .eql => K (.d (.bool (decide (x = y)))) a
 | .neq => K (.d (.bool (!decide (x = y)))) a
 | .lss => K (.d (.bool (decide (x < y)))) a
 | .leq => K (.d (.bool (decide (x ≤ y)))) a
 | .gtr => K (.d (.bool (decide (y < x)))) a
 | .geq => K (.d (.bool (decide (y ≤ x)))) a
 | .add => match a with | .num n r => sdP g (ZcL k (x + y) n) ∧ K (.d (.int k n)) r | _ => False
 | .sub => match a with | .num n r => sdP g (ZcL k (x - y) n) ∧ K (.d (.int k n)) r | _ => False
 | .mul => match a with | .num n r => sdP g (ZcL k (x * y) n) ∧ K (.d (.int k n)) r | _ => False
 | .quo => match a with | .num n r => sdP g (NeI y 0) ∧ sdP g (ZcL k (x.tdiv y) n) ∧ K (.d (.int k n)) r | _ => False
 | .rem => match a with | .num n r => sdP g (NeI y 0) ∧ sdP g (EqI (x.tmod y) n) ∧ K (.d (.int k n)) r | _ => False
 | .shr => match a with | .num n r => sdP g (LeI 0 y) ∧ sdP g (EqI (x.fdiv (2 ^ (min y.toNat k.bits))) n) ∧ K (.d (.int k n)) r | _ => False
 | .shl => match a with | .num n r => sdP g (LeI 0 y) ∧ sdP g (ZcL k (x * 2 ^ (min y.toNat k.bits)) n) ∧ K (.d (.int k n)) r | _ => False
 | .and => match a with | .num n r => sdP g (EqI (ZG9 k x y) n) ∧ K (.d (.int k n)) r | _ => False
 | .or => match a with | .num n r => sdP g (EqI (orI k x y) n) ∧ K (.d (.int k n)) r | _ => False
 | .xor => match a with | .num n r => sdP g (EqI (ZGl k x y) n) ∧ K (.d (.int k n)) r | _ => False
 | _ => False
def ZGs (op : BinOp) (x y : ByteArray) (g : Option Bool) (a : AT) (K : AV → AT → Prop) : Prop :=
 match op with
 | .add => sdP g (ZLr x y) ∧ K (.d (.str (x ++ y))) a
 | .eql => K (.d (.bool (decide (x = y)))) a
 | .neq => K (.d (.bool (!decide (x = y)))) a
 | .lss => K (.d (.bool (sLt x y))) a
 | .leq => K (.d (.bool (sLt x y || decide (x = y)))) a
 | .gtr => K (.d (.bool (!(sLt x y || decide (x = y))))) a
 | .geq => K (.d (.bool (!sLt x y))) a
 | _ => False
def ZBi (H : Hp) (neg : Bool) (x : AV) (a : AT) (K : AV → AT → Prop) : Prop :=
 match x with
 | .e0 => ∀ b, K (.d (.bool b)) a
 | .d (.list es) => ∀ b, (es ≠ [] → b = neg) → K (.d (.bool b)) a
 | .ref k q _ n => (match ZbU H k q with | true => ∀ b, (n ≠ 0 → b = neg) → K (.d (.bool b)) a | false => False)
 | _ => False
def ikB : IntKind → IntKind → Bool
 | .i8, .i8 | .i16, .i16 | .i32, .i32 | .i64, .i64 | .u8, .u8 | .u16, .u16 | .u32, .u32 | .u64, .u64 => true
 | _, _ => false
theorem ZD1 {a b : IntKind} (h : ikB a b = true) : a = b := by cases a <;> cases b <;> first | rfl | cases h
def ZG0 (i : TI) (H : Hp) (op : BinOp) (ny : Bool) (x y : AV) (g : Option Bool) (a : AT) (K : AV → AT → Prop) : Prop :=
 match x, y with
 | .d (.int k m), .d (.int k' n) => (match ikB k k' with | true => ZGL op k m n g a K | false => False)
 | .d (.str m), .d (.str n) => ZGs op m n g a K
 | .d (.bool m), .d (.bool n) => (match Nat.beq i.kin 1 with
  | true => (match op with
   | .eql => K (.d (.bool (m == n))) a
   | .neq => K (.d (.bool (!(m == n)))) a
   | _ => False)
  | false => False)
 | .agg xs, .agg ys => (match i.eqt with
  | some ks => (match ZeL ks xs ys with
   | some b => (match op with
    | .eql => K (.d (.bool b)) a
    | .neq => K (.d (.bool (!b))) a
    | _ => False)
   | none => False)
  | none => False)
 | x, .e0 => (match ny, Nat.beq i.kin 4 with
  | true, true => (match op with
   | .eql => ZBi H false x a K
   | .neq => ZBi H true x a K
   | _ => False)
  | _, _ => False)
 | _, _ => False
def tUn (op : UnOp) (x : AV) (g : Option Bool) (a : AT) (K : AV → AT → Prop) : Prop :=
 match op, x with
 | .not, .d (.bool b) => K (.d (.bool (!b))) a
 | .neg, .d (.int k n) => (match a with | .num m r => sdP g (ZcL k (0 - n) m) ∧ K (.d (.int k m)) r | _ => False)
 | .xor, .d (.int k n) => (match a with | .num m r => sdP g (EqI (ZK7 k n) m) ∧ K (.d (.int k m)) r | _ => False)
 | _, _ => False
def ZsQ (s d : TI) (x : AV) (g : Option Bool) (a : AT) (K : AV → AT → Prop) : Prop :=
 match x with
 | .d (.int _ n) => (match s.ik, d.ik, a with | some _, some k, .num m r => sdP g (ZcL k n m) ∧ K (.d (.int k m)) r | _, _, _ => False)
 | .d (.str s') => (match Nat.beq s.kin 2, Nat.beq d.kin 2 with | true, true => K (.d (.str s')) a | _, _ => False)
 | _ => False
def Zky (i : TI) (H : Hp) (x : AV) (lo hi : Option AV) (mx : Bool) (g : Option Bool) (a : AT) (K : AV → AT → Prop) : Prop :=
 match mx, a with
 | false, .nat l (.nat h r) => (match x with
  | .d (.str s) => (match Nat.beq i.kin 2 with | true => sdP g (SlB 0 lo l) ∧ sdP g (SlB s.size hi h) ∧ sdP g (SlS l h s.size) ∧ K (.d (.str (s.extract l h))) r | false => False)
  | .d (.list es) => (match i.elm, r with
   | some (_, sz), .av (.d (.list es')) r => (match Nat.ble 1 sz with
    | true => sdP g (SlB 0 lo l) ∧ sdP g (SlB es.length hi h) ∧ sdP g (SlS l h es.length) ∧ sdP g (SlD es sz l h es') ∧ K (.d (.list es')) r
    | false => False)
   | _, _ => False)
  | .ref k q off n => (match i.elm, r, ZbU H k q with
   | some (_, sz), .nat o' (.nat n' r), true => (match Nat.ble 1 sz, Nat.beq (H k).sz sz with
    | true, true => sdP g (SlB 0 lo l) ∧ sdP g (SlB n hi h) ∧ sdP g (SlS l h n) ∧ sdP g (SlR off l h o' n') ∧ K (.ref k q o' n') r
    | _, _ => False)
   | _, _, _ => False)
  | _ => False)
 | _, _ => False
def ZG5 (i : TI) (H : Hp) (x : AV) (g : Option Bool) (a : AT) (K : AV → AT → Prop) : Prop :=
 match x, a with
 | .d (.str s), .num n r => (match Nat.beq i.kin 2 with | true => sdP g (EqI s.size n) ∧ K (.d (.int .i64 n)) r | false => False)
 | .d (.list es), .num n r => (match Nat.beq i.kin 4 with | true => sdP g (EqI es.length n) ∧ K (.d (.int .i64 n)) r | false => False)
 | .e0, .num n r => (match Nat.beq i.kin 4 with | true => sdP g (EqI 0 n) ∧ K (.d (.int .i64 n)) r | false => False)
 | .ref k q _ m, .num n r => (match Nat.beq i.kin 4, ZbU H k q with | true, true => sdP g (EqI m n) ∧ K (.d (.int .i64 n)) r | _, _ => False)
 | _, _ => False
def Zpp (H : Hp) : AV → Option (Bool × List (List D))
 | .d (.map q es) => some (q, es)
 | .mp k g => match ZbU H k g, (H k).e with
  | true, .m q es => some (q, es)
  | _, _ => none
 | _ => none
def bqB : Bool → Bool → Bool
 | true, true => true
 | false, false => true
 | _, _ => false
theorem ZoE {a b : Bool} (h : bqB a b = true) : a = b := by cases a <;> cases b <;> first | rfl | cases h
def ZoM (es : List (List D)) (s : ByteArray) (z vs : List D) (ok : Bool) : Prop := (Zfg s es).isSome = ok ∧ (Zfg s es).getD z = vs
def Zud (i : TI) (H : Hp) (x y : AV) (ck : Bool) (g : Option Bool) (a : AT) (K : AV → AT → Prop) : Prop :=
 match i.mp, Zpp H x, y, a with
 | some (q, z), some (q', es), .d (.str s), .av (.d (.bool ok)) (.ds vs r) => (match bqB q q' with
  | true => sdP g (ZoM es s z vs ok) ∧ K (lkV ck q vs ok) r
  | false => False)
 | _, _, _, _ => False
def plc (i : TI) (f : Nat) : Option (Nat × Nat) := match nth i.fld f with | some (o, n, _) => some (o, n) | none => none
def Zog (i : TI) (cells : List AV) : List (Nat × AV) → Option (List AV)
 | [] => some cells
 | (f, v) :: rest => match plc i f, Zbh v with
  | some (off, size), some vs => match Nat.beq vs.length size, Nat.ble (off + vs.length) cells.length with
   | true, true => Zog i (cells.take off ++ vs ++ cells.drop (off + vs.length)) rest
   | _, _ => none
  | _, _ => none
def Zlw (i : TI) (parts : List (Nat × AV)) (a : AT) (K : AV → AT → Prop) : Prop :=
 match i.str, i.zer with
 | true, some z => (match Zog i z parts with | some cs => K (.agg cs) a | none => False)
 | _, _ => False
def ZuC : AV → Bool
 | .fn (.yield _) _ _ => false
 | _ => true
def tV (T : Nat → Option TI) (H : Hp) (op : Op) (ρ : Operand → AV) (g : Option Bool) (a : AT) (K : AV → AT → Prop) : Prop :=
 match op with
 | .move x => K (ρ x) a
 | .assign x => K (ρ x) a
 | .pick c x y => match ρ c with | .d (.bool t) => K (Zyh t (ρ x) (ρ y)) a | _ => False
 | .load t x => match T t with | some i => ZlB i H (ρ x) g a K | none => False
 | .fieldAddr t x f => match T t with | some i => Zea i H f (ρ x) a K | none => False
 | .field t x f => match T t with | some i => ZkF i f (ρ x) a K | none => False
 | .indexAddr t x j => match T t with | some i => Zec i H (ρ x) (ρ j) g a K | none => False
 | .index t x j => match T t with | some i => ZkT i (ρ x) (ρ j) g a K | none => False
 | .extract x j => match ρ x with | .tup vs => (match nth vs j with | some y => K y a | none => False) | _ => False
 | .binOp o t x y _ => match T t with | some i => ZG0 i H o (Ze4 y) (ρ x) (ρ y) g a K | none => False
 | .unOp o _ x => tUn o (ρ x) g a K
 | .nilCheck x => match ρ x with | .ptr k q off => (match ZbU H k q with | true => K (.ptr k q off) a | false => False) | .iptr cs off => K (.iptr cs off) a | _ => False
 | .convert s d x => match T s, T d with | some i, some j => ZsQ i j (ρ x) g a K | _, _ => False
 | .makeInterface t x => match T t with | some i => (match i.str || i.elm.isSome, ρ x with | true, .agg xs => (match ZA6 xs with | some ds => K (.ifc t ds true) a | none => False) | true, .d x => K (.ifc t [x] false) a | _, _ => False) | none => False
 | .typeAssert x _ t ok => match T t with | some i => (match i.str || i.elm.isSome, ρ x with | true, .ifc u ds q => (match Nat.beq u t, upk q ds with | true, some v => K (cond ok (.tup [v, .d (.bool true)]) v) a | _, _ => False) | _, _ => False) | none => False
 | .makeFunc fn first caps => match fn with | .yield _ => False | fn => K (.fn fn (first.toList.map ρ) (caps.toList.map ρ)) a
 | .slice t x lo hi mx => match T t with | some i => Zky i H (ρ x) (lo.map ρ) (hi.map ρ) mx.isSome g a K | none => False
 | .lookup t x y ck => match T t with | some i => Zud i H (ρ x) (ρ y) ck g a K | none => False
 | .build t parts => match T t, parts.toList.all (fun p => ZuC (ρ p.2)) with | some i, true => Zlw i (parts.toList.map fun p => (p.1, ρ p.2)) a K | _, _ => False
 | .call c => match c.callee, c.args.toList, c.argTypes.toList with
  | .builtin .len, [x], [t] => match T t with | some i => ZG5 i H (ρ x) g a K | none => False
  | .builtin .min, [x, y], _ => vMM false (ρ x) (ρ y) (fun v => K v a)
  | .builtin .max, [x, y], _ => vMM true (ρ x) (ρ y) (fun v => K v a)
  | .builtin .max, [x, y, z], _ => ZrK true (ρ x) (ρ y) (ρ z) (fun v => K v a)
  | _, _, _ => False
 | _ => False
end Go.Eng
