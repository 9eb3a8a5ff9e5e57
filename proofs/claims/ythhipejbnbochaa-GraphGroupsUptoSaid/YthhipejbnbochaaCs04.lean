import Derived.Test.YthhipejbnbochaaCs03
import Derived.Still
import Derived.IntWalk
import Derived.Test.YthhipejbnbochaaCs00
namespace Go.Eng
set_option linter.all false
open Go Go.RowKit
def ZaO (o : Oper) : Bool := o.dst.isSome && match o.op with
 | .call c => match c.callee with
  | .value _ => true
  | .builtin .len | .builtin .min | .builtin .max => true
  | _ => false
 | .binOp _ _ _ y _ => !Zeb y
 | .alloc _ | .box _ _ | .store _ _ _ | .buildSlice _ _ _ | .makeSlice _ _ _ | .makeMap _ _ | .range _ _ | .next _ _ | .entry _ => false
 | _ => true
def Zyf (o : Oper) : Bool := match o.op with
 | .buildSlice _ (_ + 1) _ => true
 | _ => false
def Zby (o : Oper) : Bool := ZaO o || (o.dst.isSome && Zyf o)
def Zzy (P : Program) (t : TypeId) (len : Nat) (ps : List (Nat × AV)) (v : AV) : Prop :=
 ∃ e sz z es, elm P t = some (e, sz) ∧ sz ≠ 0 ∧ (len + 1) * sz ≤ 16777216 ∧ zer P e = some z ∧ z.length = sz ∧ ZkU sz 0 ps = some es ∧ es.length = len + 1 ∧ v = .d (.list es)
def qV (P : Program) (l : Nat) (H : Hp) (o : Oper) (ρ : Operand → AV) (v : AV) : Prop :=
 match o.op with
 | .buildSlice t (len + 1) parts => Zzy P t len (parts.toList.map fun p => (p.1, ρ p.2)) v
 | .call c => match c.callee with
  | .value f => match ρ f with
   | .fn (.func g) first caps => Za3 P g (l + 1) (first ++ c.args.toList.map ρ ++ caps) H (fun y H' => y = v ∧ H' = H)
   | _ => False
  | _ => vOp P H o.op ρ (fun y => y = v)
 | _ => vOp P H o.op ρ (fun y => y = v)
def ZkT (P : Program) (l n : Nat) (o : Oper) (K : St → Prop) (σ : St) : Prop :=
 match o.op with
 | .buildSlice t (len + 1) parts => ∃ v, Zzy P t len (parts.toList.map fun p => (p.1, ev σ.s p.2)) v ∧ Ze2 n o.dst K σ v
 | .call c => match c.callee with
  | .value f => match ev σ.s f with
   | .fn (.func g) first caps => ∃ r, Za3 P g (l + 1) (first ++ c.args.toList.map (ev σ.s) ++ caps) σ.H (fun y H' => y = r ∧ H' = σ.H) ∧ Ze2 n o.dst K σ r
   | _ => False
  | _ => rOp P l n o K σ
 | _ => rOp P l n o K σ
def Zif (P : Program) (l n : Nat) (ds : List (Option Nat)) : List Oper → (St → Prop) → St → Prop
 | [], K, σ => K σ
 | o :: rest, K, σ => match o.guard with
  | none => ZkT P l n o (Zif P l n ds rest K) σ
  | some (i, b) => match grd σ.s ds i b with
   | some t => (t = true → ZkT P l n o (Zif P l n ds rest K) σ) ∧ (t = false → match o.dst with | some d => d < n ∧ Zif P l n ds rest K ⟨upd σ.s d (.tup []), σ.H⟩ | none => False)
   | none => False
section
variable {P : Program} {l n : Nat} {B : Base} {H : Hp} {K K' : AV → Prop} {t : TypeId} {x y : AV} {ρ ρ' : Operand → AV}
theorem ZhI {op : BinOp} {k : IntKind} {a b : Int} (h : ∀ v, K v → K' v) (hh : Zmm op k a b K) : Zmm op k a b K' := by
 cases op <;> simp only [Zmm] at hh ⊢ <;> first | exact h _ hh | exact ⟨hh.1, h _ hh.2⟩ | exact hh
theorem Zhf {op : BinOp} {a b : ByteArray} (h : ∀ v, K v → K' v) (hh : Zng op a b K) : Zng op a b K' := by
 cases op <;> simp only [Zng] at hh ⊢ <;> first | exact h _ hh | exact ⟨hh.1, h _ hh.2⟩ | exact hh
theorem Zpc {op : BinOp} {k : IntKind} {a b : Int} (hh : Zmm op k a b K) : ∃ v, Zmm op k a b (fun y => y = v) ∧ K v := by
 cases op <;> simp only [Zmm] at hh ⊢ <;> first | exact ⟨_, rfl, hh⟩ | exact ⟨_, ⟨hh.1, rfl⟩, hh.2⟩ | exact hh.elim
theorem Zqa {op : BinOp} {a b : ByteArray} (hh : Zng op a b K) : ∃ v, Zng op a b (fun y => y = v) ∧ K v := by
 cases op <;> simp only [Zng] at hh ⊢ <;> first | exact ⟨_, rfl, hh⟩ | exact ⟨_, ⟨hh.1, rfl⟩, hh.2⟩ | exact hh.elim
theorem Zk2 (h : ZdJ P H t x K) : ∃ v, ZdJ P H t x (fun y => y = v) ∧ K v := by
 unfold ZdJ at h ⊢
 split at h
 ·grind
 ·grind
 grind
theorem Zfw {i : Nat} (h : ZaL P H t i x K) : ∃ v, ZaL P H t i x (fun y => y = v) ∧ K v := by
 unfold ZaL at h ⊢
 grind
theorem Zko {i : Nat} (h : Zcq P t i x K) : ∃ v, Zcq P t i x (fun y => y = v) ∧ K v := by
 unfold Zcq at h ⊢
 split at h
 ·split at h
  ·grind
  grind
 grind
theorem Zfp (h : ZaJ P H t x y K) : ∃ v, ZaJ P H t x y (fun y => y = v) ∧ K v := by
 unfold ZaJ at h ⊢
 grind
theorem ZkN (h : ZcL P t x y K) : ∃ v, ZcL P t x y (fun y => y = v) ∧ K v := by
 unfold ZcL at h ⊢
 grind
theorem ZoI {op : BinOp} {xs ys : List AV} (h : Zop P op t xs ys K) : ∃ v, Zop P op t xs ys (fun y => y = v) ∧ K v := by
 unfold Zop at h ⊢
 split at h
 ·grind
 grind
theorem Zo4 {op : BinOp} (h : Zfk P H op t false x y K) : ∃ v, Zfk P H op t false x y (fun y => y = v) ∧ K v := by
 unfold Zfk at h ⊢
 split at h
 ·obtain ⟨v, h1, h2⟩ := Zpc h.2; exact ⟨v, ⟨h.1, h1⟩, h2⟩
 ·exact Zqa h
 ·grind
 ·exact ZoI h
 ·cases h.1
 grind
theorem Zt6 {op : UnOp} (h : vUn op x K) : ∃ v, vUn op x (fun y => y = v) ∧ K v := by
 unfold vUn at h ⊢
 grind
theorem Znc {u : TypeId} (h : ZdW P t u x K) : ∃ v, ZdW P t u x (fun y => y = v) ∧ K v := by
 unfold ZdW at h ⊢
 grind
theorem Zkb {lo hi : Option AV} {mx : Bool} (h : Zcb P H t x lo hi mx K) : ∃ v, Zcb P H t x lo hi mx (fun y => y = v) ∧ K v := by
 unfold Zcb at h ⊢
 grind
theorem ZpN (h : ZhX P H t x K) : ∃ v, ZhX P H t x (fun y => y = v) ∧ K v := by
 unfold ZhX at h ⊢
 grind
theorem ZjW {ps : List (Nat × AV)} (h : ZcJ P t ps K) : ∃ v, ZcJ P t ps (fun y => y = v) ∧ K v := by
 unfold ZcJ at h ⊢
 grind
theorem ZtD {op : Op} (hq : ∀ o t x y u, op = .binOp o t x y u → Zeb y = false) (h : vOp P H op ρ K) : ∃ v, vOp P H op ρ (fun y => y = v) ∧ K v := by
 cases op <;> simp only [vOp] at h ⊢ <;> try exact h.elim
 case move x => exact ⟨_, rfl, h⟩
 case assign x => exact ⟨_, rfl, h⟩
 case pick c a b =>
  split at h
  ·grind
  ·grind
 case load => exact Zk2 h
 case fieldAddr => exact Zfw h
 case field => exact Zko h
 case indexAddr => exact Zfp h
 case index => exact ZkN h
 case extract =>
  split at h
  ·grind
  ·grind
 case binOp o t x y u =>
  rw [hq _ _ _ _ _ rfl] at h ⊢
  exact Zo4 h
 case unOp => exact Zt6 h
 case convert => exact Znc h
 case nilCheck =>
  unfold ZqE at h ⊢
  split at h
  ·grind
  ·grind
  ·grind
 case makeFunc => exact ⟨_, rfl, h⟩
 case slice => exact Zkb h
 case build => exact ZjW h
 case lookup => exact ZmA h
 case call c =>
  split at h
  ·obtain ⟨v, h1, h2⟩ := ZpN h.2; exact ⟨v, ⟨h.1, h1⟩, h2⟩
  ·split at h
   ·unfold vMM at h ⊢
    grind
   ·unfold Zom at h ⊢
    grind
   grind
  ·grind
theorem ZjA {op : Op} (hq : ∀ o t x y u, op = .binOp o t x y u → Zeb y = false) {v : AV} (hv : K v) (h : vOp P H op ρ (fun y => y = v)) : vOp P H op ρ K := by
 have : (fun y => y = v) = (fun y => y = v ∧ K v) := by funext y; simp [hv]
 rw [this] at h
 clear this hv
 cases op <;> simp only [vOp] at h ⊢ <;> try exact h.elim
 case move x => exact h.1 ▸ h.2
 case assign x => exact h.1 ▸ h.2
 case pick c a b =>
  split at h
  ·grind
  ·grind
 case load t x =>
  unfold ZdJ at h ⊢
  split at h
  ·grind
  ·grind
  ·grind
 case fieldAddr =>
  unfold ZaL at h ⊢
  split at h
  ·grind
  ·grind
  ·grind
 case field =>
  unfold Zcq at h ⊢
  split at h
  ·split at h
   ·grind
   grind
  ·grind
 case indexAddr =>
  unfold ZaJ at h ⊢
  split at h
  ·grind
  ·grind
  ·grind
 case index =>
  unfold ZcL at h ⊢
  split at h
  ·grind
  ·grind
 case extract =>
  split at h
  ·grind
  ·grind
 case binOp o t x y u =>
  rw [hq _ _ _ _ _ rfl] at h ⊢
  unfold Zfk at h ⊢
  split at h
  ·exact ⟨h.1, ZhI (fun y (hy : y = v ∧ K v) => hy.1 ▸ hy.2) h.2⟩
  ·exact Zhf (fun y (hy : y = v ∧ K v) => hy.1 ▸ hy.2) h
  ·grind
  ·unfold Zop at h ⊢
   split at h
   ·split at h
    ·grind
    grind
   grind
  ·cases h.1
  ·grind
 case unOp =>
  unfold vUn at h ⊢
  split at h
  ·grind
  ·grind
  ·grind
 case nilCheck =>
  unfold ZqE at h ⊢
  split at h
  ·grind
  ·grind
  ·grind
 case convert =>
  unfold ZdW at h ⊢
  split at h
  ·grind
  ·grind
  ·grind
 case makeFunc => exact h.1 ▸ h.2
 case slice =>
  unfold Zcb at h ⊢
  split at h
  ·grind
  ·grind
  ·grind
  ·grind
 case build =>
  unfold ZcJ at h ⊢
  split at h
  ·grind
  ·grind
 case lookup => exact Zhu (fun y (hy : y = v ∧ K v) => hy.1 ▸ hy.2) h
 case call c =>
  split at h
  ·refine ⟨h.1, ?_⟩
   replace h := h.2
   unfold ZhX at h ⊢
   grind
  ·split at h
   ·unfold vMM at h ⊢
    grind
   ·unfold Zom at h ⊢
    grind
   grind
  ·grind
theorem Zgr {o : Oper} (h : Zby o = true) (hb : ∀ t len ps, o.op = .buildSlice t (len + 1) ps → False) : ZaO o = true := by
 unfold Zby at h
 rw [Yz] at h
 rcases h with h | h
 ·exact h
 ·exfalso
  unfold Zyf at h
  split at h
  ·rename_i e; exact hb _ _ _ e
  ·simp at h
theorem ZeJ {o : Oper} (hq : Zby o = true) : ∀ b t x y u, o.op = .binOp b t x y u → Zeb y = false := by
 intro b t x y u h
 simp only [Zby, Zyf, ZaO, h, YbE, Ybm, Yc, YQ] at hq
 exact hq.2
theorem ZiX {o : Oper} {v : AV} (h : ∀ x ∈ o.op.operands, ρ x = ρ' x) (hh : qV P l H o ρ v) : qV P l H o ρ' v := by
 obtain ⟨dst, op, type, pos, after, guard⟩ := o
 have arr : ∀ aZ : Array Operand, (∀ x ∈ aZ, ρ x = ρ' x) → aZ.toList.map ρ = aZ.toList.map ρ' := fun aZ ha => YW fun x hx => ha x (by simpa using hx)
 cases op <;> simp only [Op.operands] at h <;> simp only [qV, vOp] at hh ⊢ <;> try exact hh
 case call c =>
  have ha : c.args.toList.map ρ = c.args.toList.map ρ' := arr _ fun x hx => h x (by simp [Call.operands, hx])
  cases hc : c.callee with
  | value f =>
   have hf : ρ f = ρ' f := h f (by simp [Call.operands, hc])
   grind
  | invoke r m => simp only [hc] at hh
  | builtin b =>
   simp only [hc] at hh ⊢
   split at hh
   ·rename_i x t hb h0 h1
    rw [← h x (by simp [Call.operands, hc, YbD h0])]
    exact hh
   ·grind
   grind
 case build t ps =>
  have : (ps.toList.map fun p => (p.1, ρ p.2)) = ps.toList.map fun p => (p.1, ρ' p.2) := YW fun p hp => by
   grind
  rw [← this]; exact hh
 case buildSlice t n ps =>
  cases n with
  | zero => exact hh
  | succ n =>
   have : (ps.toList.map fun p => (p.1, ρ p.2)) = ps.toList.map fun p => (p.1, ρ' p.2) := YW fun p hp => by
    grind
   simp only at hh ⊢
   rw [← this]; exact hh
 case makeFunc fn first caps =>
  rw [← arr first fun x hx => h x (by simp [hx]), ← arr caps fun x hx => h x (by simp [hx])]; exact hh
 case slice t x lo hi mx =>
  rw [← h x (by simp), show lo.map ρ' = lo.map ρ from by cases lo <;> simp_all, show hi.map ρ' = hi.map ρ from by cases hi <;> simp_all]; exact hh
 all_goals (first | (simp_all; done))
theorem ZiR {o : Oper} {s : Nat → AV} {K : St → Prop} (hq : Zby o = true) (h : ZkT P l n o K ⟨s, H⟩) : ∃ d v, o.dst = some d ∧ d < n ∧ qV P l H o (ev s) v ∧ K ⟨upd s d v, H⟩ := by
 have hd : ∃ d, o.dst = some d := by
  have : o.dst.isSome = true := by
   unfold Zby ZaO at hq
   rw [Yz, Yc, Yc] at hq
   rcases hq with h | h
   ·exact h.1
   ·exact h.1
  exact YK.1 this
 obtain ⟨d, hd⟩ := hd
 have plain : vOp P H o.op (ev s) (Ze2 n o.dst K ⟨s, H⟩) → (∀ v, vOp P H o.op (ev s) (fun y => y = v) → qV P l H o (ev s) v) → ∃ d v, o.dst = some d ∧ d < n ∧ qV P l H o (ev s) v ∧ K ⟨upd s d v, H⟩ := fun h hv => by
  obtain ⟨v, h1, h2⟩ := ZtD (ZeJ hq) h
  rw [hd] at h2
  exact ⟨d, v, hd, h2.1, hv v h1, h2.2⟩
 unfold ZkT at h
 split at h
 ·rename_i hop
  obtain ⟨v, h1, h2⟩ := h
  rw [hd] at h2
  refine ⟨d, v, hd, h2.1, ?_, h2.2⟩
  unfold qV
  rw [hop]
  exact h1
 ·rename_i c hc
  replace hq : ZaO o = true := Zgr hq fun t n ps e => by rw [hc] at e; cases e
  split at h
  ·rename_i f hf
   simp only [] at h
   split at h
   ·rename_i g first caps hg
    obtain ⟨r, h1, h2⟩ := h
    rw [hd] at h2
    refine ⟨d, r, hd, h2.1, ?_, h2.2⟩
    simp only [qV, hc, hf, hg]
    exact h1
   ·exact h.elim
  ·rename_i hf
   refine plain ?_ ?_
   ·unfold rOp at h
    simp only [hc] at h
    simp only [ZaO, hc, Yc] at hq
    split at h
    ·rename_i f hf'; exact absurd hf' (hf f)
    ·rename_i hb; rw [hb] at hq; simp at hq
    ·rw [hc]; exact h
   ·intro v hv
    unfold qV
    rw [hc] at hv ⊢
    cases hcal : c.callee with
    | value f => exact absurd hcal (hf f)
    | _ => simpa [hcal] using hv
 ·rename_i hb hc
  replace hq : ZaO o = true := Zgr hq fun t n ps e => hb _ _ _ e
  refine plain ?_ ?_
  ·unfold rOp at h
   split at h
   ·rename_i he; simp [ZaO, he] at hq
   ·rename_i he; simp [ZaO, he] at hq
   ·rename_i he; simp [ZaO, he] at hq
   ·rename_i he; simp [ZaO, he] at hq
   ·rename_i he; simp [ZaO, he] at hq
   ·rename_i c he; exact absurd he (hc c)
   ·exact h
  ·intro v hv
   unfold qV
   split
   ·rename_i he; exact absurd he (hb _ _ _)
   ·rename_i c he; exact absurd he (hc c)
   ·exact hv
theorem Zwr {o : Oper} {s : Nat → AV} {v : AV} {d : Nat} (hq : Zby o = true) (hd : o.dst = some d) (hdn : d < n) (h : qV P l H o (ev s) v) : AOp P l n B o (fun σ' => σ' = ⟨upd s d v, H⟩) ⟨s, H⟩ := by
 unfold qV at h
 split at h
 ·rename_i t len parts hop
  obtain ⟨e, sz, z, es, h1, h2, h3, h4, h5, h6, h7, rfl⟩ := h
  exact Zd7 hop hd h1 h2 h3 h4 h5 h6 h7 hdn rfl
 ·rename_i c hc
  split at h
  ·rename_i f hf
   split at h
   ·rename_i g first caps hg
    refine ZiL hc hf hg (h.mono fun r H' ⟨h1, h2⟩ => ?_)
    subst h1; subst h2
    rw [hd]
    exact ⟨hdn, rfl⟩
   grind
  ·rename_i hf
   exact Zge (ZjA (ZeJ hq) (by rw [hd]; exact ⟨hdn, rfl⟩) h)
 ·exact Zge (ZjA (ZeJ hq) (by rw [hd]; exact ⟨hdn, rfl⟩) h)
end
section
variable {P : Program} {l n : Nat} {B : Base} {H : Hp} {ops : Array Oper} {md : Region.Mode} {Q : (Nat → AV) → Prop}
def YA (P : Program) (l : Nat) (H : Hp) (ops : Array Oper) (o : Oper) (s : Nat → AV) (v : AV) : Prop :=
 match o.guard with
 | none => qV P l H o (ev s) v
 | some (i, b) => match grd s (ops.toList.map (·.dst)) i b with
  | some t => (t = true → qV P l H o (ev s) v) ∧ (t = false → v = .tup [])
  | none => False
theorem Zqx {o : Oper} {s : Nat → AV} {v u : AV} {d : Nat} (hd : d ∉ o.looksAt ops) (h : YA P l H ops o (upd s d u) v) : YA P l H ops o s v := by
 have hev : ∀ x ∈ o.op.operands, ev (upd s d u) x = ev s x := fun x hx => by
  cases x with
  | tmp t =>
   have hne : t ≠ d := fun e => hd (by
    subst e
    exact YN _ (Ybi.2 ⟨.tmp t, by simpa using hx, rfl⟩))
   simp [ev, upd, hne]
  | _ => rfl
 unfold YA at *
 cases hg : o.guard with
 | none => simp only [hg] at h ⊢; exact ZiX hev h
 | some gw =>
  obtain ⟨i, b⟩ := gw
  simp only [hg] at h ⊢
  have hgrd : grd (upd s d u) (ops.toList.map (·.dst)) i b = grd s (ops.toList.map (·.dst)) i b := by
   unfold grd
   simp only [Ys, Yk]
   cases ho : ops[i]? with
   | none => rfl
   | some oi =>
    cases hdi : oi.dst with
    | none => simp [hdi]
    | some t =>
     have hne : t ≠ d := fun e => hd (by subst e; simp [Oper.looksAt, hg, ho, hdi])
     simp [hdi, upd, hne]
  rw [hgrd] at h
  split at h
  ·rename_i t ht
   exact ⟨fun e => ZiX hev (h.1 e), h.2⟩
  ·exact h
theorem Zra {o : Oper} {s : Nat → AV} {v u : AV} {d : Nat} (hd : d ∉ o.looksAt ops) (h : YA P l H ops o s v) : YA P l H ops o (upd s d u) v := by
 refine Zqx (d := d) (u := s d) hd ?_
 have : upd (upd s d u) d (s d) = s := by funext j; unfold upd; split <;> simp_all
 grind
theorem Zoq {s : Nat → AV} {d e : Nat} {u v : AV} (h : d ≠ e) : upd (upd s d u) e v = upd (upd s e v) d u := by
 funext j
 unfold upd
 grind
end
end Go.Eng
namespace Go.Eng
set_option linter.all false
open Go Go.RowKit
def ZgV : List Operand → List Nat
 | [] => []
 | .tmp t :: r => t :: ZgV r
 | _ :: r => ZgV r
def Zur : List (Option Nat) → Nat → Option Nat
 | [], _ => none
 | x :: _, 0 => x
 | _ :: r, i + 1 => Zur r i
def Zee (ds : List (Option Nat)) (o : Oper) : List Nat :=
 ZgV o.op.operands.toList ++ match o.guard with
  | some (g, _) => (match Zur ds g with | some d => [d] | none => [])
  | none => []
def Zeg : List (Nat × Nat) → Nat → Option Nat
 | [], _ => none
 | (d, k) :: r, t => match Nat.beq d t with | true => some k | false => Zeg r t
def onE (o : Oper) (i : Nat) : Bool := o.after.toList.any fun e => Region.binds .any e && Nat.beq e.on i
def clear (o : Oper) (d : Nat) : List (Nat × Nat) → Bool
 | [] => true
 | (t, i) :: r => (match Nat.beq t d with | true => onE o i | false => true) && clear o d r
theorem Zjb {o : Oper} {d i : Nat} : ∀ {l : List (Nat × Nat)}, clear o d l = true → (d, i) ∈ l → onE o i = true
 | [], _, h => by cases h
 | (t, j) :: r, hc, h => by
  simp only [clear, Yc] at hc
  rcases Yo.1 h with h | h
  ·cases h
   have := hc.1
   rw [Ybs] at this
   exact this
  ·exact Zjb hc.2 h
def ZjV (ds : List (Option Nat)) : Nat → List (Nat × Nat) → List (Nat × Nat) → List Oper → Bool
 | _, _, _, [] => true
 | k, seen, looked, o :: r =>
  (o.after.toList.all fun e => !Region.binds .any e || Nat.ble (e.on + 1) k) &&
  ((Zee ds o).all fun t => match Zeg seen t with | some i => onE o i | none => true) &&
  match o.dst with
  | some d => (Zeg seen d).isNone && clear o d looked && ZjV ds (k + 1) ((d, k) :: seen) ((Zee ds o).map (·, k) ++ looked) r
  | none => ZjV ds (k + 1) seen ((Zee ds o).map (·, k) ++ looked) r
def Zpf : List Oper → Bool
 | [] => true
 | o :: r => (match o.op with | .select _ _ => false | _ => true) && Zpf r
def Zt4 (ops : List Oper) : Bool := Zpf ops && ZjV (ops.map (·.dst)) 0 [] [] ops
theorem ZnU (xs : List Operand) : ZgV xs = xs.filterMap fun | .tmp t => some t | _ => none := by
 induction xs with
 | nil => rfl
 | cons x xs ih => cases x <;> simp [ZgV, ih]
theorem Zof : ∀ (ds : List (Option Nat)) (i : Nat), Zur ds i = (ds[i]?).join
 | [], i => by simp [Zur]
 | x :: r, 0 => by simp [Zur]
 | x :: r, i + 1 => by simp [Zur, Zof r i]
theorem Zjp (ops : List Oper) (o : Oper) : Zee (ops.map (·.dst)) o = o.looksAt ops.toArray := by
 unfold Zee Oper.looksAt
 rw [ZnU]
 congr 1
 cases hg : o.guard with
 | none => rfl
 | some gb =>
  obtain ⟨g, b⟩ := gb
  simp only
  rw [Zof, Ys]
  simp only [Ya1]
  cases ops[g]? with
  | none => rfl
  | some o' => simp only [YH, Option.join_some, Option.bind_some]; cases o'.dst <;> rfl
structure FInv (ds : List (Option Nat)) (pre : List Oper) (seen : List (Nat × Nat)) (looked : List (Nat × Nat)) : Prop where
 s1 : ∀ d i, Zeg seen d = some i → ∃ o, pre[i]? = some o ∧ o.dst = some d
 s2 : ∀ (i : Nat) (o : Oper) (d : Nat), pre[i]? = some o → o.dst = some d → Zeg seen d = some i
 lo : ∀ (i : Nat) (o : Oper), pre[i]? = some o → ∀ t ∈ Zee ds o, (t, i) ∈ looked
def Zi7 (ds : List (Option Nat)) (x y : Oper) : Prop := (∀ d, x.dst = some d → d ∉ Zee ds y ∧ y.dst ≠ some d) ∧ (∀ d, y.dst = some d → d ∉ Zee ds x)
theorem ZeU (ds : List (Option Nat)) : ∀ (rest pre : List Oper) (seen looked : List (Nat × Nat)), FInv ds pre seen looked → ZjV ds pre.length seen looked rest = true →
  ∀ (j : Nat) (oj : Oper), rest[j]? = some oj → (∀ e ∈ oj.after, Region.binds .any e = true → e.on < pre.length + j) ∧
   ∀ (i : Nat) (oi : Oper), i < pre.length + j → (pre ++ rest)[i]? = some oi → onE oj i = true ∨ Zi7 ds oi oj
 | [], pre, seen, looked, hI, h, j, oj, hj => by simp at hj
 | o :: r, pre, seen, looked, hI, h, j, oj, hj => by
  simp only [ZjV, Yc] at h
  obtain ⟨⟨h1, h2⟩, h3⟩ := h
  cases j with
  | zero =>
   simp only [YO, Ye] at hj
   subst hj
   refine ⟨fun e he hb => ?_, fun i oi hi ho => ?_⟩
   ·have := Yj.1 h1 e (by simpa using he)
    simp only [hb, YbJ, YaW] at this
    have := Yf this
    omega
   ·rw [Yi (by omega)] at ho
    by_cases hon : onE o i = true
    ·exact .inl hon
    ·right
     refine ⟨fun d hd => ⟨fun hm => ?_, fun hd' => ?_⟩, fun d hd hm => ?_⟩
     ·have := Yj.1 h2 d hm
      rw [hI.s2 i oi d ho hd] at this
      exact hon this
     ·rw [hd'] at h3
      simp only [Yc] at h3
      have := h3.1.1
      rw [hI.s2 i oi d ho hd] at this
      cases this
     ·rw [hd] at h3
      simp only [Yc] at h3
      exact hon (Zjb h3.1.2 (hI.lo i oi ho d hm))
  | succ j =>
   simp only [YV] at hj
   have hlook : ∀ (seen' : List (Nat × Nat)), (∀ d i, Zeg seen' d = some i → ∃ o', (pre ++ [o])[i]? = some o' ∧ o'.dst = some d) → (∀ (i : Nat) (o' : Oper) (d : Nat), (pre ++ [o])[i]? = some o' → o'.dst = some d → Zeg seen' d = some i) →
     FInv ds (pre ++ [o]) seen' ((Zee ds o).map (·, pre.length) ++ looked) := fun seen' a b => ⟨a, b, fun i o' ho t ht => by
    rcases Yam i pre.length with hlt | heq | hgt
    ·rw [Yi hlt] at ho; exact Yar _ (hI.lo i o' ho t ht)
    ·subst heq; simp at ho; subst ho; exact YN _ (Yr.2 ⟨t, ht, rfl⟩)
    ·rw [YC (by simp; omega)] at ho; cases ho⟩
   have fin : ∀ seen', FInv ds (pre ++ [o]) seen' ((Zee ds o).map (·, pre.length) ++ looked) → ZjV ds (pre.length + 1) seen' ((Zee ds o).map (·, pre.length) ++ looked) r = true → _ := fun seen' hI' hg =>
    ZeU ds r (pre ++ [o]) seen' ((Zee ds o).map (·, pre.length) ++ looked) hI' (by simpa using hg) j oj hj
   have conv : (∀ e ∈ oj.after, Region.binds .any e = true → e.on < (pre ++ [o]).length + j) ∧ (∀ (i : Nat) (oi : Oper), i < (pre ++ [o]).length + j → (pre ++ [o] ++ r)[i]? = some oi → onE oj i = true ∨ Zi7 ds oi oj) →
     (∀ e ∈ oj.after, Region.binds .any e = true → e.on < pre.length + (j + 1)) ∧ (∀ (i : Nat) (oi : Oper), i < pre.length + (j + 1) → (pre ++ o :: r)[i]? = some oi → onE oj i = true ∨ Zi7 ds oi oj) := by
    rintro ⟨a, b⟩
    simp only [List.length_append, Y5, YaB, YS, YaY, Yak] at a b
    exact ⟨fun e he hb => by have := a e he hb; omega, fun i oi hi ho => b i oi (by omega) ho⟩
   split at h3
   ·rename_i d hd
    simp only [Yc] at h3
    obtain ⟨⟨h4, h5⟩, h6⟩ := h3
    have hnone : Zeg seen d = none := by cases hf : Zeg seen d with | none => rfl | some i => rw [hf] at h4; cases h4
    refine conv (fin _ (hlook ((d, pre.length) :: seen) (fun d' i hf => ?_) (fun i o' d' ho hd' => ?_)) h6)
    ·simp only [Zeg] at hf
     split at hf
     ·rename_i he; cases hf; rw [← Ya he]; exact ⟨o, by simp, hd⟩
     ·obtain ⟨o', a, b⟩ := hI.s1 d' i hf
      refine ⟨o', ?_, b⟩
      rw [Yi]; exact a
      rcases Yt i pre.length with hlt | hge
      ·exact hlt
      ·rw [YC hge] at a; cases a
    ·simp only [Zeg]
     rcases Yam i pre.length with hlt | heq | hgt
     ·rw [Yi hlt] at ho
      have := hI.s2 i o' d' ho hd'
      split
      ·rename_i he
       rw [← Ya he, hnone] at this; cases this
      ·exact this
     ·subst heq; simp at ho; subst ho; rw [hd] at hd'; cases hd'; simp
     ·rw [YC (by simp; omega)] at ho; cases ho
   ·rename_i hd
    refine conv (fin _ (hlook seen (fun d' i hf => ?_) (fun i o' d' ho hd' => ?_)) h3)
    ·obtain ⟨o', a, b⟩ := hI.s1 d' i hf
     refine ⟨o', ?_, b⟩
     rw [Yi]; exact a
     rcases Yt i pre.length with hlt | hge
     ·exact hlt
     ·rw [YC hge] at a; cases a
    ·rcases Yam i pre.length with hlt | heq | hgt
     ·rw [Yi hlt] at ho; exact hI.s2 i o' d' ho hd'
     ·subst heq; simp at ho; subst ho; rw [hd] at hd'; cases hd'
     ·rw [YC (by simp; omega)] at ho; cases ho
theorem Zg9 {ops : List Oper} {x y : Oper} (h : Zi7 (ops.map (·.dst)) x y) : x.apart ops.toArray y = true := by
 obtain ⟨h1, h2⟩ := h
 rw [Zjp] at h2
 have h1' : ∀ d, x.dst = some d → d ∉ y.looksAt ops.toArray ∧ y.dst ≠ some d := fun d hd => by have := h1 d hd; rw [Zjp] at this; exact this
 unfold Oper.apart
 grind
theorem ZfQ {ops : Array Oper} (h1 : ∀ (j : Nat) (oj : Oper), ops[j]? = some oj → ∀ e ∈ oj.after, Region.binds .any e = true → e.on < j)
  (h2 : ∀ (i j : Nat) (oi oj : Oper), i < j → ops[i]? = some oi → ops[j]? = some oj → onE oj i = true ∨ oi.apart ops oj = true) :
  ∀ (fuel k : Nat) (listed : Array Bool), fuel + k = ops.size → listed.size = ops.size → (∀ j, j < ops.size → listed[j]? = some (decide (j < k))) → Region.lexFrom .any ops fuel k listed = true
 | 0, k, listed, hf, hs, hl => by
  simp only [Region.lexFrom]
  rw [List.isEmpty_iff, Region.ready, YaU]
  intro i hi
  have hi := Yaa.1 hi
  have := hl i hi
  simp [Yq, this]
  omega
 | fuel + 1, k, listed, hf, hs, hl => by
  have hk : k < ops.size := by omega
  have hok : ops[k]? = some ops[k] := Yh hk
  simp only [Region.lexFrom, Yc]
  refine ⟨⟨?_, ?_⟩, ZfQ h1 h2 fuel (k + 1) _ (by omega) (by simp [hs]) (fun j hj => ?_)⟩
  ·rw [List.contains_iff_mem]
   unfold Region.ready
   refine YJ.2 ⟨Yaa.2 hk, ?_⟩
   rw [Yc]
   refine ⟨by simp [Yq, hl k hk], ?_⟩
   rw [hok]
   simp only [YH, Y4]
   rw [Array.all_eq_true_iff_forall_mem]
   intro e he
   by_cases hb : Region.binds .any e = true
   ·have := h1 k _ hok e he hb
    simp [Yq, hl e.on (by omega), this]
   grind
  ·unfold Region.free
   rw [hok]
   simp only [Yj, Yaa]
   intro j hj
   rw [Yz, Yz]
   rcases Yam j k with hlt | heq | hgt
   ·left; right; simp [Yq, hl j hj, hlt]
   ·grind
   ·right
    rw [Yh hj]
    simp only
    rw [Yz]
    rcases h2 k j _ _ hgt hok (Yh hj) with h | h
    ·left
     unfold onE at h
     obtain ⟨e, he, h⟩ := YL.1 h
     rw [← Array.any_toList]
     exact YL.2 ⟨e, he, by simpa using h⟩
    grind
  grind
theorem ZjY {ops : List Oper} (h : Zt4 ops = true) : Region.lexB .any ops.toArray = true := by
 unfold Zt4 at h
 rw [Yc] at h
 have hsel : ∀ (l : List Oper), Zpf l = true → l.all (fun o => match o.op with | .select .. => false | _ => true) = true := fun l => by
  induction l with
  | nil => intro _; rfl
  | cons o l ih =>
   intro hn
   simp only [Zpf, Yc] at hn
   grind
 have key := ZeU (ops.map (·.dst)) ops [] [] [] ⟨fun d i hf => by simp [Zeg] at hf, fun i o d ho => by simp at ho, fun i o ho => by simp at ho⟩ h.2
 simp only [YaB, Yy, Yak] at key
 unfold Region.lexB
 rw [Yc]
 refine ⟨?_, ZfQ (fun j oj hj => (key j oj (by simpa using hj)).1) (fun i j oi oj hij hi hj => ?_) _ 0 _ rfl (by simp) (fun j hj => by simp at hj ⊢; simp [hj])⟩
 ·unfold Region.noSelect
  grind
 ·rcases (key j oj (by simpa using hj)).2 i oi hij (by simpa using hi) with a | a
  ·grind
  ·exact .inr (Zg9 a)
end Go.Eng
namespace Go.Eng
open Go
set_option linter.all false
def stB (o : Oper) : Bool := match o.op, o.dst, o.guard with
 | .store _ _ _, none, none => true
 | _, _, _ => false
def hlB (o : Oper) : Bool := match o.op with
 | .move _ => true
 | .binOp b _ _ _ _ => (match b with | .add => true | .sub => true | _ => false)
 | .indexAddr _ _ _ => true
 | .fieldAddr _ _ _ => true
 | .nilCheck _ => true
 | _ => false
def Zyu (H H' : Hp) : Prop := ∀ k, (H' k).g = (H k).g ∧ (H' k).live = (H k).live ∧ (H' k).sz = (H k).sz
def ZwY (L : List Oper) (p : Oper) (k : Nat) : Bool := onE p k || p.after.toList.any fun e => Region.binds .any e && (match L[e.on]? with | some om => onE om k | none => false)
def Zxx (L : List Oper) (o : Oper) (k : Nat) : Nat → List Oper → Bool
 | _, [] => true
 | j, p :: r => (match stB o with | true => onE p k | false => true) && (match stB p with | true => hlB o || ZwY L p k | false => true) && !onE o j && Zxx L o k (j + 1) r
def okS (L : List Oper) : Nat → List Oper → Bool
 | _, [] => true
 | k, o :: r => Zxx L o k (k + 1) r && okS L (k + 1) r
theorem Zml {L : List Oper} {o : Oper} {k : Nat} : ∀ {l : List Oper} {j i : Nat} {p : Oper}, Zxx L o k j l = true → l[i]? = some p → (stB o = true → onE p k = true) ∧ (stB p = true → hlB o = true ∨ ZwY L p k = true) ∧ onE o (j + i) = false
 | [], j, i, p, _, h => by simp at h
 | q :: r, j, i, p, hc, h => by
  simp only [Zxx, Yc, YQ] at hc
  cases i with
  | zero =>
   grind
  | succ i =>
   have := Zml hc.2 (i := i) (by simpa using h)
   grind
theorem ZqB {L : List Oper} : ∀ {l : List Oper} {k i j : Nat} {o p : Oper}, okS L k l = true → i < j → l[i]? = some o → l[j]? = some p → (stB o = true → onE p (k + i) = true) ∧ (stB p = true → hlB o = true ∨ ZwY L p (k + i) = true) ∧ onE o (k + j) = false
 | [], k, i, j, o, p, _, _, h, _ => by simp at h
 | q :: r, k, i, j, o, p, hc, hij, h, h' => by
  simp only [okS, Yc] at hc
  cases j with
  | zero => omega
  | succ j =>
   have h' : r[j]? = some p := by simpa using h'
   cases i with
   | zero =>
    simp only [YO, Ye] at h
    subst h
    have := Zml hc.1 h'
    grind
   | succ i =>
    have := ZqB hc.2 (Nat.lt_of_succ_lt_succ hij) (by simpa using h) h'
    grind
theorem Zgm {p : Oper} {k : Nat} (h : onE p k = true) (hno : ∀ e ∈ p.after, Region.binds .any e = true → e.on ≠ k) : False := by
 unfold onE at h
 rw [YL] at h
 obtain ⟨e, he, hb⟩ := h
 simp only [Yc] at hb
 exact hno e (by simpa using he) hb.1 (Ya hb.2)
section
variable {P : Program} {l n : Nat} {B : Base} {H H' : Hp} {ops : Array Oper} {ρ : Operand → AV}
theorem Zxp {o : Oper} {v : AV} (h : hlB o = true) (hs : Zyu H H') (hh : qV P l H o ρ v) : qV P l H' o ρ v := by
 obtain ⟨dst, op, type, pos, after, guard⟩ := o
 cases op <;> simp only [hlB] at h <;> first | (cases h; done) | skip
 case move => exact hh
 case nilCheck =>
  simp only [qV, vOp] at hh ⊢
  unfold ZqE at hh ⊢
  split at hh
  ·rename_i k g off _
   obtain ⟨h1, h2, h3⟩ := hs k
   grind
  ·exact hh
  ·grind
 case fieldAddr =>
  simp only [qV, vOp] at hh ⊢
  unfold ZaL at hh ⊢
  split at hh
  ·exact hh
  ·rename_i k g off o n _ _
   obtain ⟨h1, h2, h3⟩ := hs k
   grind
  ·grind
 case indexAddr =>
  simp only [qV, vOp] at hh ⊢
  unfold ZaJ at hh ⊢
  split at hh
  ·exact hh
  ·rename_i k g off len _ n _ sz _ _ _
   obtain ⟨h1, h2, h3⟩ := hs k
   grind
  ·grind
 case binOp =>
  simp only [qV, vOp] at hh ⊢
  unfold Zfk at hh ⊢
  split at hh
  ·exact hh
  ·exact hh
  ·grind
  ·exact hh
  ·grind
  ·grind
theorem ZyC {o : Oper} {s : Nat → AV} {v : AV} (h : hlB o = true) (hs : Zyu H H') (hh : YA P l H ops o s v) : YA P l H' ops o s v := by
 unfold YA at hh ⊢
 split at hh
 ·exact Zxp h hs hh
 ·split at hh
  ·exact ⟨fun e => Zxp h hs (hh.1 e), hh.2⟩
  grind
def StO (P : Program) (l : Nat) (o : Oper) (s : Nat → AV) (H H' : Hp) : Prop := match o.op with
 | .store t a x => match ev s a, ZaZ (ev s x) with
  | .ptr k g off, some vs => g = (H k).g ∧ (H k).live = true ∧ vs.length = P.cellsOf t ∧ vs ≠ [] ∧ off + vs.length ≤ (H k).cells.length ∧ (k.1 = l + 1 ∨ vs.all (AV.low k.1) = true) ∧
    H' = updH H k { H k with cells := (H k).cells.take off ++ vs ++ (H k).cells.drop (off + vs.length) }
  | _, _ => False
 | _ => False
theorem Zr6 {o : Oper} {s : Nat → AV} (h : StO P l o s H H') : Zyu H H' := by
 unfold StO at h
 split at h
 ·split at h
  ·obtain ⟨_, _, _, _, _, _, rfl⟩ := h
   intro k
   unfold updH
   grind
  grind
 grind
theorem Zu5 {o : Oper} {s : Nat → AV} {K : St → Prop} (hs : stB o = true) (h : rOp P l n o K ⟨s, H⟩) : ∃ H', StO P l o s H H' ∧ K ⟨s, H'⟩ := by
 obtain ⟨dst, op, type, pos, after, guard⟩ := o
 cases op <;> simp only [stB] at hs <;> first | (cases hs; done) | skip
 cases dst with
 | some d => cases hs
 | none =>
  simp only [rOp] at h
  simp only [StO]
  grind
theorem ZvP {o : Oper} {s : Nat → AV} {K : St → Prop} (hs : stB o = true) (h : StO P l o s H H') (hK : K ⟨s, H'⟩) : rOp P l n o K ⟨s, H⟩ := by
 obtain ⟨dst, op, type, pos, after, guard⟩ := o
 cases op <;> simp only [stB] at hs <;> first | (cases hs; done) | skip
 cases dst with
 | some d => cases hs
 | none =>
  simp only [StO] at h
  simp only [rOp]
  grind
theorem ZtH {o : Oper} {s : Nat → AV} {d : Nat} {u : AV} (hd : d ∉ o.looksAt ops) (h : StO P l o (upd s d u) H H') : StO P l o s H H' := by
 have hev : ∀ x ∈ o.op.operands, ev (upd s d u) x = ev s x := fun x hx => by
  cases x with
  | tmp t =>
   have hne : t ≠ d := fun e => hd (by
    subst e
    exact YN _ (Ybi.2 ⟨.tmp t, by simpa using hx, rfl⟩))
   simp [ev, upd, hne]
  | _ => rfl
 unfold StO at h ⊢
 split at h
 ·rename_i t a x ho
  rw [hev a (by rw [ho]; simp [Op.operands]), hev x (by rw [ho]; simp [Op.operands])] at h
  exact h
 grind
def opS (P : Program) (l n : Nat) (ops : Array Oper) (i : Nat) (K : St → Prop) (σ : St) : Prop :=
 match ops[i]? with
 | none => K σ
 | some o => (Zby o = true ∧ ∃ d v, o.dst = some d ∧ d < n ∧ YA P l σ.H ops o σ.s v ∧ K ⟨upd σ.s d v, σ.H⟩) ∨ (stB o = true ∧ ∃ H', StO P l o σ.s σ.H H' ∧ K ⟨σ.s, H'⟩)
def Zuz (P : Program) (l n : Nat) (ops : Array Oper) (Q : St → Prop) : Nat → Array Bool → St → Prop
 | 0, listed, σ => Region.ready .any ops listed = [] ∧ Q σ
 | fuel + 1, listed, σ => (Region.ready .any ops listed = [] → Q σ) ∧ ∀ i ∈ Region.ready .any ops listed, opS P l n ops i (Zuz P l n ops Q fuel (listed.setIfInBounds i true)) σ
theorem ZoW {i : Nat} {K K' : St → Prop} {σ : St} (h : ∀ s, K s → K' s) (hh : opS P l n ops i K σ) : opS P l n ops i K' σ := by
 unfold opS at *
 grind
theorem Ztt {i j : Nat} {oi oj : Oper} {d : Nat} {v : AV} (hj : ops[j]? = some oj) (hdi : oi.dst = some d) (hap : oi.apart ops oj = true) (hhl : stB oj = true → hlB oi = true) {K : St → Prop} {s : Nat → AV}
  (hy : YA P l H ops oi s v) (h : opS P l n ops j K ⟨upd s d v, H⟩) : opS P l n ops j (fun σ' => YA P l σ'.H ops oi σ'.s v ∧ K ⟨upd σ'.s d v, σ'.H⟩) ⟨s, H⟩ := by
 obtain ⟨h1, h2, h3⟩ := Oper.apart_spec hap
 unfold opS at *
 simp only [hj] at *
 rcases h with ⟨h0, e, u, he, hen, hu, hK⟩ | ⟨h0, H', hu, hK⟩
 ·refine .inl ⟨h0, e, u, he, hen, Zqx (h1 d hdi) hu, Zra (h3 e he) hy, ?_⟩
  have hne : d ≠ e := fun e' => h2 d hdi (e' ▸ he)
  rw [Zoq (Ne.symm hne)]
  exact hK
 ·exact .inr ⟨h0, H', ZtH (h1 d hdi) hu, ZyC (hhl h0) (Zr6 hu) hy, hK⟩
theorem ZkI {Q : St → Prop} {i : Nat} {oi : Oper} {d : Nat} {v : AV} (hi : ops[i]? = some oi) (hq : Zby oi = true) (hdi : oi.dst = some d) (hdn : d < n) :
  ∀ (fuel : Nat) (listed : Array Bool) (s : Nat → AV) (H : Hp),
   (∀ j oj, ops[j]? = some oj → j ≠ i → listed.getD j true = false → (∀ e ∈ oj.after, Region.binds .any e = true → e.on ≠ i ∧ ∀ om, ops[e.on]? = some om → onE om i = false) → oi.apart ops oj = true ∧ (stB oj = true → hlB oi = true)) →
   (∀ m om, ops[m]? = some om → onE om i = true → listed.getD m true = false) → i ∈ Region.ready .any ops listed → YA P l H ops oi s v →
   Zuz P l n ops Q fuel (listed.setIfInBounds i true) ⟨upd s d v, H⟩ → Zuz P l n ops Q (fuel + 1) listed ⟨s, H⟩ := by
 have self : ∀ {K : St → Prop} {s : Nat → AV} {H : Hp}, YA P l H ops oi s v → K ⟨upd s d v, H⟩ → opS P l n ops i K ⟨s, H⟩ := fun hy hK => by
  unfold opS; simp only [hi]; exact .inl ⟨hq, d, v, hdi, hdn, hy, hK⟩
 intro fuel
 induction fuel with
 | zero =>
  intro listed s H _ hu hr hy HH
  refine ⟨fun h => (by rw [h] at hr; cases hr), fun j hj => ?_⟩
  by_cases hji : j = i
  ·subst hji; exact self hy HH
  ·have := ready_mono hj hji
   rw [HH.1] at this
   cases this
 | succ fuel ih =>
  intro listed s H hfree hu hr hy HH
  refine ⟨fun h => (by rw [h] at hr; cases hr), fun j hj => ?_⟩
  by_cases hji : j = i
  ·subst hji; exact self hy HH
  ·have h1 := HH.2 j (ready_mono hj hji)
   obtain ⟨hjun, oj, hoj, hall⟩ := mem_ready.1 hj
   have hnot : ∀ e ∈ oj.after, Region.binds .any e = true → e.on ≠ i := fun e he hb heq => by
    have h1 := hall e he hb
    have h0 := (mem_ready.1 hr).1
    rw [heq] at h1
    rcases Yt i listed.size with h' | h'
    ·simp [h'] at h0 h1; rw [h0] at h1; cases h1
    ·simp [YY h'] at h1
   have hnot2 : ∀ e ∈ oj.after, Region.binds .any e = true → e.on ≠ i ∧ ∀ om, ops[e.on]? = some om → onE om i = false := fun e he hb => ⟨hnot e he hb, fun om hom => by
    cases ho : onE om i with
    | false => rfl
    | true =>
     have h1 := hall e he hb
     have h0 := hu _ om hom ho
     rcases Yt e.on listed.size with h' | h'
     ·simp [h'] at h0 h1; rw [h0] at h1; cases h1
     ·simp [YY h'] at h1⟩
   have hf := hfree j oj hoj hji hjun hnot2
   have h2 := Ztt (i := i) hoj hdi hf.1 hf.2 hy h1
   have hfree' : ∀ k ok, ops[k]? = some ok → k ≠ i → (listed.setIfInBounds j true).getD k true = false →
     (∀ e ∈ ok.after, Region.binds .any e = true → e.on ≠ i ∧ ∀ om, ops[e.on]? = some om → onE om i = false) → oi.apart ops ok = true ∧ (stB ok = true → hlB oi = true) := fun k ok hk hki hun hno => by
    refine hfree k ok hk hki ?_ hno
    by_cases hjk : j = k
    ·subst hjk; exact hjun
    ·rw [getD_set_ne true hjk] at hun; exact hun
   have hu' : ∀ m om, ops[m]? = some om → onE om i = true → (listed.setIfInBounds j true).getD m true = false := fun m om hm ho => by
    by_cases hjm : j = m
    ·subst hjm
     rw [hoj] at hm
     cases hm
     exact (Zgm ho hnot).elim
    ·rw [getD_set_ne true hjm]; exact hu m om hm ho
   refine ZoW (fun σ' h3 => ih (listed.setIfInBounds j true) σ'.s σ'.H hfree' hu' (ready_mono hr (Ne.symm hji)) h3.1 ?_) h2
   rw [YaP _ _ hji]
   exact h3.2
theorem ZiW {K : St → Prop} (hgl : ∀ i j oi oj, i < j → ops[i]? = some oi → ops[j]? = some oj → (stB oi = true → onE oj i = true) ∧ (stB oj = true → hlB oi = true ∨ ZwY ops.toList oj i = true) ∧ onE oi j = false) :
  ∀ (rest : List Oper) (k : Nat) (listed : Array Bool) (s : Nat → AV) (H : Hp), rest.all (fun o => Zby o || stB o) = true → (∀ j, rest[j]? = ops[k + j]?) → (∀ j, listed.getD j true = false → k ≤ j) → (∀ j, k ≤ j → j < ops.size → listed.getD j true = false) →
  Region.lexFrom .any ops rest.length k listed = true → Zif P l n (ops.toList.map (·.dst)) rest K ⟨s, H⟩ → Zuz P l n ops K rest.length listed ⟨s, H⟩
 | [], _, _, _, _, _, _, _, _, hB, h => ⟨by simpa [Region.lexFrom] using hB, h⟩
 | o :: rest, k, listed, s, H, hq, hl, hk, hk2, hB, h => by
  have h0 : ops[k]? = some o := by simpa using (hl 0).symm
  simp only [Y5, Region.lexFrom, Yc] at hB
  obtain ⟨⟨hr, hf⟩, hB'⟩ := hB
  have hr : k ∈ Region.ready .any ops listed := by simpa using hr
  simp only [YaA, Yc, Yz] at hq
  have hk' : ∀ j, (listed.setIfInBounds k true).getD j true = false → k + 1 ≤ j := fun j hj => by
   by_cases hjk : k = j
   ·subst hjk
    exfalso
    rcases Yt k listed.size with h' | h'
    ·simp [h'] at hj
    grind
   ·rw [getD_set_ne true hjk] at hj
    grind
  have hk2' : ∀ j, k + 1 ≤ j → j < ops.size → (listed.setIfInBounds k true).getD j true = false := fun j h1 h2 => by
   rw [getD_set_ne true (by omega)]
   grind
  have hu : ∀ m om, ops[m]? = some om → onE om k = true → listed.getD m true = false := fun m om hm ho => by
   grind
  have hl' : ∀ j, rest[j]? = ops[k + 1 + j]? := fun j => by have := hl (j + 1); simpa [Yv, Ybt 1 j] using this
  have next : ∀ s' H', Zif P l n (ops.toList.map (·.dst)) rest K ⟨s', H'⟩ → Zuz P l n ops K rest.length (listed.setIfInBounds k true) ⟨s', H'⟩ := fun s' H' h' =>
   ZiW hgl rest (k + 1) _ s' H' (by simpa using hq.2) hl' hk' hk2' hB' h'
  by_cases hst0 : stB o = true
  ·
   have hg : o.guard = none := by
    cases hg : o.guard with
    | none => rfl
    | some _ => obtain ⟨dst, op, type, pos, after, guard⟩ := o; simp only at hg; subst hg; cases op <;> cases dst <;> simp [stB] at hst0
   have hrOp : rOp P l n o (Zif P l n (ops.toList.map (·.dst)) rest K) ⟨s, H⟩ := by
    unfold Zif at h
    simp only [hg] at h
    unfold ZkT at h
    split at h
    ·rename_i hc; simp [stB, hc] at hst0
    ·rename_i c hc; simp [stB, hc] at hst0
    ·exact h
   obtain ⟨H', hS, hK⟩ := Zu5 hst0 hrOp
   refine ⟨fun h => (by rw [h] at hr; cases hr), fun j hj => ?_⟩
   by_cases hjk : j = k
   ·subst hjk
    unfold opS
    grind
   ·exfalso
    obtain ⟨hjun, oj, hoj, hall⟩ := mem_ready.1 hj
    have hkj := hk j hjun
    have he := (hgl k j o oj (by omega) h0 hoj).1 hst0
    refine Zgm he fun e he hb heq => ?_
    grind
  ·have hq1 : Zby o = true := by rcases hq.1 with h | h; exact h; exact absurd h hst0
   have hst : ∃ d v, o.dst = some d ∧ d < n ∧ YA P l H ops o s v ∧ Zif P l n (ops.toList.map (·.dst)) rest K ⟨upd s d v, H⟩ := by
    unfold Zif at h
    unfold YA
    cases hg : o.guard with
    | none => simp only [hg] at h; exact ZiR hq1 h
    | some gw =>
     obtain ⟨i, b⟩ := gw
     simp only [hg] at h ⊢
     split at h
     ·rename_i t ht
      cases t with
      | true =>
       obtain ⟨d, v, h1, h2, h3, h4⟩ := ZiR hq1 (h.1 rfl)
       grind
      | false =>
       grind
     grind
   obtain ⟨d, v, hd, hdn, hy, hK⟩ := hst
   refine ZkI h0 hq1 hd hdn rest.length listed s H (fun j oj hoj hjk hjun hno => ⟨Region.free_spec h0 hf j oj hoj hjk hjun (fun e he hb => (hno e he hb).1), fun hsj => ?_⟩) hu hr hy (next _ _ hK)
   have hkj := hk j hjun
   rcases (hgl k j o oj (by omega) h0 hoj).2.1 hsj with h | h
   ·exact h
   ·exfalso
    unfold ZwY at h
    rw [Yz] at h
    rcases h with h | h
    ·exact Zgm h fun e he hb => (hno e he hb).1
    ·obtain ⟨e, he, hb⟩ := YL.1 h
     rw [Yc] at hb
     obtain ⟨hb1, hb2⟩ := hb
     split at hb2
     ·grind
     grind
theorem ZiI {i : Nat} {σ : St} {a : Act} {w : World} {K : St → Prop} {K' : Act → World → Prop} {Q' : Exit → Act → World → Prop} (hR : R l n B σ a w)
  (h : ∀ σ a w, R l n B σ a w → K σ → K' a w) (hh : opS P l n ops i K σ) : wpOp P ops Q' i K' a w := by
 obtain ⟨s, H⟩ := σ
 unfold opS at hh
 unfold wpOp
 split
 ·grind
 ·rename_i o ho
  simp only [ho] at hh
  rcases hh with ⟨ho', d, v, hd, hdn, hy, hK⟩ | ⟨hst, H', hS, hK⟩
  ·have go : qV P l H o (ev s) v → o.wp P a w K' Q' := fun hv => by
    have := Zwr (B := B) ho' hd hdn hv a w hR Q'
    refine Oper.wp_mono (fun a' w' ⟨σ', e, hR'⟩ => ?_) this
    grind
   unfold YA at hy
   cases hg : o.guard with
   | none =>
    simp only [hg] at hy
    rw [if_pos (by simp [Region.wanted, hg])]
    grind
   | some gw =>
    obtain ⟨j, b⟩ := gw
    simp only [hg] at hy
    split at hy
    ·rename_i t ht
     have hyd : (yielded ops a.tmps j == some b) = t := by
      obtain ⟨m, S, hO, hn, hdf, hS, hex⟩ := hR.un
      exact ZhP hS ht
     cases t with
     | true =>
      rw [if_pos (by simp only [Region.wanted, hg]; exact hyd)]
      grind
     | false =>
      rw [if_neg (by simp only [Region.wanted, hg, hyd]; decide)]
      have := hy.2 rfl
      subst this
      rw [hd]
      exact h _ _ _ (R.undef hR hdn) hK
    grind
  ·have hg : o.guard = none := by
    cases hg : o.guard with
    | none => rfl
    | some _ => obtain ⟨dst, op, type, pos, after, guard⟩ := o; simp only at hg; subst hg; cases op <;> cases dst <;> simp [stB] at hst
   rw [if_pos (by simp [Region.wanted, hg])]
   refine .inl ?_
   have := Zcv (B := B) (ZvP (n := n) (K := fun σ' => σ' = ⟨s, H'⟩) hst hS rfl) a w hR Q'
   refine Oper.wp_mono (fun a' w' ⟨σ', e, hR'⟩ => ?_) this
   grind
theorem ZdI {Q : St → Prop} {Q' : Exit → Act → World → Prop} (hQ : ∀ σ a w, R l n B σ a w → Q σ → Q' .normal a w) : ∀ (fuel : Nat) (listed : Array Bool) (σ : St) (a : Act) (w : World), R l n B σ a w →
  Zuz P l n ops Q fuel listed σ → wpAny P .any ops Q' fuel listed a w
 | 0, _, _, _, _, hR, h => ⟨h.1, hQ _ _ _ hR h.2⟩
 | fuel + 1, _, _, _, _, hR, h => ⟨fun h0 => hQ _ _ _ hR (h.1 h0), fun i hi => ZiI hR (fun s' a' w' hR' hA => ZdI hQ fuel _ s' a' w' hR' hA) (h.2 i hi)⟩
theorem ZkL {id : Nat} {ops : List Oper} {σ : St} {Q : Exit → St → Prop} (hm : P.follows .mixedOrders = true) (hB : Region.lexB .any ops.toArray = true) (hq : ops.all (fun o => Zby o || stB o) = true) (hs : okS ops 0 ops = true)
  (h : Zif P l n (ops.map (·.dst)) ops (Q .normal) σ) : AWp P l n B (.region id ops.toArray true) Q σ := by
 intro a w hR
 obtain ⟨s, H⟩ := σ
 simp only [Region.lexB, Yc] at hB
 have hA := ZiW (P := P) (l := l) (n := n) (ops := ops.toArray) (K := Q .normal) (fun i j oi oj hij hi hj => by
   have := ZqB hs hij (by simpa using hi) (by simpa using hj)
   simpa using this) ops 0 (Array.replicate ops.toArray.size false) s H hq (by simp) (fun _ _ => Yax _) (fun j _ h => by simp at h; simp [h]) (by simpa using hB.2) (by simpa using h)
 have hR' : R l n B ⟨s, H⟩ a { w with drawn := w.drawn + 1 } := by
  obtain ⟨m, S, hO, hn, hdf, hS, hex⟩ := hR.un
  obtain ⟨h1, h2⟩ := hO.drew (w' := { w with drawn := w.drawn + 1 }) rfl rfl rfl rfl
  exact R.keep h1 hn hdf hS hex h2
 refine wp_region_any hm (ZdI (Q := Q .normal) (fun σ' a' w' hR'' hq' => ⟨_, hq', hR''⟩) _ _ _ a _ hR' (by simpa using hA))
end
end Go.Eng
namespace Go.Eng
set_option linter.all false
open Go Go.RowKit
def Zwy (P : Program) (t : TypeId) (i : Nat) : Option (Nat × Nat × Bool) :=
 match P.underlying t with
 | some (.struct fs) => (fs[i]?).bind fun f => (ZhW P f.type).map fun b => (f.offset, P.cellsOf f.type, b)
 | _ => none
def Zwg (o : Option (Nat × Nat × Bool)) (x : AV) (K : AV → Prop) : Prop :=
 match o, x with
 | some (o, n, true), .agg cs => n ≠ 0 ∧ K (.agg ((cs.drop o).take n))
 | some (o, _, false), .agg cs => (match cs[o]? with | some c => K c | none => False)
 | _, _ => False
theorem Zl5 {P : Program} {t : TypeId} {i : Nat} {x : AV} {K : AV → Prop} : Zcq P t i x K = Zwg (Zwy P t i) x K := by
 unfold Zcq Zwy
 cases x with
 | agg cs =>
  cases hu : P.underlying t with
  | none => rfl
  | some d =>
   cases d with
   | struct fs =>
    simp only
    cases hf : fs[i]? with
    | none => rfl
    | some f =>
     simp only [Option.bind_some]
     cases ha : ZhW P f.type with
     | none => rfl
     | some b => cases b <;> rfl
   | _ => rfl
 | _ =>
  have e : ∀ (o : Option (Nat × Nat × Bool)) (y : AV), (∀ cs, y ≠ .agg cs) → Zwg o y K = False := fun o y h => by
   unfold Zwg
   grind
  grind
structure fins (P : Program) (l : Nat) (H : Hp) (rs : List ResultVar) (Post : AV → Hp → Prop) (e : Exit) (σ : St) : Prop where
 he : e = .normal ∨ e = .ret
 hy : ZiP P σ rs (fun xs => ∃ y, Fz σ.H l (Zht xs) y ∧ Post y (mrg l σ.H H))
inductive Fit : D → Prop
 | int (k : IntKind) (n : Int) : Fit (.int k n)
 | bool (b : Bool) : Fit (.bool b)
 | str (s : ByteArray) (h : s.size < 2147483648) : Fit (.str s)
 | list (es : List (List D)) (hl : es.length < 2147483648) (h : ∀ e ∈ es, ∀ x ∈ e, Fit x) : Fit (.list es)
def Zuw (l : List D) : Prop := ∀ d ∈ l, Fit d
theorem Fit.len {α : Type} {e : α → List D} {xs : List α} (h : Fit (.list (xs.map e))) : xs.length < 2147483648 := by
 cases h with | list _ hl h => simpa using hl
theorem Fit.mem {α : Type} {e : α → List D} {xs : List α} (h : Fit (.list (xs.map e))) {x : α} (hx : x ∈ xs) : Zuw (e x) := by
 cases h with | list _ hl h => exact h _ (Yaz hx)
theorem Zuw.at {l : List D} (h : Zuw l) (i : Nat) {d : D} (hi : l[i]? = some d) : Fit d := h d (Ym hi)
theorem Zuw.sub {l : List D} (h : Zuw l) (i n : Nat) {m : List D} (hi : (l.drop i).take n = m) : Zuw m := by
 subst hi
 exact fun d hd => h d (Ya4 (Ya5 hd))
def nrm : AV → AV
 | .e0 => .d (.list [])
 | .agg xs => .agg (xs.map fun x => match x with | .e0 => .d (.list []) | x => x)
 | x => x
section
variable {P : Program} {l n : Nat} {B : Base} {H H' : Hp} {K : St → Prop} {σ σ' : St} {Q : Exit → St → Prop} {s : Nat → AV} {ds : List (Option Nat)} {d : Option Nat} {op : Op} {ty : TypeId} {ps : String} {af : Array Edge} {rest : List Oper}
 {g : Option (Nat × Bool)} {x y : Operand} {t : TypeId}
theorem Zga {a b : Code} (h : AWp P l n B a (ZuD (AWp P l n B b Q) Q) σ) : AWp P l n B (.seq a b) Q σ := Zsr fun _ hK => ZbN h fun e σ' h => by
 cases e <;> first | exact hK σ' h | exact h
theorem ZpT {f : FuncId} {fn : Func} (rs : List ResultVar) {c : Code} {xs : List AV} {Post : AV → Hp → Prop} (hf : P.funcs[f]? = some fn) (hb : fn.body = some c) (hname : (fn.name == "runtime.NumGoroutine") = false)
  (hn : fn.ntmps = n) (hr : fn.results.toList = rs) (hx : xs.length ≤ n) (h : ∀ B : Base, AWp P l n B c (fins P l H rs Post) ⟨args xs, clr l H⟩) : Za3 P f l xs H Post := by
 refine Zpe hf hb hname hn hx fun B => ZbN (h B) fun e σ hq => ?_
 unfold Zzg
 rw [hr]
 exact ⟨hq.he, hq.hy⟩
theorem Fz.data {xs : List D} : Fz H' l (.agg (xs.map .d)) (.agg (xs.map .d)) :=
 .agg _ _ rfl fun i x y hx hy => by
  rw [hx] at hy; cases hy
  rw [Ys] at hx
  cases hi : xs[i]? with
  | none => rw [hi] at hx; cases hx
  | some d => rw [hi] at hx; cases hx; exact .keep _ rfl
theorem Fz.pure {xs : List AV} {ds : List D} (h : Zcm xs = some ds) : Fz H' l (.agg xs) (.agg (ds.map .d)) :=
 .agg _ _ (by rw [Yn]; exact ZeR h) fun i x y hx hy => by
  rw [Ys] at hy
  cases hi : ds[i]? with
  | none => rw [hi] at hy; cases hy
  | some d =>
   rw [hi] at hy; cases hy
   have := Zjl h hx hi
   cases x <;> simp only [Zde] at this <;> cases this
   ·exact .keep _ rfl
   ·exact .e0
theorem Fz.d' {x : AV} {y : D} (h : x = .d y) : Fz H' l x (.d y) := by subst h; exact .keep _ rfl
theorem Fz.two {x y x' y' : AV} (hx : Fz H' l x x') (hy : Fz H' l y y') : Fz H' l (Zht [x, y]) (.tup [x', y']) :=
 .tup _ _ rfl fun i a b ha hb => by
  match i with
  | 0 => cases ha; cases hb; exact hx
  | 1 => cases ha; cases hb; exact hy
  | i + 2 => simp at ha
theorem Fz.one {x x' : AV} (hx : Fz H' l x x') : Fz H' l (Zht [x]) x' := hx
theorem RepA.nrm {S : Nat → Prop} {m : Mu} {w : World} {x : AV} {v : Value} (h : RepA w S H m l x v) : RepA w S H m l (nrm x) v := by
 cases x with
 | e0 => exact h.e0_d
 | agg xs =>
  cases h with
  | agg _ vs hx h1 h =>
   refine .agg _ _ (by simpa using hx) h1 (fun i y v hy hv => ?_)
   rw [Ys] at hy
   cases hi : xs[i]? with
   | none => rw [hi] at hy; cases hy
   | some x =>
    rw [hi] at hy
    simp only [YH, Ye] at hy
    subst hy
    have := h i x v hi hv
    split
    ·exact this.e0_d
    grind
 | _ => exact h
theorem Za3.nrm {f : FuncId} {xs : List AV} {Post : AV → Hp → Prop} (h : Za3 P f l (xs.map nrm) H Post) : Za3 P f l xs H Post :=
 ⟨h.1, fun m S w vs hO ha => h.2 m S w vs hO ⟨by simpa using ha.1, fun i x v hx hv => by
  rw [Ys] at hx
  cases hi : xs[i]? with
  | none => rw [hi] at hx; cases hx
  | some y =>
   rw [hi] at hx
   simp only [YH, Ye] at hx
   subst hx
   exact (ha.2 i y v hi hv).nrm⟩⟩
end
end Go.Eng
