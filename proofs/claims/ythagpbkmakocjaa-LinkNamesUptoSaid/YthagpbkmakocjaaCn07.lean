import Derived.Test.YthagpbkmakocjaaCn06
import Derived.Test.YthagpbkmakocjaaCn04
namespace Go.Eng
set_option linter.all false
open Go Go.RowKit
def KA (r : Ren) (l n outs : Nat) (B : Base) (env : Env) (K : St → AT → Prop) (σ : St) : Prop := ∃ σ', Zlc r l outs env K σ' ∧ ∀ act w, R l n B σ act w → R l n B σ' act w
section
variable {P : Program} {T : Nat → Option TI} {r : Ren} {l n outs : Nat} {B : Base} {env : Env} {τ σ : St} {a : AT} {o : Oper} {K : St → AT → Prop}
theorem KA.of (h : Zlc r l outs env K σ) : KA r l n outs B env K σ := ⟨σ, h, fun _ _ h => h⟩
theorem ZgV {d : Nat} {e : TypeId} {sz : Nat} {cells : List AV} {x : Nat → AV} (h : Zks l n d e sz cells x (Zlc r l outs env K) σ) : Zks l n d e sz cells x (KA r l n outs B env K) σ := ⟨h.1, .of h.2⟩
theorem ZoJ (hT : TOk P T) (h : RG r l outs env τ σ) {d : Nat} (hd : o.dst = some d) (hc : ZdH env [] o.op = true) (hf : fresh d env = true) (hp : tV T τ.H o.op (ev τ.s) none a (Zok n d K τ))
  (hro : rOp P l n o (KA r l n outs B ((d, []) :: env) K) σ = vOp P σ.H o.op (ev σ.s) (Zg7 n o.dst (KA r l n outs B ((d, []) :: env) K) σ)) : rOp P l n o (KA r l n outs B ((d, []) :: env) K) σ := by
 rw [hro, hd]
 refine Zh4 (fun y hy => ?_) (Zv4 hT h Zao (fun b e => by cases e) hc hp)
 obtain ⟨h1, h2⟩ := ZfA h hf hy
 exact ⟨h1, .of h2⟩
theorem Zjz {x : AV} {d : D} (h : Zg8 x = some d) : ren r x = x := by
 cases x <;> simp only [Zg8] at h <;> first | (simp [ren]; done) | cases h
theorem ZjR : ∀ {xs : List AV} {ds : List D}, Zd8 xs = some ds → Zav r xs = xs
 | [], _, _ => by simp [Zav]
 | x :: xs, ds, h => by
  simp only [Zd8] at h
  split at h
  ·rename_i d ds' h1 h2
   rw [Zav, Zjz h1, ZjR h2]
  ·cases h
theorem Zwf {x : AV} {e : List D} (h : elD x = some e) : ren r x = x := by
 cases x with
 | agg xs => simp only [elD] at h; rw [ren, ZjR h]
 | _ =>
  simp only [elD] at h
  split at h
  ·rename_i d hd; exact Zjz hd
  ·cases h
theorem Ziz {sz : Nat} : ∀ {ps : List (Nat × AV)} {i : Nat} {es : List (List D)}, Zpt sz i ps = some es → (ps.map fun p => (p.1, ren r p.2)) = ps
 | [], _, _, _ => rfl
 | (j, v) :: ps, i, es, h => by
  simp only [Zpt] at h
  split at h
  ·rename_i e es' h1 h2
   simp only [List.map_cons, Zwf h1, Ziz h2]
  ·cases h
theorem ZkP (h : RG r l outs env τ σ) {sz c : Nat} {y : AV} {news : List AV} (ho : Zsc τ.H sz y = true) (hs : ZnH sz (cellsOf τ.H y) y c news) : Zv0 σ.H sz (ren r y) = some (c, Zav r news) ∧ (Zav r news).all AV.one = true := by
 obtain ⟨h1, h2⟩ := hs
 have hone : (Zav r news).all AV.one = true := by
  rw [ZcI, List.all_map]
  refine List.all_eq_true.2 fun x hx => ?_
  have := List.all_eq_true.1 h1 x hx
  cases x <;> first | (simp [Function.comp, ren, AV.one]; done) | cases this
 refine ⟨?_, hone⟩
 split at h2
 ·obtain ⟨rfl, rfl⟩ := h2; simp [ren, Zv0, Zav]
 ·rename_i es
  obtain ⟨h3, rfl, rfl⟩ := h2
  simp only [ren, Zv0]
  rw [if_pos (List.all_eq_true.2 fun e he => by simpa using h3 e he), ZiV]
 ·rename_i k g off m
  obtain ⟨rfl, h3, rfl⟩ := h2
  simp only [Zsc, Bool.and_eq_true] at ho
  obtain ⟨hl, hz⟩ := ho
  obtain ⟨g1, g2, g3, g4, g5⟩ := h.h.at hl
  have e : cellsOf τ.H (.ref k g off c) = (τ.H k).cells := by simp [cellsOf, hl]
  rw [e] at h3 ⊢
  simp only [ren, Zv0]
  rw [if_pos ⟨g1, g2, by rw [g4]; exact Nat.eq_of_beq_eq_true hz, by rw [g5, Za6]; exact h3⟩, g5, ZbA, ZbM]
 ·exact h2.elim
theorem ZqZ (hr : RenOk r l outs) (hT : TOk P T) (h : RG r l outs env τ σ) {d : Nat} {t : TypeId} {x y : AV} (hf : fresh d env = true) (hp : ZGa T r n d t x y a K τ) :
  ZA6 P l n d t (ren r x) (ren r y) (KA r l n outs B ((d, []) :: env) K) σ := by
 unfold ZGa at hp
 split at hp
 case h_2 => exact hp.elim
 rename_i i hi
 split at hp
 case h_2 => exact hp.elim
 rename_i e sz he
 split at hp
 case h_2 => exact hp.elim
 rename_i j hj hsz hsrc
 have hsz := Nat.le_of_ble_eq_true hsz
 unfold ZA6
 rw [(hT _ _ hi).elm _ he]
 split at hp
 ·rename_i byt z c news q hb hz
  obtain ⟨h1, h2, h3⟩ := hp
  obtain ⟨e1, e2⟩ := ZkP h hsrc h1
  obtain ⟨b1, b2⟩ := (hT _ _ hj).byt _ hb
  have hlim : c * P.bytesOf e ≤ 140737488355328 := Nat.le_trans (Nat.mul_le_mul_left _ b1) h2
  refine ⟨by omega, b2, by rw [(hT _ _ hj).zer _ hz]; rfl, ?_⟩
  simp only [e1, ren]
  refine ⟨e2, hlim, fun hc => ?_, fun hc => ?_⟩
  ·subst hc
   have hd : d < n := by
    unfold ZvK at h3
    split at h3
    ·rename_i hd; have := Nat.le_of_ble_eq_true hd; omega
    ·exact h3.elim
   have hn := Zc7 (x' := fun g => .ref (l + 1, d) g 0 0) hr h hf (fun g => by simp [ren, hr.own]) h3
   have hnil : Zav r news = [] := by
    have hl : news = [] := by
     obtain ⟨_, h1⟩ := h1
     split at h1
     ·exact h1.2
     ·obtain ⟨_, h4, h5⟩ := h1
      have : ‹List (List D)› = [] := List.eq_nil_of_length_eq_zero h4.symm
      rw [this] at h5; simpa using h5
     ·obtain ⟨h4, _, h5⟩ := h1; rw [← h4] at h5; simpa using h5
     ·exact h1.elim
    rw [hl]; simp [Zav]
   rw [hnil] at hn
   refine ⟨hd, _, hn.2, fun act w hR => ?_⟩
   have := R.adopt (e := e) (sz := sz) hR (l + 1, d) rfl ((σ.H (l + 1, d)).g + 1) (Nat.lt_succ_self _) (d := d) (by simp [upd])
   have e3 : upd (upd σ.s d .e0) d (.ref (l + 1, d) ((σ.H (l + 1, d)).g + 1) 0 0) = upd σ.s d (.ref (l + 1, d) ((σ.H (l + 1, d)).g + 1) 0 0) := by funext j; unfold upd; split <;> rfl
   simp only [e3] at this
   exact this
  ·exact ZgV (Zc7 (x' := fun g => .ref (l + 1, d) g 0 c) hr h hf (fun g => by simp [ren, hr.own]) h3)
 ·rename_i byt z k q off c' c news C' n' q' hb hz
  split at hp
  case h_2 => exact hp.elim
  rename_i hl hs2 he2 hd
  obtain ⟨h1, ⟨h2, h3, h4, h5⟩, h6⟩ := hp
  obtain ⟨h6, hko, hlow⟩ := Zmg hr h (Zb9 hl).2 h6
  obtain ⟨e1, e2⟩ := ZkP h hsrc h1
  obtain ⟨b1, b2⟩ := (hT _ _ hj).byt _ hb
  obtain ⟨g1, g2, g3, g4, g5⟩ := h.h.at hl
  have hd := Nat.le_of_ble_eq_true hd
  have hs2 := Nat.eq_of_beq_eq_true hs2
  have he2 := Nat.eq_of_beq_eq_true he2
  refine ⟨by omega, b2, by rw [(hT _ _ hj).zer _ hz]; rfl, ?_⟩
  simp only [e1, ren]
  refine ⟨e2, g1, g2, by rw [g4, hs2], by rw [g3, he2], by rw [g5, Za6]; exact h2, by rw [h4]; exact Nat.le_trans (Nat.mul_le_mul_left _ b1) h5, hlow, by omega, .of ⟨_, _, h6, ?_⟩⟩
  have h7 := h.put0 (v := .ref k (q + 1) 0 n') (y := .ref (r.κ k) (r.γ k + q + 1) 0 (c' + c)) hf (by simp [ren, h4, Nat.add_assoc])
  have h8 := RG.updH hr h7 k ⟨q + 1, true, e, sz, C'⟩ rfl hko
  have e3 : ZbQ r k ⟨q + 1, true, e, sz, C'⟩ = ⟨r.γ k + q + 1, true, e, sz, (σ.H (r.κ k)).cells.drop (off * sz) ++ Zav r news⟩ := by
   simp only [ZbQ, g5, ZbA, ← ZcF, h3, Nat.add_assoc]
  rw [e3] at h8
  exact h8
 ·exact hp.elim
theorem ZfO (hr : RenOk r l outs) (h : RG r l outs env τ σ) {t : TypeId} {i : TI} (hi : TIok P t i) {x : AV} {vs : List AV} (hp : Zjs r n i x (some vs) a K τ) :
  ∃ k g off, ren r x = .ptr k g off ∧ g = (σ.H k).g ∧ (σ.H k).live = true ∧ (Zav r vs).length = P.cellsOf t ∧ Zav r vs ≠ [] ∧ off + (Zav r vs).length ≤ (σ.H k).cells.length ∧ (k.1 = l + 1 ∨ (Zav r vs).all (AV.low k.1) = true) ∧
   Zlc r l outs env K ⟨σ.s, updH σ.H k { σ.H k with cells := (σ.H k).cells.take off ++ Zav r vs ++ (σ.H k).cells.drop (off + (Zav r vs).length) }⟩ := by
 unfold Zjs at hp
 split at hp
 case h_2 => exact hp.elim
 rename_i k q off vs' heq
 cases heq
 split at hp
 case h_2 => exact hp.elim
 rename_i hl hv1 hv2
 have hv1 := Nat.eq_of_beq_eq_true hv1
 have hv2 := Nat.le_of_ble_eq_true hv2
 obtain ⟨g1, g2, g3, g4, g5⟩ := h.h.at hl
 obtain ⟨q1, q2⟩ := Zb9 hl
 have fin : ∀ C' r', StS (τ.H k).cells off vs C' → wrK r k vs (K ⟨τ.s, updH τ.H k ⟨q, true, (τ.H k).e, (τ.H k).sz, C'⟩⟩ r') → _ := fun C' r' hs hK => by
  obtain ⟨s1, s2⟩ := hs
  obtain ⟨hK, hko, hlow⟩ := Zmg hr h (Zb9 hl).2 hK
  refine (⟨r.κ k, r.γ k + q, off, by simp [ren], g1, g2, by rw [Za6, hi.siz, hv1], by intro e; have := congrArg List.length e; rw [Za6, List.length_nil] at this; omega, by rw [g5, Za6, Za6]; exact s1, ?_, _, _, hK, ?_⟩ :
   ∃ k' g off', ren r (.ptr k q off) = .ptr k' g off' ∧ g = (σ.H k').g ∧ (σ.H k').live = true ∧ (Zav r vs).length = P.cellsOf t ∧ Zav r vs ≠ [] ∧ off' + (Zav r vs).length ≤ (σ.H k').cells.length ∧ (k'.1 = l + 1 ∨ (Zav r vs).all (AV.low k'.1) = true) ∧
   Zlc r l outs env K ⟨σ.s, updH σ.H k' { σ.H k' with cells := (σ.H k').cells.take off' ++ Zav r vs ++ (σ.H k').cells.drop (off' + (Zav r vs).length) }⟩)
  ·exact hlow
  ·have h8 := RG.updH hr h k ⟨q, true, (τ.H k).e, (τ.H k).sz, C'⟩ rfl hko
   have e3 : ZbQ r k ⟨q, true, (τ.H k).e, (τ.H k).sz, C'⟩ = { σ.H (r.κ k) with cells := (σ.H (r.κ k)).cells.take off ++ Zav r vs ++ (σ.H (r.κ k)).cells.drop (off + (Zav r vs).length) } := by
    simp only [ZbQ, g5, Za6, ZbM, ZbA, ← ZcF, s2, g1, g3, g4, ← g2]
   rw [e3] at h8
   exact h8
 split at hp
 ·split at hp
  ·rename_i hb; exact fin _ _ ⟨Nat.le_of_ble_eq_true hb, rfl⟩ hp
  ·exact hp.elim
 ·exact fin _ _ hp.1 hp.2
 ·exact hp.elim
theorem ZlY (hr : RenOk r l outs) (hT : TOk P T) (h : RG r l outs env τ σ) (hc : ZdH env [] o.op = true) (hf : Zi5 env o.dst = true) (hp : ZxV P T l n r o a K τ) : rOp P l n o (KA r l n outs B (ZjO env o.dst) K) σ := by
 obtain ⟨dst, op, ty, ps, af, gd⟩ := o
 have ops : ∀ {op : Op}, ZdH env [] op = true → (∀ c x y, op ≠ .pick c x y) → ∀ x ∈ op.operands, ev σ.s x = ren r (ev τ.s x) := fun {op} hc hne => by
  unfold ZdH at hc
  split at hc
  ·exact absurd rfl (hne _ _ _)
  ·exact ZdJ h Zao hc
 unfold ZxV at hp
 simp only at hc hf hp ⊢
 split at hp
 ·rename_i t
  split at hp
  case h_2 => exact hp.elim
  rename_i d i hi
  split at hp
  case h_2 => exact hp.elim
  rename_i z zs hz
  have hfl := ZcN (r := r) ((hT _ _ hi).flt _ hz)
  have hn := Zc7 (x' := fun g => .ptr (l + 1, d) g 0) hr h hf (fun g => by simp [ren, hr.own]) hp
  rw [hfl] at hn
  simp only [rOp, (hT _ _ hi).zer _ hz]
  exact ⟨by simp, ZgV hn⟩
 ·rename_i t x
  split at hp
  case h_2 => exact hp.elim
  rename_i d z zs hz hnf
  have hx := ops hc (fun _ _ _ e => by cases e) x (by simp [Op.operands])
  have hn := Zc7 (x' := fun g => .ptr (l + 1, d) g 0) hr h hf (fun g => by simp [ren, hr.own]) hp
  have hz' := Zdq (r := r) hz (Zia hnf)
  simp only [rOp, hx, hz']
  refine ⟨Zmm (by simp), ?_⟩
  rw [Za6]
  exact ZgV hn
 ·rename_i t p x
  split at hp
  case h_2 => exact hp.elim
  rename_i i hi hnf
  have hx := ops hc (fun _ _ _ e => by cases e) x (by simp [Op.operands])
  have hpp := ops hc (fun _ _ _ e => by cases e) p (by simp [Op.operands])
  cases hz : Zby (ev τ.s x) with
  | none => rw [hz] at hp; unfold Zjs at hp; split at hp <;> first | exact hp.elim | (rename_i e; cases e)
  | some vs =>
   rw [hz] at hp
   have hz' := Zdq (r := r) hz (Zia hnf)
   obtain ⟨k, g, off, e1, e2, e3, e4, e5, e6, e7, e8⟩ := ZfO hr h (hT _ _ hi) hp
   simp only [rOp, hpp, hx, hz', e1]
   exact ⟨e2, e3, e4, e5, e6, e7, .of e8⟩
 ·rename_i t len parts
  split at hp
  case h_2 => exact hp.elim
  rename_i d i hi
  split at hp
  case h_2 => exact hp.elim
  rename_i e sz he
  simp only [rOp, (hT _ _ hi).elm _ he]
  split at hp
  ·rename_i hsz
   have hsz := Nat.le_of_ble_eq_true hsz
   refine ⟨by omega, ?_⟩
   split at hp
   ·rename_i hps
    obtain ⟨h1, h2⟩ := ZfA h hf (y := .e0) ⟨.e0, a, by simp [ren], hp⟩
    exact ⟨by rw [← Array.length_toList, hps]; rfl, h1, .of h2⟩
   ·exact hp.elim
  ·rename_i len' hsz
   have hsz := Nat.le_of_ble_eq_true hsz
   refine ⟨by omega, ?_⟩
   split at hp
   case h_2 => exact hp.elim
   rename_i j hj hlim
   split at hp
   case h_2 => exact hp.elim
   rename_i z hz
   split at hp
   case h_2 => exact hp.elim
   rename_i es hzl hlit
   split at hp
   case h_2 => exact hp.elim
   rename_i hes
   have e1 : (parts.toList.map fun p => (p.1, ev σ.s p.2)) = parts.toList.map fun p => (p.1, ev τ.s p.2) := by
    have : (parts.toList.map fun p => (p.1, ev σ.s p.2)) = (parts.toList.map fun p => (p.1, ev τ.s p.2)).map fun p => (p.1, ren r p.2) := by
     rw [List.map_map]
     refine List.map_congr_left fun p hp => ?_
     simp only [Function.comp]
     rw [ops hc (fun _ _ _ e => by cases e) p.2 (by simp only [Op.operands, List.mem_toArray, List.mem_map]; exact ⟨p, hp, rfl⟩)]
    rw [this, Ziz hlit]
   rw [e1]
   simp only [(hT _ _ hj).zer _ hz, hlit]
   obtain ⟨h1, h2⟩ := ZfA h hf (y := .d (.list es)) ⟨.d (.list es), a, by simp [ren], hp⟩
   exact ⟨Nat.le_of_ble_eq_true hlim, Nat.eq_of_beq_eq_true hzl, Nat.eq_of_beq_eq_true hes, h1, .of h2⟩
  ·exact hp.elim
 ·rename_i t x y
  split at hp
  case h_2 => exact hp.elim
  rename_i d i k1 c k2 c' m C b hi hx0 hy0
  have hx := ops hc (fun _ _ _ e => by cases e) x (by simp [Op.operands])
  have hy := ops hc (fun _ _ _ e => by cases e) y (by simp [Op.operands])
  rw [hx0] at hx
  rw [hy0] at hy
  split at hp
  case h_2 => exact hp.elim
  rename_i e sz he
  split at hp
  case h_2 => exact hp.elim
  rename_i j hj hsz
  split at hp
  case h_2 => exact hp.elim
  rename_i z byt hz hbyt
  split at hp
  case h_2 => exact hp.elim
  rename_i hzl
  obtain ⟨⟨m1, m2, m3, m4⟩, hp⟩ := hp
  have hzl := Nat.eq_of_beq_eq_true hzl
  have hsz := Nat.le_of_ble_eq_true hsz
  have hb := (hT _ _ hj).byt _ hbyt
  have hfz := (hT _ _ hj).flt _ hz
  have hflC : C.all AV.flat = true := by
   subst m4
   refine List.all_eq_true.2 fun q hq => ?_
   obtain ⟨z', hz', hq'⟩ := List.mem_flatten.1 hq
   rw [(List.mem_replicate.1 hz').2] at hq'
   exact List.all_eq_true.1 hfz q hq'
  have hfl := ZcN (r := r) hflC
  have hn := Zc7 (x' := fun g => .ref (l + 1, d) g 0 m) hr h hf (fun g => by simp [ren, hr.own]) hp
  rw [hfl] at hn
  simp only [rOp, (hT _ _ hi).elm _ he, hx, hy, ren, (hT _ _ hj).zer _ hz]
  subst m1
  have hbb : (P.bytesOf e : Int) * c' ≤ (byt : Int) * c' := Int.mul_le_mul_of_nonneg_right (by omega) (by omega)
  refine ⟨by omega, m2, by omega, hb.2, by omega, hzl, ?_⟩
  simp only [Int.toNat_natCast, m4]
  exact ZgV hn
 ·rename_i c
  split at hp
  ·rename_i hcal
   split at hp
   case h_2 => exact hp.elim
   rename_i d x y t t' ha ht
   split at hp
   case h_2 => exact hp.elim
   rename_i htt
   have htt := Nat.eq_of_beq_eq_true htt
   subst htt
   have h2 : c.argTypes = #[t, t] := Array.ext' (by simpa using ht)
   have hx := ops hc (fun _ _ _ e => by cases e) x (by simp only [Op.operands, Call.operands, Array.mem_append]; exact .inr (by rw [← Array.mem_toList_iff, ha]; simp))
   have hy := ops hc (fun _ _ _ e => by cases e) y (by simp only [Op.operands, Call.operands, Array.mem_append]; exact .inr (by rw [← Array.mem_toList_iff, ha]; simp))
   simp only [rOp, hcal, ha, ht]
   refine ⟨by rw [h2]; rfl, ?_⟩
   rw [hx, hy]
   exact ZqZ hr hT h hf hp
  ·rename_i hna
   split at hp
   case h_2 => exact hp.elim
   rename_i d
   unfold pV at hp
   simp only at hp
   split at hp
   ·rename_i f hcal
    obtain ⟨i, first, caps, x, a', e1, e2, e3⟩ := ZfV h Zao (fun b e => by cases e) hcal hc hp
    simp only [rOp, hcal, e1]
    refine e2.mono fun y H' ⟨h1, h2⟩ => ?_
    subst h1; subst h2
    obtain ⟨h1, h2⟩ := ZfA h hf (y := ren r x) ⟨x, a', rfl, e3⟩
    exact ⟨h1, .of h2⟩
   ·rename_i hnv
    refine ZoJ (o := ⟨some d, .call c, ty, ps, af, gd⟩) hT h rfl hc hf hp ?_
    simp only [rOp]
 ·rename_i h1 h2 h3 h4 h5 h6
  split at hp
  case h_2 => exact hp.elim
  rename_i d
  have hp' : tV T τ.H op (ev τ.s) none a (Zok n d K τ) := by
   unfold pV at hp
   split at hp
   ·exact absurd rfl (h6 _)
   ·exact absurd rfl (h4 _ _ _)
   ·exact hp
  refine ZoJ (o := ⟨some d, op, ty, ps, af, gd⟩) hT h rfl hc hf hp' ?_
  simp only [rOp]
theorem Zy7 {d : Option Nat} {v y : AV} {H' : Hp} (hf : Zi5 env d = true) {τ' : St} (h : RG r l outs env ⟨τ.s, τ'.H⟩ ⟨σ.s, H'⟩) (hy : y = ren r v) (hk : ZFw n K τ.s τ'.H v a d) :
  Zg7 n d (KA r l n outs B (ZjO env d) K) ⟨σ.s, H'⟩ y := by
 cases d with
 | none => exact .of ⟨_, _, hk, h⟩
 | some d =>
  simp only [ZFw] at hk
  split at hk
  ·rename_i hd; exact ⟨Nat.le_of_ble_eq_true hd, .of ⟨_, _, hk, h.put0 hf hy⟩⟩
  ·exact hk.elim
theorem Zig (hr : RenOk r l outs) (hT : TOk P T) (h : RG r l outs env τ σ) (hc : ZdH env [] o.op = true) (hf : Zi5 env o.dst = true) (hp : Zvp P T l n r o a K τ) : AOp P l n B o (KA r l n outs B (ZjO env o.dst) K) σ := by
 have ops : ∀ {op : Op}, ZdH env [] op = true → (∀ c x y, op ≠ .pick c x y) → ∀ x ∈ op.operands, ev σ.s x = ren r (ev τ.s x) := fun {op} hc hne => by
  unfold ZdH at hc
  split at hc
  ·exact absurd rfl (hne _ _ _)
  ·exact ZdJ h Zao hc
 unfold Zvp at hp
 split at hp
 case h_2 => exact ZdC (ZlY hr hT h hc hf hp)
 rename_i c ho
 split at hp
 ·rename_i hcal
  split at hp
  case h_2 => exact hp.elim
  rename_i x y t t' ha ht
  have ho' : o.op = .call ⟨.builtin .copy, #[x, y], #[t, t']⟩ := by
   rw [ho]
   have e1 : c.args = #[x, y] := Array.ext' (by simpa using ha)
   have e2 : c.argTypes = #[t, t'] := Array.ext' (by simpa using ht)
   cases c; simp only at hcal e1 e2; subst hcal; subst e1; subst e2; rfl
  rw [ho'] at hc
  have hx := ops hc (fun _ _ _ e => by cases e) x (by simp [Op.operands, Call.operands])
  have hy := ops hc (fun _ _ _ e => by cases e) y (by simp [Op.operands, Call.operands])
  unfold ZD9 at hp
  split at hp
  case h_2 => exact hp.elim
  rename_i i i' hi hi'
  split at hp
  case h_2 => exact hp.elim
  rename_i e sz e' sz' he he'
  split at hp
  case h_2 => exact hp.elim
  rename_i j q1 q2 hj hsz hsrc
  split at hp
  case h_2 => exact hp.elim
  rename_i z k q off cn cnt news C' b hz hxv
  split at hp
  case h_2 => exact hp.elim
  rename_i hl hs2
  obtain ⟨h1, h2, h3, h4⟩ := hp
  obtain ⟨h4, hko, hlow⟩ := Zmg hr h (Zb9 hl).2 h4
  have q1 := Nat.eq_of_beq_eq_true q1
  have q2 := Nat.eq_of_beq_eq_true q2
  subst q1; subst q2
  have hs2 := Nat.eq_of_beq_eq_true hs2
  have hsz := Nat.le_of_ble_eq_true hsz
  obtain ⟨g1, g2, g3, g4, g5⟩ := h.h.at hl
  obtain ⟨e1, e2⟩ := ZkP h hsrc h1
  rw [hxv] at hx
  obtain ⟨s1, s2⟩ := h3
  obtain ⟨ss, sH⟩ := σ
  refine Zs9 (k := r.κ k) (g := r.γ k + q) (off := off) (cn := cn) (cnt := cnt) (news := Zav r news) ho' (by rw [hx]; simp [ren]) ((hT _ _ hi).elm _ he) ((hT _ _ hi').elm _ he') (by rw [(hT _ _ hj).zer _ hz]; rfl) (by omega) g1 g2 (by rw [g4, hs2]) (by rw [hy]; exact e1) h2
   (by rw [g5, Za6, Za6]; exact s1) hlow ?_
  have h8 := RG.updH hr h k ⟨q, true, (τ.H k).e, (τ.H k).sz, C'⟩ rfl hko
  have e3 : ZbQ r k ⟨q, true, (τ.H k).e, (τ.H k).sz, C'⟩ = { sH (r.κ k) with cells := (sH (r.κ k)).cells.take (off * sz) ++ Zav r news ++ (sH (r.κ k)).cells.drop (off * sz + (Zav r news).length) } := by
   simp only at g1 g2 g3 g4 g5
   simp only [ZbQ, g5, Za6, ZbM, ZbA, ← ZcF, s2, g1, g3, g4, ← g2]
  simp only at e3
  rw [e3] at h8
  refine Zy7 (v := .d (.int .i64 cnt)) (a := b) (τ' := ⟨τ.s, updH τ.H k ⟨q, true, (τ.H k).e, (τ.H k).sz, C'⟩⟩) hf h8 (by simp [ren]) h4
 ·rename_i hcal
  split at hp
  case h_2 => exact hp.elim
  rename_i x t ha ht hd
  have ho' : o.op = .call ⟨.builtin .clear, #[x], #[t]⟩ := by
   rw [ho]
   have e1 : c.args = #[x] := Array.ext' (by simpa using ha)
   have e2 : c.argTypes = #[t] := Array.ext' (by simpa using ht)
   cases c; simp only at hcal e1 e2; subst hcal; subst e1; subst e2; rfl
  rw [ho'] at hc
  have hx := ops hc (fun _ _ _ e => by cases e) x (by simp [Op.operands, Call.operands])
  unfold ZvX at hp
  split at hp
  case h_2 => exact hp.elim
  rename_i i hi
  split at hp
  case h_2 => exact hp.elim
  rename_i e sz he
  split at hp
  case h_2 => exact hp.elim
  rename_i j hj hsz
  split at hp
  case h_2 => exact hp.elim
  rename_i z k q off cn C' b hz hxv
  split at hp
  case h_2 => exact hp.elim
  rename_i hl hs2 hzl
  obtain ⟨⟨h1, h2⟩, h4⟩ := hp
  obtain ⟨h4, hko, hlow⟩ := Zmg hr h (Zb9 hl).2 h4
  have hs2 := Nat.eq_of_beq_eq_true hs2
  have hsz := Nat.le_of_ble_eq_true hsz
  have hzl := Nat.eq_of_beq_eq_true hzl
  obtain ⟨g1, g2, g3, g4, g5⟩ := h.h.at hl
  have hfz := ZcN (r := r) ((hT _ _ hj).flt _ hz)
  rw [hfz] at hlow
  rw [hxv] at hx
  obtain ⟨ss, sH⟩ := σ
  refine Zqx (k := r.κ k) (g := r.γ k + q) (off := off) (cn := cn) ho' hd (by rw [hx]; simp [ren]) ((hT _ _ hi).elm _ he) ((hT _ _ hj).zer _ hz) hzl (by omega) g1 g2 (by rw [g4, hs2]) (by rw [g5, Za6]; exact h1) hlow ?_
  have h8 := RG.updH hr h k ⟨q, true, (τ.H k).e, (τ.H k).sz, C'⟩ rfl hko
  have hrep : Zav r (List.replicate cn z).flatten = (List.replicate cn z).flatten := ZcN (by
   refine List.all_eq_true.2 fun q hq => ?_
   obtain ⟨z', hz', hq'⟩ := List.mem_flatten.1 hq
   rw [(List.mem_replicate.1 hz').2] at hq'
   exact List.all_eq_true.1 ((hT _ _ hj).flt _ hz) q hq')
  have e3 : ZbQ r k ⟨q, true, (τ.H k).e, (τ.H k).sz, C'⟩ = { sH (r.κ k) with cells := (sH (r.κ k)).cells.take (off * sz) ++ (List.replicate cn z).flatten ++ (sH (r.κ k)).cells.drop ((off + cn) * sz) } := by
   simp only at g1 g2 g3 g4 g5
   rw [← h2]
   simp only [ZbQ, g5, ZcF, ZbM, ZbA, hrep, g1, g3, g4, ← g2]
  simp only at e3
  rw [e3] at h8
  exact .of ⟨_, _, h4, by rw [hd]; exact h8⟩
 ·exact ZdC (ZlY hr hT h hc hf hp)
theorem Zp5 {r : Ren} {x : AV} (h : x.flat = true) : ren r x = x := by cases x <;> simp [AV.flat] at h <;> simp [ren]
theorem ZDv (hq : Zbd o = true) (hp : ZA4 P T l n r o a K τ) : Zvp P T l n r o a K τ := by
 unfold ZA4 at hp
 split at hp
 ·rename_i ho; simp [Zbd, ho] at hq
 ·exact hp
theorem ZsT (hr : RenOk r l outs) (hT : TOk P T) (h : RG r l outs env τ σ) (hc : ZdH env [] o.op = true) (hf : Zi5 env o.dst = true) (hp : ZA4 P T l n r o a K τ) : AOp P l n B o (KA r l n outs B (ZjO env o.dst) K) σ := by
 unfold ZA4 at hp
 split at hp
 case h_2 => exact Zig hr hT h hc hf hp
 rename_i t len parts ho
 split at hp
 case h_2 => exact Zig hr hT h hc hf hp
 case h_3 => exact Zig hr hT h hc hf hp
 rename_i b
 have ops : ∀ x ∈ o.op.operands, ev σ.s x = ren r (ev τ.s x) := by
  unfold ZdH at hc
  split at hc
  ·rename_i e; rw [ho] at e; cases e
  ·exact ZdJ h Zao hc
 unfold Zv1 at hp
 split at hp
 case h_2 => exact hp.elim
 rename_i d i hd hi
 split at hp
 case h_2 => exact hp.elim
 rename_i e sz he
 split at hp
 case h_2 => exact hp.elim
 rename_i j hj hsz hlim
 split at hp
 case h_2 => exact hp.elim
 rename_i z hz
 split at hp
 case h_2 => exact hp.elim
 rename_i cs hzl hfill hfl
 split at hp
 case h_2 => exact hp.elim
 rename_i hcs
 have e1 : (parts.toList.map fun p => (p.1, ev σ.s p.2)) = parts.toList.map fun p => (p.1, ev τ.s p.2) := by
  refine List.map_congr_left fun p hp => ?_
  rw [ops p.2 (by rw [ho]; simp only [Op.operands, List.mem_toArray, List.mem_map]; exact ⟨p, hp, rfl⟩)]
  have := List.all_eq_true.1 hfl (p.1, ev τ.s p.2) (List.mem_map.2 ⟨p, hp, rfl⟩)
  rw [Zp5 this]
 have hd' : o.dst = some d := hd
 rw [hd'] at hf ⊢
 have hn := Zc7 (x' := fun g => .ref (l + 1, d) g 0 (len + 1)) hr h hf (fun g => by simp [ren, hr.own]) hp
 rw [ZcN (r := r) hcs] at hn
 obtain ⟨s, H⟩ := σ
 exact Zd9 ho hd' ((hT _ _ hi).elm _ he) (by have := Nat.le_of_ble_eq_true hsz; omega) (Nat.le_of_ble_eq_true hlim) ((hT _ _ hj).zer _ hz) (Nat.eq_of_beq_eq_true hzl) (by rw [e1]; exact hfill) (ZgV hn)
end
end Go.Eng
namespace Go.Eng
set_option linter.all false
open Go Go.RowKit
section
variable {P : Program} {T : Nat → Option TI} {r : Ren} {l n outs : Nat} {B : Base} {env : Env} {τ σ : St} {a : AT} {o : Oper}
theorem ZCn {H : Hp} {op : Op} {ρ : Operand → AV} {g : Option Bool} {K : AV → AT → Prop} (h : tV T H op ρ g a K) : ∃ v a', K v a' := by
 have fin : ∀ {v a'}, K v a' → ∃ v a', K v a' := fun h => ⟨_, _, h⟩
 cases op <;> simp only [tV] at h <;> try exact h.elim
 case move x => exact fin h
 case assign x => exact fin h
 case pick c x y => split at h <;> first | exact fin h | exact h.elim
 case load t x =>
  split at h
  ·unfold ZnK at h
   repeat' split at h
   all_goals first | exact h.elim | exact fin h | exact fin h.2
  ·exact h.elim
 case fieldAddr t x f =>
  split at h
  ·unfold ZdX at h
   repeat' split at h
   all_goals first | exact h.elim | exact fin h
  ·exact h.elim
 case field t x f =>
  split at h
  ·unfold Zmj at h
   repeat' split at h
   all_goals first | exact h.elim | exact fin h
  ·exact h.elim
 case indexAddr t x j =>
  split at h
  ·unfold ZdT at h
   repeat' split at h
   all_goals first | exact h.elim | exact fin h.2
  ·exact h.elim
 case index t x j =>
  split at h
  ·unfold ZmL at h
   repeat' split at h
   all_goals first | exact h.elim | exact fin h.2
  ·exact h.elim
 case extract x j =>
  repeat' split at h
  all_goals first | exact h.elim | exact fin h
 case binOp o t x y u =>
  split at h
  ·unfold ZEf at h
   split at h
   ·split at h
    ·unfold ZEs at h
     repeat' split at h
     all_goals first | exact h.elim | exact fin h | exact fin h.2 | exact fin h.2.2
    ·exact h.elim
   ·unfold ZEe at h
    repeat' split at h
    all_goals first | exact h.elim | exact fin h | exact fin h.2
   ·repeat' split at h
    all_goals first | exact h.elim | exact fin h
   ·repeat' split at h
    all_goals first | exact h.elim | exact fin h
   ·split at h
    ·have nl : ∀ {neg : Bool} {x : AV}, ZAT H neg x a K → ∃ v a', K v a' := fun {neg x} h => by
      unfold ZAT at h
      repeat' split at h
      all_goals first | exact h.elim | exact fin (h true) | exact fin (h neg (fun _ => rfl))
     split at h
     ·exact nl h
     ·exact nl h
     ·exact h.elim
    ·exact h.elim
   ·exact h.elim
  ·exact h.elim
 case unOp o t x =>
  unfold tUn at h
  repeat' split at h
  all_goals first | exact h.elim | exact fin h | exact fin h.2
 case nilCheck x =>
  split at h
  ·split at h
   ·exact fin h
   ·exact h.elim
  ·exact fin h
  ·exact h.elim
 case convert s d x =>
  split at h
  ·unfold ZrL at h
   repeat' split at h
   all_goals first | exact h.elim | exact fin h | exact fin h.2
  ·exact h.elim
 case makeFunc fn first caps => split at h <;> first | exact h.elim | exact fin h
 case slice t x lo hi mx =>
  split at h
  ·unfold Zlz at h
   repeat' split at h
   all_goals first | exact h.elim | exact fin h.2.2.2 | exact fin h.2.2.2.2
  ·exact h.elim
 case build t parts =>
  split at h
  ·unfold ZlX at h
   repeat' split at h
   all_goals first | exact h.elim | exact fin h
  ·exact h.elim
 case call c =>
  split at h
  ·split at h
   ·unfold ZEo at h
    repeat' split at h
    all_goals first | exact h.elim | exact fin h.2
   ·exact h.elim
  ·unfold vMM at h
   split at h
   ·exact fin h
   ·exact h.elim
  ·unfold vMM at h
   split at h
   ·exact fin h
   ·exact h.elim
  ·unfold ZrE at h
   split at h
   ·exact fin h
   ·exact h.elim
  ·exact h.elim
theorem ZzI {op : Op} {g : Option Bool} {K : AV → AT → Prop} (h : pV P T l r τ op g a K) : ∃ v a', K v a' := by
 unfold pV at h
 split at h
 ·split at h
  ·unfold Zr6 at h
   split at h
   ·exact ⟨_, _, h.2⟩
   ·exact ⟨_, _, h.2⟩
   ·exact h.elim
  ·exact ZCn h
 ·unfold bsV at h
  repeat' split at h
  all_goals first | exact h.elim | exact ⟨_, _, h⟩
 ·exact ZCn h
def Yl (r : Ren) (e : Nat) (K : AV → AT → Prop) (σ σ' : St) : Prop := ∃ v a', σ' = ⟨upd σ.s e (ren r v), σ.H⟩ ∧ K v a'
theorem Zvj (hT : TOk P T) (h : RG r l outs env τ σ) {c : Zc1} (hs : Zhh τ.s c) {g : Option Bool} (hg : ∀ b, g = some b → b = true) {e : Nat} {op : Op} {ty : TypeId} {ps : String} {af : Array Edge} {gd : Option (Nat × Bool)}
  (hx : ZdH env c op = true) (hen : e < n) {K : AV → AT → Prop} (hp : pV P T l r τ op g a K) : rOp P l n ⟨some e, op, ty, ps, af, gd⟩ (Yl r e K σ) σ := by
 have val : tV T τ.H op (ev τ.s) g a K → rOp P l n ⟨some e, op, ty, ps, af, gd⟩ (Yl r e K σ) σ = vOp P σ.H op (ev σ.s) (Zg7 n (some e) (Yl r e K σ) σ) → rOp P l n ⟨some e, op, ty, ps, af, gd⟩ (Yl r e K σ) σ := fun h1 h2 => by
  rw [h2]
  exact Zh4 (fun y ⟨v, a', e1, e2⟩ => ⟨hen, v, a', by rw [e1], e2⟩) (Zv4 hT h hs hg hx h1)
 unfold pV at hp
 split at hp
 ·rename_i c
  split at hp
  ·rename_i f hcal
   obtain ⟨i, first, caps, x, a', e1, e2, e3⟩ := ZfV h hs hg hcal hx hp
   simp only [rOp, hcal, e1]
   exact e2.mono fun y H' ⟨h1, h2⟩ => by subst h1; subst h2; exact ⟨hen, x, a', rfl, e3⟩
  ·rename_i hnv
   refine val hp ?_
   cases hcal : c.callee with
   | value f => exact absurd hcal (hnv f)
   | invoke x m => simp only [tV, hcal] at hp
   | builtin b =>
    cases b <;> simp only [tV, hcal] at hp <;> simp only [rOp, hcal]
 ·rename_i t len parts
  have hx' : (Op.buildSlice t len parts).operands.toList.all (chk env c) = true := hx
  have e1 : (parts.toList.map fun p => (p.1, ev σ.s p.2)) = (parts.toList.map fun p => (p.1, ev τ.s p.2)).map fun p => (p.1, ren r p.2) := by
   rw [List.map_map]
   refine List.map_congr_left fun p hp => ?_
   simp only [Function.comp]
   rw [ZdJ h hs hx' p.2 (by simp only [Op.operands, List.mem_toArray, List.mem_map]; exact ⟨p, hp, rfl⟩)]
  unfold bsV at hp
  split at hp
  case h_2 => exact hp.elim
  rename_i i hi
  split at hp
  case h_2 => exact hp.elim
  rename_i e' sz he
  simp only [rOp, (hT _ _ hi).elm _ he]
  split at hp
  ·rename_i hsz
   have hsz := Nat.le_of_ble_eq_true hsz
   refine ⟨by omega, ?_⟩
   split at hp
   ·rename_i hps
    exact ⟨by rw [← Array.length_toList, hps]; rfl, hen, .e0, a, by simp [ren], hp⟩
   ·exact hp.elim
  ·rename_i len' hsz
   have hsz := Nat.le_of_ble_eq_true hsz
   refine ⟨by omega, ?_⟩
   split at hp
   case h_2 => exact hp.elim
   rename_i j hj hlim
   split at hp
   case h_2 => exact hp.elim
   rename_i z hz
   split at hp
   case h_2 => exact hp.elim
   rename_i es hzl hlit
   split at hp
   case h_2 => exact hp.elim
   rename_i hes
   rw [Ziz hlit] at e1
   rw [e1]
   simp only [(hT _ _ hj).zer _ hz, hlit]
   exact ⟨Nat.le_of_ble_eq_true hlim, Nat.eq_of_beq_eq_true hzl, Nat.eq_of_beq_eq_true hes, hen, .d (.list es), a, by simp [ren], hp⟩
  ·exact hp.elim
 ·rename_i h5 h6
  refine val hp ?_
  cases op <;> simp only [tV] at hp <;> try exact hp.elim
  case call c => exact absurd rfl (h5 c)
  all_goals simp only [rOp]
theorem Zvi (hT : TOk P T) (h : RG r l outs env τ σ) {c : Zc1} (hs : Zhh τ.s c) {g : Option Bool} (hg : ∀ b, g = some b → b = true) {e : Nat} {op : Op} {ty : TypeId} {ps : String} {af : Array Edge} {gd : Option (Nat × Bool)}
  (hx : ZdH env c op = true) (hen : e < n) {K : AV → AT → Prop} (hp : pV P T l r τ op g a K) : Zoi P l n ⟨some e, op, ty, ps, af, gd⟩ (Yl r e K σ) σ := by
 have hr := Zvj (ty := ty) (ps := ps) (af := af) (gd := gd) hT h hs hg hx hen hp
 unfold pV at hp
 split at hp
 ·rename_i c
  split at hp
  ·rename_i f hcal
   obtain ⟨i, first, caps, x, a', e1, e2, e3⟩ := ZfV h hs hg hcal hx hp
   simp only [Zoi, hcal, e1]
   exact ⟨ren r x, e2, hen, x, a', rfl, e3⟩
  ·rename_i hnv
   cases hcal : c.callee with
   | value f => exact absurd hcal (hnv f)
   | _ => simp only [Zoi, hcal]; exact hr
 ·exact hr
 ·rename_i h5 h6
  cases op <;> first | exact absurd rfl (h5 _) | exact hr
theorem Zex {d : Nat} {e : TypeId} {sz : Nat} {cells : List AV} {x : Nat → AV} {K K' : St → Prop} (hk : ∀ σ, K σ → K' σ) (h : Zks l n d e sz cells x K σ) : Zks l n d e sz cells x K' σ := ⟨h.1, hk _ h.2⟩
theorem Zqy {o : Oper} {K K' : St → Prop} (hk : ∀ σ, K σ → K' σ) (h : rOp P l n o K σ) : rOp P l n o K' σ := by
 have pk : ∀ x, Zg7 n o.dst K σ x → Zg7 n o.dst K' σ x := fun x h => by
  unfold Zg7 at h ⊢
  split at h
  ·exact ⟨h.1, hk _ h.2⟩
  ·exact hk _ h
 unfold rOp at h ⊢
 split at h
 ·split at h
  ·exact ⟨h.1, Zex hk h.2⟩
  ·exact h.elim
 ·split at h
  ·exact ⟨h.1, Zex hk h.2⟩
  ·exact h.elim
 ·split at h
  ·obtain ⟨h1, h2, h3, h4, h5, h6, h7⟩ := h; exact ⟨h1, h2, h3, h4, h5, h6, hk _ h7⟩
  ·exact h.elim
 ·split at h
  ·refine ⟨h.1, ?_⟩
   replace h := h.2
   split at h
   ·exact ⟨h.1, h.2.1, hk _ h.2.2⟩
   ·refine ⟨h.1, ?_⟩
    replace h := h.2
    split at h
    ·refine ⟨h.1, ?_⟩
     replace h := h.2
     split at h
     ·exact ⟨h.1, h.2.1, hk _ h.2.2⟩
     ·split at h
      ·exact Zex hk h
      ·exact h.elim
    ·exact h.elim
  ·exact h.elim
 ·split at h
  ·obtain ⟨h1, h2, h3, h4, h5, h⟩ := h
   refine ⟨h1, h2, h3, h4, h5, ?_⟩
   split at h
   ·exact ⟨h.1, Zex hk h.2⟩
   ·exact h.elim
  ·exact h.elim
 ·split at h
  ·split at h
   ·exact h.mono fun r H' hp => by
     unfold ZBY at hp ⊢
     unfold Zg7 at hp ⊢
     split at hp
     ·exact ⟨hp.1, hk _ hp.2⟩
     ·exact hk _ hp
   ·exact h.elim
  ·split at h
   ·refine ⟨h.1, ?_⟩
    replace h := h.2
    unfold ZA6 at h ⊢
    split at h
    ·obtain ⟨h1, h2, h3, h⟩ := h
     refine ⟨h1, h2, h3, ?_⟩
     split at h
     ·refine ⟨h.1, ?_⟩
      replace h := h.2
      split at h
      ·exact ⟨h.1, fun e => ⟨(h.2.1 e).1, hk _ (h.2.1 e).2⟩, fun e => Zex hk (h.2.2 e)⟩
      ·obtain ⟨h1, h2, h3, h4, h5, h6, h7, h8, h9⟩ := h; exact ⟨h1, h2, h3, h4, h5, h6, h7, h8, hk _ h9⟩
      ·exact h.elim
     ·exact h.elim
    ·exact h.elim
   ·exact h.elim
  ·exact Zh4 pk h
 ·exact Zh4 pk h
theorem ZfC {o : Oper} {K K' : St → Prop} (hk : ∀ σ, K σ → K' σ) (h : Zoi P l n o K σ) : Zoi P l n o K' σ := by
 have pk : ∀ {x}, Zg7 n o.dst K σ x → Zg7 n o.dst K' σ x := fun {x} h => by
  unfold Zg7 at h ⊢
  split at h
  ·exact ⟨h.1, hk _ h.2⟩
  ·exact hk _ h
 unfold Zoi at h ⊢
 split at h
 ·split at h
  ·split at h
   ·obtain ⟨x, h1, h2⟩ := h; exact ⟨x, h1, pk h2⟩
   ·exact h.elim
  ·exact Zqy hk h
 ·exact Zqy hk h
theorem ZjS (h : RG r l outs env τ σ) {ds : List (Option Nat)} {i d : Nat} {b g : Bool} (hd : nth ds i = some (some d)) (hg : Zeu τ.s ((d, b) :: lk env d) = some g) : grd σ.s ds i b = some g := by
 rw [Zct] at hd
 have hc := ZcG hg
 unfold grd
 simp only [hd]
 by_cases hs : Zhh τ.s (lk env d)
 ·have e1 := (h.s d).1 hs
  have hb : ∃ t, τ.s d = .d (.bool t) := by
   cases hl : lk env d with
   | nil =>
    rw [hl] at hg
    simp only [Zeu] at hg
    split at hg
    ·rename_i t ht; exact ⟨t, ht⟩
    ·cases hg
   | cons q q' =>
    rw [hl] at hg
    simp only [Zeu] at hg
    split at hg
    ·rename_i t c ht _; exact ⟨t, ht⟩
    ·cases hg
  obtain ⟨t, ht⟩ := hb
  rw [e1, ht]
  simp only [ren, Option.some.injEq]
  cases g with
  | true =>
   have := hc.1 rfl (d, b) (List.mem_cons_self ..)
   simp only [ht] at this
   injection this with this
   injection this with this
   rw [this]; simp
  | false =>
   cases htb : t == b with
   | false => rfl
   | true =>
    exfalso
    have htb : t = b := by simpa using htb
    have : Zhh τ.s ((d, b) :: lk env d) := fun q hq => by
     rcases List.mem_cons.1 hq with rfl | hq
     ·rw [← htb]; exact ht
     ·exact hs q hq
    have := hc.2 this
    cases this
 ·rw [(h.s d).2 hs]
  simp only [Option.some.injEq]
  cases g with
  | false => rfl
  | true => exact absurd (fun q hq => hc.1 rfl q (List.mem_cons_of_mem _ hq)) hs
theorem Zc5 (hr : RenOk r l outs) (hT : TOk P T) {ops : Array Oper} {K : St → Env → AT → Prop} {QQ : Exit → Act → World → Prop} (more : List Oper)
  (hK : ∀ τ' env' a' σ' act' w', K τ' env' a' → RG r l outs env' τ' σ' → R l n B σ' act' w' → wpList P ops QQ more act' w') :
  ∀ (rest : List Oper) (env : Env) (a : AT) (τ σ : St) (act : Act) (w : World), Zkk P T l n r (ops.toList.map (·.dst)) rest env a K τ → RG r l outs env τ σ → R l n B σ act w → wpList P ops QQ (rest ++ more) act w
 | [], env, a, τ, σ, act, w, h, hG, hR => hK _ _ _ _ _ _ h hG hR
 | o :: rest, env, a, τ, σ, act, w, h, hG, hR => by
  unfold Zkk at h
  split at h
  ·rename_i hg
   split at h
   ·rename_i hc hf
    refine Zdl (by simp [Region.wanted, hg]) (ZsT (B := B) hr hT hG hc hf h) hR fun σ' act' w' hKA hR' => ?_
    obtain ⟨σ'', ⟨τ', a', h1, h2⟩, h3⟩ := hKA
    exact Zc5 hr hT more hK rest _ _ _ _ _ _ h1 h2 (h3 _ _ hR')
   ·exact h.elim
  ·rename_i i b hg
   split at h
   case h_2 => exact h.elim
   rename_i d e hd he
   split at h
   case h_2 => exact h.elim
   rename_i g hch hx hfr hen
   simp only [Bool.and_eq_true] at hfr
   have hen := Nat.le_of_ble_eq_true hen
   have hgr := ZjS hG hd hch
   have hy : (yielded ops act.tmps i == some b) = g := by
    obtain ⟨s, H⟩ := σ
    obtain ⟨m, S, hO, hn, hdf, hS, hex⟩ := hR.un
    exact Zjo hS hgr
   cases g with
   | true =>
    have hs := (ZcG hch).1 rfl
    refine Zdl (by simp only [Region.wanted, hg]; exact hy) (σ := σ) (B := B) (l := l) (n := n) (KK := Yl r e (fun v a' => Zkk P T l n r (ops.toList.map (·.dst)) rest ((e, (d, b) :: lk env d) :: env) a' K ⟨upd τ.s e v, τ.H⟩) σ) (ZdC ?_) hR fun σ' act' w' hY hR' => ?_
    ·obtain ⟨dst, op, ty, ps, af, gd⟩ := o
     simp only at he
     subst he
     exact Zvj hT hG hs (fun b' e' => by cases e'; rfl) hx (by omega) h
    ·obtain ⟨v, a', rfl, h1⟩ := hY
     exact Zc5 hr hT more hK rest _ _ _ _ _ _ h1 (hG.put hfr.1 hfr.2 (fun _ => rfl) (fun hn => absurd hs hn)) hR'
   | false =>
    have hs : ¬ Zhh τ.s ((d, b) :: lk env d) := fun hs => by have := (ZcG hch).2 hs; cases this
    obtain ⟨v, a', h1⟩ := ZzI h
    show wpList P ops QQ (o :: (rest ++ more)) act w
    unfold wpList
    rw [if_neg (by simp only [Region.wanted, hg, hy]; decide), he]
    exact Zc5 hr hT more hK rest _ _ _ _ _ _ h1 (hG.put hfr.1 hfr.2 (y := .tup []) (fun h => absurd h hs) (fun _ => rfl)) (R.undef hR (by omega))
theorem ZfU (hr : RenOk r l outs) (hT : TOk P T) {ds : List (Option Nat)} {K : St → Env → AT → Prop} :
  ∀ (rest : List Oper) (env : Env) (a : AT) (τ σ : St), rest.all (fun o => Zbd o || stB o) = true → Zkk P T l n r ds rest env a K τ → RG r l outs env τ σ → Zlf P l n ds rest (fun σ' => ∃ τ' env' a', K τ' env' a' ∧ RG r l outs env' τ' σ') σ
 | [], env, a, τ, σ, _, h, hG => ⟨_, _, _, h, hG⟩
 | o :: rest, env, a, τ, σ, hq, h, hG => by
  simp only [List.all_cons, Bool.and_eq_true] at hq
  unfold Zkk at h
  unfold Zlf
  split at h
  ·rename_i hg
   simp only [hg]
   split at h
   case h_2 => exact h.elim
   rename_i hc hf
   by_cases hst : stB o = true
   ·obtain ⟨dst, op, ty, ps, af, gd⟩ := o
    cases op <;> simp only [stB] at hst <;> first | (cases hst; done) | skip
    rename_i t p x
    cases dst with
    | some d => cases hst
    | none =>
     unfold ZA4 Zvp ZxV at h
     simp only at h hc
     split at h
     case h_2 => exact h.elim
     rename_i i hi hnf
     have hops : ∀ y ∈ (Op.store t p x).operands, ev σ.s y = ren r (ev τ.s y) := by
      unfold ZdH at hc
      exact ZdJ hG Zao hc
     have hx := hops x (by simp [Op.operands])
     have hpp := hops p (by simp [Op.operands])
     cases hz : Zby (ev τ.s x) with
     | none => rw [hz] at h; unfold Zjs at h; split at h <;> first | exact h.elim | (rename_i e; cases e)
     | some vs =>
      rw [hz] at h
      have hz' := Zdq (r := r) hz (Zia hnf)
      obtain ⟨k, g, off, e1, e2, e3, e4, e5, e6, e7, e8⟩ := ZfO hr hG (hT _ _ hi) h
      obtain ⟨τ', a', h1, h2⟩ := e8
      simp only [Zoi, rOp, hpp, hx, hz', e1]
      exact ⟨e2, e3, e4, e5, e6, e7, ZfU hr hT rest _ _ _ _ hq.2 h1 h2⟩
   have hq0 : Zbd o = true := by
    have := hq.1
    rw [Bool.or_eq_true] at this
    rcases this with h | h
    ·exact h
    ·exact absurd h hst
   replace hq : Zbd o = true ∧ _ := ⟨hq0, hq.2⟩
   obtain ⟨dst, op, ty, ps, af, gd⟩ := o
   have hd : ∃ d, dst = some d := by
    simp only [Zbd, Bool.and_eq_true] at hq
    exact Option.isSome_iff_exists.1 hq.1.1
   obtain ⟨d, rfl⟩ := hd
   simp only at hc hf hg
   have hp : pV P T l r τ op none a (Zok n d (fun τ' a' => Zkk P T l n r ds rest (ZjO env (some d)) a' K τ') τ) := by
    have hq1 := hq.1
    have h := ZDv hq1 h
    unfold Zvp at h
    simp only at h
    have h : ZxV P T l n r ⟨some d, op, ty, ps, af, none⟩ a (fun τ' a' => Zkk P T l n r ds rest (ZjO env (some d)) a' K τ') τ := by
     subst hg
     split at h
     ·split at h
      ·rename_i hcal; simp [Zbd, hcal] at hq1
      ·rename_i hcal; simp [Zbd, hcal] at hq1
      ·exact h
     ·exact h
    unfold ZxV at h
    simp only at h
    split at h
    ·simp [Zbd] at hq1
    ·simp [Zbd] at hq1
    ·simp [Zbd] at hq1
    ·simp [Zbd] at hq1
    ·simp [Zbd] at hq1
    ·split at h
     ·rename_i hcal; simp [Zbd, hcal] at hq1
     ·exact h
    ·exact h
   have hex : ∃ v a', Zok n d (fun τ' a' => Zkk P T l n r ds rest (ZjO env (some d)) a' K τ') τ v a' := ZzI hp
   have hdn : d < n := by
    obtain ⟨v, a', h1⟩ := hex
    unfold Zok at h1
    split at h1
    ·rename_i hd; have hd := Nat.le_of_ble_eq_true hd; exact hd
    ·exact h1.elim
   have := Zvi (ty := ty) (ps := ps) (af := af) (gd := gd) hT hG Zao (fun b e => by cases e) hc hdn hp
   refine ZfC (fun σ' hY => ?_) this
   obtain ⟨v, a', rfl, h1⟩ := hY
   unfold Zok at h1
   split at h1
   ·exact ZfU hr hT rest _ _ _ _ hq.2 h1 (hG.put0 hf rfl)
   ·exact h1.elim
  ·rename_i i b hg
   have hq0 : Zbd o = true := by
    have := hq.1
    rw [Bool.or_eq_true] at this
    rcases this with h | h
    ·exact h
    ·exfalso
     obtain ⟨dst, op, ty, ps, af, gd⟩ := o
     simp only at hg
     subst hg
     cases op <;> cases dst <;> simp [stB] at h
   simp only [hg]
   split at h
   case h_2 => exact h.elim
   rename_i d e hd he
   split at h
   case h_2 => exact h.elim
   rename_i g hch hx hfr hen
   simp only [Bool.and_eq_true] at hfr
   have hen := Nat.le_of_ble_eq_true hen
   rw [ZjS hG hd hch]
   refine ⟨fun hgt => ?_, fun hgf => ?_⟩
   ·subst hgt
    have hs := (ZcG hch).1 rfl
    obtain ⟨dst, op, ty, ps, af, gd⟩ := o
    simp only at he
    subst he
    refine ZfC (fun σ' hY => ?_) (Zvi (ty := ty) (ps := ps) (af := af) (gd := gd) hT hG hs (fun b' e' => by cases e'; rfl) hx (by omega) h)
    obtain ⟨v, a', rfl, h1⟩ := hY
    exact ZfU hr hT rest _ _ _ _ hq.2 h1 (hG.put hfr.1 hfr.2 (fun _ => rfl) (fun hn => absurd hs hn))
   ·subst hgf
    have hs : ¬ Zhh τ.s ((d, b) :: lk env d) := fun hs => by have := (ZcG hch).2 hs; cases this
    obtain ⟨v, a', h1⟩ := ZzI h
    rw [he]
    exact ⟨hen, ZfU hr hT rest _ _ _ _ hq.2 h1 (hG.put hfr.1 hfr.2 (y := .tup []) (fun h => absurd h hs) (fun _ => rfl))⟩
end
end Go.Eng
namespace Go.Eng
set_option linter.all false
open Go Go.RowKit
def lkS : List (Nat × AV) → Nat → AV
 | [], _ => .top
 | (i, x) :: r, j => match Nat.beq i j with | true => x | false => lkS r j
def Zqk : Blk := ⟨0, false, 0, 0, []⟩
def lkH : List (Key × Blk) → Key → Blk
 | [], _ => Zqk
 | (k, b) :: r, q => match Zep k q with | true => b | false => lkH r q
def mkS (ss : List (Nat × AV)) (hs : List (Key × Blk)) : St := ⟨lkS ss, lkH hs⟩
mutual
def nzO (H : Hp) : AV → Option AV
 | .ref k g off n => match Zcy H k g with | true => some (.ref k 0 off n) | false => none
 | .ptr k g off => match Zcy H k g with | true => some (.ptr k 0 off) | false => none
 | .fn f xs ys => match ZuI H xs, ZuI H ys with | some xs, some ys => some (.fn f xs ys) | _, _ => none
 | .agg xs => match ZuI H xs with | some xs => some (.agg xs) | none => none
 | .tup xs => match ZuI H xs with | some xs => some (.tup xs) | none => none
 | .top => some .top
 | .d x => some (.d x)
 | .e0 => some .e0
 | .p x => some (.p x)
 | .iptr cs off => some (.iptr cs off)
def ZuI (H : Hp) : List AV → Option (List AV)
 | [] => some []
 | x :: xs => match nzO H x, ZuI H xs with | some x, some xs => some (x :: xs) | _, _ => none
end
def nzX (H : Hp) (x : AV) : AV := match nzO H x with | some v => v | none => .top
def ZeX (H : Hp) (s : Nat → AV) : List Nat → List (Nat × AV)
 | [] => []
 | j :: r => (j, nzX H (s j)) :: ZeX H s r
def Zit (cs : List AV) : Prop := ∀ x ∈ cs, x.flat = true
def ZhF (H : Hp) : List (Key × Bool) → (List (Key × Blk) → Prop) → Prop
 | [], K => K []
 | (k, fl) :: r, K => match (H k).live with
  | false => ZhF H r K
  | true => match fl with
   | true => Zit (H k).cells ∧ ZhF H r (fun bs => K ((k, ⟨0, true, (H k).e, (H k).sz, (H k).cells⟩) :: bs))
   | false => match ZuI H (H k).cells with
    | some cs => ZhF H r (fun bs => K ((k, ⟨0, true, (H k).e, (H k).sz, cs⟩) :: bs))
    | none => False
def ZEC : AV → Bool
 | .e0 => true
 | _ => false
def Zjk : List (Nat × Nat × TypeId × Nat) → St → (St → Prop) → Prop
 | [], τ, K => K τ
 | (j, d, e, sz) :: r, τ, K => match ZEC (τ.s j), (τ.H (1, d)).live with
  | true, false => Zjk r ⟨upd τ.s j (.ref (1, d) ((τ.H (1, d)).g + 1) 0 0), updH τ.H (1, d) ⟨(τ.H (1, d)).g + 1, true, e, sz, []⟩⟩ K
  | true, true => False
  | false, _ => Zjk r τ K
structure Lf where
 ls : List Nat
 ks : List (Key × Bool) := []
 ad : List (Nat × Nat × TypeId × Nat) := []
 ze : List Nat := []
def zeT : List Nat → St → St
 | [], τ => τ
 | j :: r, τ => match ZEC (τ.s j) with | true => zeT r ⟨upd τ.s j (.d (.list [])), τ.H⟩ | false => zeT r τ
def gz (H : Hp) : List Nat → Bool
 | [] => true
 | i :: r => Nat.beq (H (0, i)).g 0 && gz H r
def Zir (fx : List Nat) (f : Lf) (τ : St) (Φ : St → Prop) : Prop := Zjk f.ad (zeT f.ze τ) (fun τ => match gz τ.H fx with | true => ZhF τ.H f.ks (fun hs => Φ (mkS (ZeX τ.H τ.s f.ls) hs)) | false => False)
structure Cx where
 l : Nat
 B : Base
 κ : Key → Key
 θ : Nat → AV
 H0 : Hp
 outs : Nat
 no : Key → Prop
 fx : List Nat
 G : (Key → Nat) → Prop
def Cx.r (C : Cx) (γ : Key → Nat) : Ren := ⟨C.κ, γ, C.θ, C.H0, C.no⟩
structure CxOk (C : Cx) : Prop where
 own : ∀ d, C.κ (1, d) = (C.l + 1, d)
 out : ∀ i, i < C.outs → (C.κ (0, i)).1 ≤ C.l
 inj : ∀ i j, i < C.outs → j < C.outs → C.κ (0, i) = C.κ (0, j) → i = j
 no : ∀ k, C.no k → ∃ i, i < C.outs ∧ C.κ (0, i) = k
 G : ∀ γ γ' : Key → Nat, (∀ i ∈ C.fx, γ' (0, i) = γ (0, i)) → C.G γ → C.G γ'
theorem CxOk.ren {C : Cx} (h : CxOk C) (γ : Key → Nat) : RenOk (C.r γ) C.l C.outs := ⟨h.own, h.out, h.inj, h.no⟩
def Wk (n : Nat) (C : Cx) (σ σ' : St) : Prop := ∀ act w, R C.l n C.B σ act w → R C.l n C.B σ' act w
def Is (n : Nat) (C : Cx) (Φ : St → Prop) (σ : St) : Prop := ∃ γ τ σ', C.G γ ∧ Φ τ ∧ RG (C.r γ) C.l C.outs [] τ σ' ∧ Wk n C σ σ'
def LW (P : Program) (n : Nat) (C : Cx) (c : Code) (τ : St) (Q : Exit → St → Prop) : Prop :=
 ∀ γ σ, C.G γ → RG (C.r γ) C.l C.outs [] τ σ → AWp P C.l n C.B c (fun e σ' => Is n C (Q e) σ') σ
def ZE6 (P : Program) (l n : Nat) (B : Base) (c : Code) (Q : Exit → St → Prop) (σ : St) : Prop :=
 ∀ a w, R l n B σ a w → ∀ (b : Frame) (k : List Item) (cs : List Frame), ∃ e a' w', (∃ σ', Q e σ' ∧ R l n B σ' a' w') ∧ Arrives P (lone (b.at a (.code c :: .inLoop c :: k)) cs w) b k cs e a' w'
def LL (P : Program) (n : Nat) (C : Cx) (c : Code) (τ : St) (Q : Exit → St → Prop) : Prop :=
 ∀ γ σ, C.G γ → RG (C.r γ) C.l C.outs [] τ σ → ZE6 P C.l n C.B c (fun e σ' => Is n C (Q e) σ') σ
def Zoh (env : Env) (τ : St) : St := ⟨fun j => match lk env j with | [] => τ.s j | _ => .top, τ.H⟩
def FzR (C : List AV) (off n sz : Nat) (es : List (List D)) : Prop := es.length = n ∧ sz ≠ 0 ∧ (∀ e ∈ es, e.length = sz) ∧ (off + n) * sz ≤ C.length ∧ (C.drop (off * sz)).take (n * sz) = es.flatten.map .d
def jsP (H : Hp) (d : Nat) (s : Nat → AV) (A : Prop) : List (Nat × List (List D)) → Prop
 | [] => A
 | (j, es) :: r => match s j with
  | .ref k q off m => (match Zep k (1, d), Zcy H k q with | true, true => FzR (H (1, d)).cells off m (H (1, d)).sz es ∧ jsP H d s A r | _, _ => False)
  | _ => False
def csP (H : Hp) (d : Nat) (A : Prop) : List (Key × Nat × List (List D)) → Prop
 | [] => A
 | (k, i, es) :: r => match Nat.beq k.1 1, Zep k (1, d), (H k).live, nth (H k).cells i with
  | true, false, true, some (.ref k' q off m) => (match Zep k' (1, d), Zcy H k' q with | true, true => FzR (H (1, d)).cells off m (H (1, d)).sz es ∧ csP H d A r | _, _ => False)
  | _, _, _, _ => False
def trK (r : Ren) (k : Key) (A : Prop) : Prop :=
 match Nat.beq k.1 1 with
 | true => A
 | false => WrS r k ∧ A
def ZeA (r : Ren) (os : Nat) : AT → St → (St → AT → Prop) → Prop
 | .frz d js cs b, τ, K => match (τ.H (1, d)).live, Nat.ble 1 (τ.H (1, d)).sz with
  | true, true => jsP τ.H d τ.s (csP τ.H d (ZeA r os b ⟨ZvS js τ.s, Zt0 cs (updH τ.H (1, d) ⟨(τ.H (1, d)).g, false, (τ.H (1, d)).e, (τ.H (1, d)).sz, (τ.H (1, d)).cells⟩)⟩ K) cs) js
  | _, _ => False
 | .adc k i d e sz b, τ, K => match Nat.beq k.1 1, Zep k (1, d), (τ.H k).live, nth (τ.H k).cells i with
  | true, false, true, some .e0 => ZeA r os b ⟨τ.s, updH (updH τ.H (1, d) ⟨(τ.H (1, d)).g + 1, true, e, sz, []⟩) k ⟨(τ.H k).g, true, (τ.H k).e, (τ.H k).sz, (τ.H k).cells.set i (.ref (1, d) ((τ.H (1, d)).g + 1) 0 0)⟩⟩ K
  | _, _, _, _ => False
 | .sep b, τ, K => K τ b
 | .ads j d e sz b, τ, K => match ZEC (τ.s j) with
  | true => ZeA r os b ⟨upd τ.s j (.ref (1, d) ((τ.H (1, d)).g + 1) 0 0), updH τ.H (1, d) ⟨(τ.H (1, d)).g + 1, true, e, sz, []⟩⟩ K
  | false => False
 | .trim k c b, τ, K => match (τ.H k).live with
  | true => (∃ m, (τ.H k).cells.take m = c) ∧ trK r k (ZeA r os b ⟨τ.s, updH τ.H k ⟨(τ.H k).g, true, (τ.H k).e, (τ.H k).sz, c⟩⟩ K)
  | false => False
 | .reb j d m c b, τ, K => match τ.s j with
  | .ref k q off n => (match Zep k (1, d), Zcy τ.H k q with
   | true, true => (n = m ∧ off * (τ.H k).sz ≤ (τ.H k).cells.length ∧ (τ.H k).cells.drop (off * (τ.H k).sz) = c) ∧ ZeA r os b ⟨upd τ.s j (.ref k (q + 1) 0 m), updH τ.H k ⟨q + 1, true, (τ.H k).e, (τ.H k).sz, c⟩⟩ K
   | _, _ => False)
  | _ => False
 | .mv d j b, τ, K => match (τ.H (1, d)).live with
  | true => ZhJ (τ.H (1, d)).cells ∧ (j < os ∧ r.no (r.κ (0, j))) ∧ ZeA r os b ⟨fun i => mvA (1, d) (0, j) (τ.H (1, d)).g ((τ.H (0, j)).g + 1) (τ.s i),
    updH (updH τ.H (1, d) ⟨(τ.H (1, d)).g, false, (τ.H (1, d)).e, (τ.H (1, d)).sz, (τ.H (1, d)).cells⟩) (0, j) ⟨(τ.H (0, j)).g + 1, true, (τ.H (1, d)).e, (τ.H (1, d)).sz, (τ.H (1, d)).cells⟩⟩ K
  | false => False
 | a, τ, K => K τ a
def Zc2 (P : Program) (T : Nat → Option TI) (l n os : Nat) (r : Ren) : Code → AT → St → (Exit → St → AT → Prop) → Prop
 | .skip, a, τ, K => K .normal τ a
 | .ret, a, τ, K => ZeA r os a τ (fun τ a => K .ret τ a)
 | .exit id, a, τ, K => K (.exit id) τ a
 | .seq x y, a, τ, K => Zc2 P T l n os r x a τ (fun e τ' a' => match e with | .normal => Zc2 P T l n os r y a' τ' K | e => K e τ' a')
 | .block id c, a, τ, K => Zc2 P T l n os r c a τ (fun e τ' a' => match e with | .exit i => (match Nat.beq i id with | true => K .normal τ' a' | false => K (.exit i) τ' a') | e => K e τ' a')
 | .cond c x y, a, τ, K => match ev τ.s c, a with
  | .d (.bool b), .br a1 a2 => (b = true → Zc2 P T l n os r x a1 τ K) ∧ (b = false → Zc2 P T l n os r y a2 τ K)
  | .d (.bool b), .go a => (match b with | true => Zc2 P T l n os r x a τ K | false => Zc2 P T l n os r y a τ K)
  | _, _ => False
 | .region _ ops draw, a, τ, K => match draw with
  | false => ZeA r os a τ (fun τ a => Zkk P T l n r (ops.toList.map (·.dst)) ops.toList [] a (fun τ' env a' => K .normal (Zoh env τ') a') τ)
  | true => match ZAH ops.toList && ops.toList.all (fun o => Zbd o || stB o) && okS ops.toList 0 ops.toList with
   | true => ZeA r os a τ (fun τ a => Zkk P T l n r (ops.toList.map (·.dst)) ops.toList [] a (fun τ' env a' => K .normal (Zoh env τ') a') τ)
   | false => False
 | _, _, _, _ => False
mutual
def frz (H : Hp) : AV → AT → (AV → AT → Prop) → Prop
 | .d x, a, K => K (.d x) a
 | .e0, a, K => K (.d (.list [])) a
 | .agg xs, a, K => ZvD H xs a (fun ys a' => K (.agg ys) a')
 | .ref k g off n, a, K => match Nat.beq k.1 0, Nat.beq k.1 1, Zcy H k g with
  | true, _, true => K (.ref k g off n) a
  | false, true, true => (match a with | .av (.d (.list es)) a' => FzR (H k).cells off n (H k).sz es ∧ K (.d (.list es)) a' | _ => False)
  | _, _, _ => False
 | _, _, _ => False
def ZvD (H : Hp) : List AV → AT → (List AV → AT → Prop) → Prop
 | [], a, K => K [] a
 | x :: xs, a, K => frz H x a (fun y a' => ZvD H xs a' (fun ys a'' => K (y :: ys) a''))
end
def ldR (T : Nat → Option TI) (τ : St) : ResultVar → (AV → Prop) → Prop
 | .tmp t, K => K (τ.s t)
 | .cell p t, K => match τ.s p, T t with
  | .ptr k g off, some i => (match Zcy τ.H k g, i.agg with
   | true, true => (match Nat.ble 1 i.siz, Zja i.siz ((τ.H k).cells.drop off) with | true, some c => K (.agg c) | _, _ => False)
   | true, false => (match nth (τ.H k).cells off with | some c => K c | none => False)
   | false, _ => False)
  | _, _ => False
def ZFF (T : Nat → Option TI) (τ : St) : List ResultVar → (List AV → Prop) → Prop
 | [], K => K []
 | v :: vs, K => ldR T τ v (fun x => ZFF T τ vs (fun xs => K (x :: xs)))
def Zj3 (H : Hp) : Nat → Nat → List Blk
 | 0, _ => []
 | n + 1, i => H (0, i) :: Zj3 H n (i + 1)
def ZBq (T : Nat → Option TI) (rs : List ResultVar) (os : Nat) (τ : St) (a : AT) (Post : AV → List Blk → Prop) : Prop :=
 ZFF T τ rs (fun xs => ZvD τ.H xs a (fun ys _ => Post (ZkY ys) (Zj3 τ.H os 0)))
def FQ (T : Nat → Option TI) (rs : List ResultVar) (os : Nat) (Post : AV → List Blk → Prop) (e : Exit) (τ : St) : Prop := (e = .normal ∨ e = .ret) ∧ ∃ a, ZBq T rs os τ a Post
end Go.Eng
