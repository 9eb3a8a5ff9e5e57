/-
  Reckoning by the kernel, part U: one operation, sound; regions, sound.
-/
import Derived.Test.YthagpbkmakocjaaEngT
namespace Go.Eng
set_option linter.all false
open Go Go.RowKit

/-- what is reached, but for a slice without room -/
def KA (r : Ren) (l n outs : Nat) (B : Base) (env : Env) (K : St → AT → Prop) (σ : St) : Prop := ∃ σ', After r l outs env K σ' ∧ ∀ act w, R l n B σ act w → R l n B σ' act w

section
variable {P : Program} {T : Nat → Option TI} {r : Ren} {l n outs : Nat} {B : Base} {env : Env} {τ σ : St} {a : AT} {o : Oper} {K : St → AT → Prop}

theorem KA.of (h : After r l outs env K σ) : KA r l n outs B env K σ := ⟨σ, h, fun _ _ h => h⟩
theorem newK_KA {d : Nat} {e : TypeId} {sz : Nat} {cells : List AV} {x : Nat → AV} (h : newK l n d e sz cells x (After r l outs env K) σ) : newK l n d e sz cells x (KA r l n outs B env K) σ := ⟨h.1, .of h.2⟩

theorem val_aop (hT : TOk P T) (h : RG r l outs env τ σ) {d : Nat} (hd : o.dst = some d) (hc : chkOp env [] o.op = true) (hf : fresh d env = true) (hp : tV T τ.H o.op (ev τ.s) none a (put1 n d K τ))
    (hro : rOp P l n o (KA r l n outs B ((d, []) :: env) K) σ = vOp P σ.H o.op (ev σ.s) (putK n o.dst (KA r l n outs B ((d, []) :: env) K) σ)) : rOp P l n o (KA r l n outs B ((d, []) :: env) K) σ := by
  rw [hro, hd]
  refine vOp_imp (fun y hy => ?_) (pV_vOp hT h satC_nil (fun b e => by cases e) hc hp)
  obtain ⟨h1, h2⟩ := put1_put h hf hy
  exact ⟨h1, .of h2⟩

theorem cellD_ren {x : AV} {d : D} (h : cellD x = some d) : ren r x = x := by
  cases x <;> simp only [cellD] at h <;> first | (simp [ren]; done) | cases h
theorem pureD_ren : ∀ {xs : List AV} {ds : List D}, pureD xs = some ds → rens r xs = xs
  | [], _, _ => by simp [rens]
  | x :: xs, ds, h => by
    simp only [pureD] at h
    split at h
    · rename_i d ds' h1 h2
      rw [rens, cellD_ren h1, pureD_ren h2]
    · cases h
theorem elD_ren {x : AV} {e : List D} (h : elD x = some e) : ren r x = x := by
  cases x with
  | agg xs => simp only [elD] at h; rw [ren, pureD_ren h]
  | _ =>
    simp only [elD] at h
    split at h
    · rename_i d hd; exact cellD_ren hd
    · cases h
theorem litD_ren {sz : Nat} : ∀ {ps : List (Nat × AV)} {i : Nat} {es : List (List D)}, litD sz i ps = some es → (ps.map fun p => (p.1, ren r p.2)) = ps
  | [], _, _, _ => rfl
  | (j, v) :: ps, i, es, h => by
    simp only [litD] at h
    split at h
    · rename_i e es' h1 h2
      simp only [List.map_cons, elD_ren h1, litD_ren h2]
    · cases h

theorem srcA_of (h : RG r l outs env τ σ) {sz c : Nat} {y : AV} {news : List AV} (ho : srcOk τ.H sz y = true) (hs : SrcS sz (cellsOf τ.H y) y c news) : srcA σ.H sz (ren r y) = some (c, rens r news) ∧ (rens r news).all AV.one = true := by
  obtain ⟨h1, h2⟩ := hs
  have hone : (rens r news).all AV.one = true := by
    rw [rens_eq, List.all_map]
    refine List.all_eq_true.2 fun x hx => ?_
    have := List.all_eq_true.1 h1 x hx
    cases x <;> first | (simp [Function.comp, ren, AV.one]; done) | cases this
  refine ⟨?_, hone⟩
  split at h2
  · obtain ⟨rfl, rfl⟩ := h2; simp [ren, srcA, rens]
  · rename_i es
    obtain ⟨h3, rfl, rfl⟩ := h2
    simp only [ren, srcA]
    rw [if_pos (List.all_eq_true.2 fun e he => by simpa using h3 e he), rens_d]
  · rename_i k g off m
    obtain ⟨rfl, h3, rfl⟩ := h2
    simp only [srcOk, Bool.and_eq_true] at ho
    obtain ⟨hl, hz⟩ := ho
    obtain ⟨g1, g2, g3, g4, g5⟩ := h.h.at hl
    have e : cellsOf τ.H (.ref k g off c) = (τ.H k).cells := by simp [cellsOf, hl]
    rw [e] at h3 ⊢
    simp only [ren, srcA]
    rw [if_pos ⟨g1, g2, by rw [g4]; exact Nat.eq_of_beq_eq_true hz, by rw [g5, rens_len]; exact h3⟩, g5, rens_drop, rens_take]
  · exact h2.elim

theorem app_sound (hr : RenOk r l outs) (hT : TOk P T) (h : RG r l outs env τ σ) {d : Nat} {t : TypeId} {x y : AV} (hf : fresh d env = true) (hp : pApp T r n d t x y a K τ) :
    appK P l n d t (ren r x) (ren r y) (KA r l n outs B ((d, []) :: env) K) σ := by
  unfold pApp at hp
  split at hp
  case h_2 => exact hp.elim
  rename_i i hi
  split at hp
  case h_2 => exact hp.elim
  rename_i e sz he
  split at hp
  case h_2 => exact hp.elim
  rename_i j hj hsz hsrc
  have hsz := Nat.le_of_ble_eq_true hsz
  unfold appK
  rw [(hT _ _ hi).elm _ he]
  split at hp
  · rename_i byt z c news q hb hz
    obtain ⟨h1, h2, h3⟩ := hp
    obtain ⟨e1, e2⟩ := srcA_of h hsrc h1
    obtain ⟨b1, b2⟩ := (hT _ _ hj).byt _ hb
    have hlim : c * P.bytesOf e ≤ 140737488355328 := Nat.le_trans (Nat.mul_le_mul_left _ b1) h2
    refine ⟨by omega, b2, by rw [(hT _ _ hj).zer _ hz]; rfl, ?_⟩
    simp only [e1, ren]
    refine ⟨e2, hlim, fun hc => ?_, fun hc => ?_⟩
    · subst hc
      have hd : d < n := by
        unfold newT at h3
        split at h3
        · rename_i hd; have := Nat.le_of_ble_eq_true hd; omega
        · exact h3.elim
      have hn := newT_newK (x' := fun g => .ref (l + 1, d) g 0 0) hr h hf (fun g => by simp [ren, hr.own]) h3
      have hnil : rens r news = [] := by
        have hl : news = [] := by
          obtain ⟨_, h1⟩ := h1
          split at h1
          · exact h1.2
          · obtain ⟨_, h4, h5⟩ := h1
            have : ‹List (List D)› = [] := List.eq_nil_of_length_eq_zero h4.symm
            rw [this] at h5; simpa using h5
          · obtain ⟨h4, _, h5⟩ := h1; rw [← h4] at h5; simpa using h5
          · exact h1.elim
        rw [hl]; simp [rens]
      rw [hnil] at hn
      refine ⟨hd, _, hn.2, fun act w hR => ?_⟩
      have := R.adopt (e := e) (sz := sz) hR (l + 1, d) rfl ((σ.H (l + 1, d)).g + 1) (Nat.lt_succ_self _) (d := d) (by simp [upd])
      have e3 : upd (upd σ.s d .e0) d (.ref (l + 1, d) ((σ.H (l + 1, d)).g + 1) 0 0) = upd σ.s d (.ref (l + 1, d) ((σ.H (l + 1, d)).g + 1) 0 0) := by funext j; unfold upd; split <;> rfl
      simp only [e3] at this
      exact this
    · exact newK_KA (newT_newK (x' := fun g => .ref (l + 1, d) g 0 c) hr h hf (fun g => by simp [ren, hr.own]) h3)
  · rename_i byt z k q off c' c news C' n' q' hb hz
    split at hp
    case h_2 => exact hp.elim
    rename_i hl hs2 he2 hd
    obtain ⟨h1, ⟨h2, h3, h4, h5⟩, h6⟩ := hp
    obtain ⟨h6, hko, hlow⟩ := wrK_of hr h (liveB_eq hl).2 h6
    obtain ⟨e1, e2⟩ := srcA_of h hsrc h1
    obtain ⟨b1, b2⟩ := (hT _ _ hj).byt _ hb
    obtain ⟨g1, g2, g3, g4, g5⟩ := h.h.at hl
    have hd := Nat.le_of_ble_eq_true hd
    have hs2 := Nat.eq_of_beq_eq_true hs2
    have he2 := Nat.eq_of_beq_eq_true he2
    refine ⟨by omega, b2, by rw [(hT _ _ hj).zer _ hz]; rfl, ?_⟩
    simp only [e1, ren]
    refine ⟨e2, g1, g2, by rw [g4, hs2], by rw [g3, he2], by rw [g5, rens_len]; exact h2, by rw [h4]; exact Nat.le_trans (Nat.mul_le_mul_left _ b1) h5, hlow, by omega, .of ⟨_, _, h6, ?_⟩⟩
    have h7 := h.put0 (v := .ref k (q + 1) 0 n') (y := .ref (r.κ k) (r.γ k + q + 1) 0 (c' + c)) hf (by simp [ren, h4, Nat.add_assoc])
    have h8 := RG.updH hr h7 k ⟨q + 1, true, e, sz, C'⟩ rfl hko
    have e3 : renB r k ⟨q + 1, true, e, sz, C'⟩ = ⟨r.γ k + q + 1, true, e, sz, (σ.H (r.κ k)).cells.drop (off * sz) ++ rens r news⟩ := by
      simp only [renB, g5, rens_drop, ← rens_app, h3, Nat.add_assoc]
    rw [e3] at h8
    exact h8
  · exact hp.elim

theorem store_sound (hr : RenOk r l outs) (h : RG r l outs env τ σ) {t : TypeId} {i : TI} (hi : TIok P t i) {x : AV} {vs : List AV} (hp : storeT r n i x (some vs) a K τ) :
    ∃ k g off, ren r x = .ptr k g off ∧ g = (σ.H k).g ∧ (σ.H k).live = true ∧ (rens r vs).length = P.cellsOf t ∧ rens r vs ≠ [] ∧ off + (rens r vs).length ≤ (σ.H k).cells.length ∧ (k.1 = l + 1 ∨ (rens r vs).all (AV.low k.1) = true) ∧
      After r l outs env K ⟨σ.s, updH σ.H k { σ.H k with cells := (σ.H k).cells.take off ++ rens r vs ++ (σ.H k).cells.drop (off + (rens r vs).length) }⟩ := by
  unfold storeT at hp
  split at hp
  case h_2 => exact hp.elim
  rename_i k q off vs' heq
  cases heq
  split at hp
  case h_2 => exact hp.elim
  rename_i hl hv1 hv2
  have hv1 := Nat.eq_of_beq_eq_true hv1
  have hv2 := Nat.le_of_ble_eq_true hv2
  obtain ⟨g1, g2, g3, g4, g5⟩ := h.h.at hl
  obtain ⟨q1, q2⟩ := liveB_eq hl
  have fin : ∀ C' r', StS (τ.H k).cells off vs C' → wrK r k vs (K ⟨τ.s, updH τ.H k ⟨q, true, (τ.H k).e, (τ.H k).sz, C'⟩⟩ r') → _ := fun C' r' hs hK => by
    obtain ⟨s1, s2⟩ := hs
    obtain ⟨hK, hko, hlow⟩ := wrK_of hr h (liveB_eq hl).2 hK
    refine (⟨r.κ k, r.γ k + q, off, by simp [ren], g1, g2, by rw [rens_len, hi.siz, hv1], by intro e; have := congrArg List.length e; rw [rens_len, List.length_nil] at this; omega, by rw [g5, rens_len, rens_len]; exact s1, ?_, _, _, hK, ?_⟩ :
      ∃ k' g off', ren r (.ptr k q off) = .ptr k' g off' ∧ g = (σ.H k').g ∧ (σ.H k').live = true ∧ (rens r vs).length = P.cellsOf t ∧ rens r vs ≠ [] ∧ off' + (rens r vs).length ≤ (σ.H k').cells.length ∧ (k'.1 = l + 1 ∨ (rens r vs).all (AV.low k'.1) = true) ∧
      After r l outs env K ⟨σ.s, updH σ.H k' { σ.H k' with cells := (σ.H k').cells.take off' ++ rens r vs ++ (σ.H k').cells.drop (off' + (rens r vs).length) }⟩)
    · exact hlow
    · have h8 := RG.updH hr h k ⟨q, true, (τ.H k).e, (τ.H k).sz, C'⟩ rfl hko
      have e3 : renB r k ⟨q, true, (τ.H k).e, (τ.H k).sz, C'⟩ = { σ.H (r.κ k) with cells := (σ.H (r.κ k)).cells.take off ++ rens r vs ++ (σ.H (r.κ k)).cells.drop (off + (rens r vs).length) } := by
        simp only [renB, g5, rens_len, rens_take, rens_drop, ← rens_app, s2, g1, g3, g4, ← g2]
      rw [e3] at h8
      exact h8
  split at hp
  · split at hp
    · rename_i hb; exact fin _ _ ⟨Nat.le_of_ble_eq_true hb, rfl⟩ hp
    · exact hp.elim
  · exact fin _ _ hp.1 hp.2
  · exact hp.elim

/-- one operation -/
theorem pOp1_rOp (hr : RenOk r l outs) (hT : TOk P T) (h : RG r l outs env τ σ) (hc : chkOp env [] o.op = true) (hf : freshO env o.dst = true) (hp : pOp1 P T l n r o a K τ) : rOp P l n o (KA r l n outs B (stepE env o.dst) K) σ := by
  obtain ⟨dst, op, ty, ps, af, gd⟩ := o
  have ops : ∀ {op : Op}, chkOp env [] op = true → (∀ c x y, op ≠ .pick c x y) → ∀ x ∈ op.operands, ev σ.s x = ren r (ev τ.s x) := fun {op} hc hne => by
    unfold chkOp at hc
    split at hc
    · exact absurd rfl (hne _ _ _)
    · exact chk_all h satC_nil hc
  unfold pOp1 at hp
  simp only at hc hf hp ⊢
  split at hp
  · rename_i t
    split at hp
    case h_2 => exact hp.elim
    rename_i d i hi
    split at hp
    case h_2 => exact hp.elim
    rename_i z zs hz
    have hfl := rens_flat (r := r) ((hT _ _ hi).flt _ hz)
    have hn := newT_newK (x' := fun g => .ptr (l + 1, d) g 0) hr h hf (fun g => by simp [ren, hr.own]) hp
    rw [hfl] at hn
    simp only [rOp, (hT _ _ hi).zer _ hz]
    exact ⟨by simp, newK_KA hn⟩
  · rename_i t x
    split at hp
    case h_2 => exact hp.elim
    rename_i d z zs hz hnf
    have hx := ops hc (fun _ _ _ e => by cases e) x (by simp [Op.operands])
    have hn := newT_newK (x' := fun g => .ptr (l + 1, d) g 0) hr h hf (fun g => by simp [ren, hr.own]) hp
    have hz' := cellsAV_ren (r := r) hz (noFn_ne hnf)
    simp only [rOp, hx, hz']
    refine ⟨rens_nil (by simp), ?_⟩
    rw [rens_len]
    exact newK_KA hn
  · rename_i t p x
    split at hp
    case h_2 => exact hp.elim
    rename_i i hi hnf
    have hx := ops hc (fun _ _ _ e => by cases e) x (by simp [Op.operands])
    have hpp := ops hc (fun _ _ _ e => by cases e) p (by simp [Op.operands])
    cases hz : cellsAV (ev τ.s x) with
    | none => rw [hz] at hp; unfold storeT at hp; split at hp <;> first | exact hp.elim | (rename_i e; cases e)
    | some vs =>
      rw [hz] at hp
      have hz' := cellsAV_ren (r := r) hz (noFn_ne hnf)
      obtain ⟨k, g, off, e1, e2, e3, e4, e5, e6, e7, e8⟩ := store_sound hr h (hT _ _ hi) hp
      simp only [rOp, hpp, hx, hz', e1]
      exact ⟨e2, e3, e4, e5, e6, e7, .of e8⟩
  · rename_i t len parts
    split at hp
    case h_2 => exact hp.elim
    rename_i d i hi
    split at hp
    case h_2 => exact hp.elim
    rename_i e sz he
    simp only [rOp, (hT _ _ hi).elm _ he]
    split at hp
    · rename_i hsz
      have hsz := Nat.le_of_ble_eq_true hsz
      refine ⟨by omega, ?_⟩
      split at hp
      · rename_i hps
        obtain ⟨h1, h2⟩ := put1_put h hf (y := .e0) ⟨.e0, a, by simp [ren], hp⟩
        exact ⟨by rw [← Array.length_toList, hps]; rfl, h1, .of h2⟩
      · exact hp.elim
    · rename_i len' hsz
      have hsz := Nat.le_of_ble_eq_true hsz
      refine ⟨by omega, ?_⟩
      split at hp
      case h_2 => exact hp.elim
      rename_i j hj hlim
      split at hp
      case h_2 => exact hp.elim
      rename_i z hz
      split at hp
      case h_2 => exact hp.elim
      rename_i es hzl hlit
      split at hp
      case h_2 => exact hp.elim
      rename_i hes
      have e1 : (parts.toList.map fun p => (p.1, ev σ.s p.2)) = parts.toList.map fun p => (p.1, ev τ.s p.2) := by
        have : (parts.toList.map fun p => (p.1, ev σ.s p.2)) = (parts.toList.map fun p => (p.1, ev τ.s p.2)).map fun p => (p.1, ren r p.2) := by
          rw [List.map_map]
          refine List.map_congr_left fun p hp => ?_
          simp only [Function.comp]
          rw [ops hc (fun _ _ _ e => by cases e) p.2 (by simp only [Op.operands, List.mem_toArray, List.mem_map]; exact ⟨p, hp, rfl⟩)]
        rw [this, litD_ren hlit]
      rw [e1]
      simp only [(hT _ _ hj).zer _ hz, hlit]
      obtain ⟨h1, h2⟩ := put1_put h hf (y := .d (.list es)) ⟨.d (.list es), a, by simp [ren], hp⟩
      exact ⟨Nat.le_of_ble_eq_true hlim, Nat.eq_of_beq_eq_true hzl, Nat.eq_of_beq_eq_true hes, h1, .of h2⟩
    · exact hp.elim
  · rename_i t x y
    split at hp
    case h_2 => exact hp.elim
    rename_i d i k1 c k2 c' m C b hi hx0 hy0
    have hx := ops hc (fun _ _ _ e => by cases e) x (by simp [Op.operands])
    have hy := ops hc (fun _ _ _ e => by cases e) y (by simp [Op.operands])
    rw [hx0] at hx
    rw [hy0] at hy
    split at hp
    case h_2 => exact hp.elim
    rename_i e sz he
    split at hp
    case h_2 => exact hp.elim
    rename_i j hj hsz
    split at hp
    case h_2 => exact hp.elim
    rename_i z byt hz hbyt
    split at hp
    case h_2 => exact hp.elim
    rename_i hzl
    obtain ⟨⟨m1, m2, m3, m4⟩, hp⟩ := hp
    have hzl := Nat.eq_of_beq_eq_true hzl
    have hsz := Nat.le_of_ble_eq_true hsz
    have hb := (hT _ _ hj).byt _ hbyt
    have hfz := (hT _ _ hj).flt _ hz
    have hflC : C.all AV.flat = true := by
      subst m4
      refine List.all_eq_true.2 fun q hq => ?_
      obtain ⟨z', hz', hq'⟩ := List.mem_flatten.1 hq
      rw [(List.mem_replicate.1 hz').2] at hq'
      exact List.all_eq_true.1 hfz q hq'
    have hfl := rens_flat (r := r) hflC
    have hn := newT_newK (x' := fun g => .ref (l + 1, d) g 0 m) hr h hf (fun g => by simp [ren, hr.own]) hp
    rw [hfl] at hn
    simp only [rOp, (hT _ _ hi).elm _ he, hx, hy, ren, (hT _ _ hj).zer _ hz]
    subst m1
    have hbb : (P.bytesOf e : Int) * c' ≤ (byt : Int) * c' := Int.mul_le_mul_of_nonneg_right (by omega) (by omega)
    refine ⟨by omega, m2, by omega, hb.2, by omega, hzl, ?_⟩
    simp only [Int.toNat_natCast, m4]
    exact newK_KA hn
  · rename_i c
    split at hp
    · rename_i hcal
      split at hp
      case h_2 => exact hp.elim
      rename_i d x y t t' ha ht
      split at hp
      case h_2 => exact hp.elim
      rename_i htt
      have htt := Nat.eq_of_beq_eq_true htt
      subst htt
      have h2 : c.argTypes = #[t, t] := Array.ext' (by simpa using ht)
      have hx := ops hc (fun _ _ _ e => by cases e) x (by simp only [Op.operands, Call.operands, Array.mem_append]; exact .inr (by rw [← Array.mem_toList_iff, ha]; simp))
      have hy := ops hc (fun _ _ _ e => by cases e) y (by simp only [Op.operands, Call.operands, Array.mem_append]; exact .inr (by rw [← Array.mem_toList_iff, ha]; simp))
      simp only [rOp, hcal, ha, ht]
      refine ⟨by rw [h2]; rfl, ?_⟩
      rw [hx, hy]
      exact app_sound hr hT h hf hp
    · rename_i hna
      split at hp
      case h_2 => exact hp.elim
      rename_i d
      unfold pV at hp
      simp only at hp
      split at hp
      · rename_i f hcal
        obtain ⟨i, first, caps, x, a', e1, e2, e3⟩ := call_real h satC_nil (fun b e => by cases e) hcal hc hp
        simp only [rOp, hcal, e1]
        refine e2.mono fun y H' ⟨h1, h2⟩ => ?_
        subst h1; subst h2
        obtain ⟨h1, h2⟩ := put1_put h hf (y := ren r x) ⟨x, a', rfl, e3⟩
        exact ⟨h1, .of h2⟩
      · rename_i hnv
        refine val_aop (o := ⟨some d, .call c, ty, ps, af, gd⟩) hT h rfl hc hf hp ?_
        simp only [rOp]
  · rename_i h1 h2 h3 h4 h5 h6
    split at hp
    case h_2 => exact hp.elim
    rename_i d
    have hp' : tV T τ.H op (ev τ.s) none a (put1 n d K τ) := by
      unfold pV at hp
      split at hp
      · exact absurd rfl (h6 _)
      · exact absurd rfl (h4 _ _ _)
      · exact hp
    refine val_aop (o := ⟨some d, op, ty, ps, af, gd⟩) hT h rfl hc hf hp' ?_
    simp only [rOp]
theorem putK_KA {d : Option Nat} {v y : AV} {H' : Hp} (hf : freshO env d = true) {τ' : St} (h : RG r l outs env ⟨τ.s, τ'.H⟩ ⟨σ.s, H'⟩) (hy : y = ren r v) (hk : dstK n K τ.s τ'.H v a d) :
    putK n d (KA r l n outs B (stepE env d) K) ⟨σ.s, H'⟩ y := by
  cases d with
  | none => exact .of ⟨_, _, hk, h⟩
  | some d =>
    simp only [dstK] at hk
    split at hk
    · rename_i hd; exact ⟨Nat.le_of_ble_eq_true hd, .of ⟨_, _, hk, h.put0 hf hy⟩⟩
    · exact hk.elim
/-- one operation, copy and clear too -/
theorem pOp2_aop (hr : RenOk r l outs) (hT : TOk P T) (h : RG r l outs env τ σ) (hc : chkOp env [] o.op = true) (hf : freshO env o.dst = true) (hp : pOp2 P T l n r o a K τ) : AOp P l n B o (KA r l n outs B (stepE env o.dst) K) σ := by
  have ops : ∀ {op : Op}, chkOp env [] op = true → (∀ c x y, op ≠ .pick c x y) → ∀ x ∈ op.operands, ev σ.s x = ren r (ev τ.s x) := fun {op} hc hne => by
    unfold chkOp at hc
    split at hc
    · exact absurd rfl (hne _ _ _)
    · exact chk_all h satC_nil hc
  unfold pOp2 at hp
  split at hp
  case h_2 => exact rOp_sound (pOp1_rOp hr hT h hc hf hp)
  rename_i c ho
  split at hp
  · rename_i hcal
    split at hp
    case h_2 => exact hp.elim
    rename_i x y t t' ha ht
    have ho' : o.op = .call ⟨.builtin .copy, #[x, y], #[t, t']⟩ := by
      rw [ho]
      have e1 : c.args = #[x, y] := Array.ext' (by simpa using ha)
      have e2 : c.argTypes = #[t, t'] := Array.ext' (by simpa using ht)
      cases c; simp only at hcal e1 e2; subst hcal; subst e1; subst e2; rfl
    rw [ho'] at hc
    have hx := ops hc (fun _ _ _ e => by cases e) x (by simp [Op.operands, Call.operands])
    have hy := ops hc (fun _ _ _ e => by cases e) y (by simp [Op.operands, Call.operands])
    unfold pCopy at hp
    split at hp
    case h_2 => exact hp.elim
    rename_i i i' hi hi'
    split at hp
    case h_2 => exact hp.elim
    rename_i e sz e' sz' he he'
    split at hp
    case h_2 => exact hp.elim
    rename_i j q1 q2 hj hsz hsrc
    split at hp
    case h_2 => exact hp.elim
    rename_i z k q off cn cnt news C' b hz hxv
    split at hp
    case h_2 => exact hp.elim
    rename_i hl hs2
    obtain ⟨h1, h2, h3, h4⟩ := hp
    obtain ⟨h4, hko, hlow⟩ := wrK_of hr h (liveB_eq hl).2 h4
    have q1 := Nat.eq_of_beq_eq_true q1
    have q2 := Nat.eq_of_beq_eq_true q2
    subst q1; subst q2
    have hs2 := Nat.eq_of_beq_eq_true hs2
    have hsz := Nat.le_of_ble_eq_true hsz
    obtain ⟨g1, g2, g3, g4, g5⟩ := h.h.at hl
    obtain ⟨e1, e2⟩ := srcA_of h hsrc h1
    rw [hxv] at hx
    obtain ⟨s1, s2⟩ := h3
    obtain ⟨ss, sH⟩ := σ
    refine aop_copy (k := r.κ k) (g := r.γ k + q) (off := off) (cn := cn) (cnt := cnt) (news := rens r news) ho' (by rw [hx]; simp [ren]) ((hT _ _ hi).elm _ he) ((hT _ _ hi').elm _ he') (by rw [(hT _ _ hj).zer _ hz]; rfl) (by omega) g1 g2 (by rw [g4, hs2]) (by rw [hy]; exact e1) h2
      (by rw [g5, rens_len, rens_len]; exact s1) hlow ?_
    have h8 := RG.updH hr h k ⟨q, true, (τ.H k).e, (τ.H k).sz, C'⟩ rfl hko
    have e3 : renB r k ⟨q, true, (τ.H k).e, (τ.H k).sz, C'⟩ = { sH (r.κ k) with cells := (sH (r.κ k)).cells.take (off * sz) ++ rens r news ++ (sH (r.κ k)).cells.drop (off * sz + (rens r news).length) } := by
      simp only at g1 g2 g3 g4 g5
      simp only [renB, g5, rens_len, rens_take, rens_drop, ← rens_app, s2, g1, g3, g4, ← g2]
    simp only at e3
    rw [e3] at h8
    refine putK_KA (v := .d (.int .i64 cnt)) (a := b) (τ' := ⟨τ.s, updH τ.H k ⟨q, true, (τ.H k).e, (τ.H k).sz, C'⟩⟩) hf h8 (by simp [ren]) h4
  · rename_i hcal
    split at hp
    case h_2 => exact hp.elim
    rename_i x t ha ht hd
    have ho' : o.op = .call ⟨.builtin .clear, #[x], #[t]⟩ := by
      rw [ho]
      have e1 : c.args = #[x] := Array.ext' (by simpa using ha)
      have e2 : c.argTypes = #[t] := Array.ext' (by simpa using ht)
      cases c; simp only at hcal e1 e2; subst hcal; subst e1; subst e2; rfl
    rw [ho'] at hc
    have hx := ops hc (fun _ _ _ e => by cases e) x (by simp [Op.operands, Call.operands])
    unfold pClear at hp
    split at hp
    case h_2 => exact hp.elim
    rename_i i hi
    split at hp
    case h_2 => exact hp.elim
    rename_i e sz he
    split at hp
    case h_2 => exact hp.elim
    rename_i j hj hsz
    split at hp
    case h_2 => exact hp.elim
    rename_i z k q off cn C' b hz hxv
    split at hp
    case h_2 => exact hp.elim
    rename_i hl hs2 hzl
    obtain ⟨⟨h1, h2⟩, h4⟩ := hp
    obtain ⟨h4, hko, hlow⟩ := wrK_of hr h (liveB_eq hl).2 h4
    have hs2 := Nat.eq_of_beq_eq_true hs2
    have hsz := Nat.le_of_ble_eq_true hsz
    have hzl := Nat.eq_of_beq_eq_true hzl
    obtain ⟨g1, g2, g3, g4, g5⟩ := h.h.at hl
    have hfz := rens_flat (r := r) ((hT _ _ hj).flt _ hz)
    rw [hfz] at hlow
    rw [hxv] at hx
    obtain ⟨ss, sH⟩ := σ
    refine aop_clear (k := r.κ k) (g := r.γ k + q) (off := off) (cn := cn) ho' hd (by rw [hx]; simp [ren]) ((hT _ _ hi).elm _ he) ((hT _ _ hj).zer _ hz) hzl (by omega) g1 g2 (by rw [g4, hs2]) (by rw [g5, rens_len]; exact h1) hlow ?_
    have h8 := RG.updH hr h k ⟨q, true, (τ.H k).e, (τ.H k).sz, C'⟩ rfl hko
    have hrep : rens r (List.replicate cn z).flatten = (List.replicate cn z).flatten := rens_flat (by
      refine List.all_eq_true.2 fun q hq => ?_
      obtain ⟨z', hz', hq'⟩ := List.mem_flatten.1 hq
      rw [(List.mem_replicate.1 hz').2] at hq'
      exact List.all_eq_true.1 ((hT _ _ hj).flt _ hz) q hq')
    have e3 : renB r k ⟨q, true, (τ.H k).e, (τ.H k).sz, C'⟩ = { sH (r.κ k) with cells := (sH (r.κ k)).cells.take (off * sz) ++ (List.replicate cn z).flatten ++ (sH (r.κ k)).cells.drop ((off + cn) * sz) } := by
      simp only at g1 g2 g3 g4 g5
      rw [← h2]
      simp only [renB, g5, rens_app, rens_take, rens_drop, hrep, g1, g3, g4, ← g2]
    simp only at e3
    rw [e3] at h8
    exact .of ⟨_, _, h4, by rw [hd]; exact h8⟩
  · exact rOp_sound (pOp1_rOp hr hT h hc hf hp)
theorem ren_flat1 {r : Ren} {x : AV} (h : x.flat = true) : ren r x = x := by cases x <;> simp [AV.flat] at h <;> simp [ren]
theorem pOp3_q (hq : quietB o = true) (hp : pOp3 P T l n r o a K τ) : pOp2 P T l n r o a K τ := by
  unfold pOp3 at hp
  split at hp
  · rename_i ho; simp [quietB, ho] at hq
  · exact hp
/-- one operation, slices that are written out too -/
theorem pOp3_aop (hr : RenOk r l outs) (hT : TOk P T) (h : RG r l outs env τ σ) (hc : chkOp env [] o.op = true) (hf : freshO env o.dst = true) (hp : pOp3 P T l n r o a K τ) : AOp P l n B o (KA r l n outs B (stepE env o.dst) K) σ := by
  unfold pOp3 at hp
  split at hp
  case h_2 => exact pOp2_aop hr hT h hc hf hp
  rename_i t len parts ho
  split at hp
  case h_2 => exact pOp2_aop hr hT h hc hf hp
  rename_i b
  have ops : ∀ x ∈ o.op.operands, ev σ.s x = ren r (ev τ.s x) := by
    unfold chkOp at hc
    split at hc
    · rename_i e; rw [ho] at e; cases e
    · exact chk_all h satC_nil hc
  unfold buildL at hp
  split at hp
  case h_2 => exact hp.elim
  rename_i d i hd hi
  split at hp
  case h_2 => exact hp.elim
  rename_i e sz he
  split at hp
  case h_2 => exact hp.elim
  rename_i j hj hsz hlim
  split at hp
  case h_2 => exact hp.elim
  rename_i z hz
  split at hp
  case h_2 => exact hp.elim
  rename_i cs hzl hfill hfl
  split at hp
  case h_2 => exact hp.elim
  rename_i hcs
  have e1 : (parts.toList.map fun p => (p.1, ev σ.s p.2)) = parts.toList.map fun p => (p.1, ev τ.s p.2) := by
    refine List.map_congr_left fun p hp => ?_
    rw [ops p.2 (by rw [ho]; simp only [Op.operands, List.mem_toArray, List.mem_map]; exact ⟨p, hp, rfl⟩)]
    have := List.all_eq_true.1 hfl (p.1, ev τ.s p.2) (List.mem_map.2 ⟨p, hp, rfl⟩)
    rw [ren_flat1 this]
  have hd' : o.dst = some d := hd
  rw [hd'] at hf ⊢
  have hn := newT_newK (x' := fun g => .ref (l + 1, d) g 0 (len + 1)) hr h hf (fun g => by simp [ren, hr.own]) hp
  rw [rens_flat (r := r) hcs] at hn
  obtain ⟨s, H⟩ := σ
  exact aop_buildSlice ho hd' ((hT _ _ hi).elm _ he) (by have := Nat.le_of_ble_eq_true hsz; omega) (Nat.le_of_ble_eq_true hlim) ((hT _ _ hj).zer _ hz) (Nat.eq_of_beq_eq_true hzl) (by rw [e1]; exact hfill) (newK_KA hn)
end
end Go.Eng
