import Derived.Test.YtpjofefihlbppaaGreatCg08
import Derived.Test.YtpjofefihlbppaaGreatCg05
import Derived.Test.YtpjofefihlbppaaGreatCg00
namespace Go.Eng
set_option linter.all false
open Go Go.RowKit
def KA (r : Ren) (l n outs : Nat) (B : Base) (env : Env) (K : St → AT → Prop) (σ : St) : Prop := ∃ σ', Zjj r l outs env K σ' ∧ ∀ act w, R l n B σ act w → R l n B σ' act w
section
variable {P : Program} {T : Nat → Option TI} {r : Ren} {l n outs : Nat} {B : Base} {env : Env} {τ σ : St} {a : AT} {o : Oper} {K : St → AT → Prop}
theorem KA.of (h : Zjj r l outs env K σ) : KA r l n outs B env K σ := ⟨σ, h, fun _ _ h => h⟩
theorem ZfR {d : Nat} {e : TypeId} {sz : Nat} {cells : List AV} {x : Nat → AV} (h : ZiF l n d e sz cells x (Zjj r l outs env K) σ) : ZiF l n d e sz cells x (KA r l n outs B env K) σ := ⟨h.1, .of h.2⟩
theorem Zmi (hT : TOk P T) (h : RG r l outs env τ σ) {d : Nat} (hd : o.dst = some d) (hc : Zck env [] o.op = true) (hf : fresh d env = true) (hp : tV T τ.H o.op (ev τ.s) none a (Zko n d K τ))
  (hro : rOp P l n o (KA r l n outs B ((d, []) :: env) K) σ = vOp P σ.H o.op (ev σ.s) (Zf4 n o.dst (KA r l n outs B ((d, []) :: env) K) σ)) : rOp P l n o (KA r l n outs B ((d, []) :: env) K) σ := by
 rw [hro, hd]
 refine Zg9 (fun y hy => ?_) (Zsy hT h Zal (fun b e => by cases e) hc hp)
 obtain ⟨h1, h2⟩ := Zfh h hf hy
 exact ⟨h1, .of h2⟩
theorem Zf1 {x : AV} {d : D} (h : Zeb x = some d) : ren r x = x := by
 cases x <;> simp only [Zeb] at h <;> first | (simp [ren]; done) | cases h
theorem Zfv : ∀ {xs : List AV} {ds : List D}, Zdi xs = some ds → Zaq r xs = xs
 | [], _, _ => by simp [Zaq]
 | x :: xs, ds, h => by
  simp only [Zdi] at h
  split at h
  ·rename_i d ds' h1 h2
   rw [Zaq, Zf1 h1, Zfv h2]
  ·cases h
theorem ZvJ {x : AV} {e : List D} (h : elD x = some e) : ren r x = x := by
 cases x with
 | agg xs => simp only [elD] at h; rw [ren, Zfv h]
 | _ =>
  simp only [elD] at h
  split at h
  ·rename_i d hd; exact Zf1 hd
  ·cases h
theorem Zfe {sz : Nat} : ∀ {ps : List (Nat × AV)} {i : Nat} {es : List (List D)}, Zll sz i ps = some es → (ps.map fun p => (p.1, ren r p.2)) = ps
 | [], _, _, _ => rfl
 | (j, v) :: ps, i, es, h => by
  simp only [Zll] at h
  split at h
  ·rename_i e es' h1 h2
   simp only [YG, ZvJ h1, Zfe h2]
  ·cases h
theorem Zi6 (h : RG r l outs env τ σ) {sz c : Nat} {y : AV} {news : List AV} (ho : ZrR τ.H sz y = true) (hs : Zls sz (cellsOf τ.H y) y c news) : Zuc σ.H sz (ren r y) = some (c, Zaq r news) ∧ (Zaq r news).all AV.one = true := by
 obtain ⟨h1, h2⟩ := hs
 have hone : (Zaq r news).all AV.one = true := by
  rw [Zcy, List.all_map]
  refine Yg.2 fun x hx => ?_
  have := Yg.1 h1 x hx
  cases x <;> first | (simp [Function.comp, ren, AV.one]; done) | cases this
 refine ⟨?_, hone⟩
 split at h2
 ·obtain ⟨rfl, rfl⟩ := h2; simp [ren, Zuc, Zaq]
 ·rename_i es
  obtain ⟨h3, rfl, rfl⟩ := h2
  simp only [ren, Zuc]
  rw [if_pos (Yg.2 fun e he => by simpa using h3 e he), ZeF]
 ·rename_i k g off m
  obtain ⟨rfl, h3, rfl⟩ := h2
  simp only [ZrR, Bool.and_eq_true] at ho
  obtain ⟨hl, hz⟩ := ho
  obtain ⟨g1, g2, g3, g4, g5⟩ := h.h.at hl
  have e : cellsOf τ.H (.ref k g off c) = (τ.H k).cells := by simp [cellsOf, hl]
  rw [e] at h3 ⊢
  simp only [ren, Zuc]
  rw [if_pos ⟨g1, g2, by rw [g4]; exact Ya hz, by rw [g5, ZaF]; exact h3⟩, g5, Zbg, ZbB]
 ·exact h2.elim
theorem Zmz (hr : RenOk r l outs) (hT : TOk P T) (h : RG r l outs env τ σ) {d : Nat} {t : TypeId} {x y : AV} (hf : fresh d env = true) (hp : ZFR T r n d t x y a K τ) :
  Zzn P l n d t (ren r x) (ren r y) (KA r l n outs B ((d, []) :: env) K) σ := by
 unfold ZFR at hp
 split at hp
 case h_2 => exact hp.elim
 rename_i i hi
 split at hp
 case h_2 => exact hp.elim
 rename_i e sz he
 split at hp
 case h_2 => exact hp.elim
 rename_i j hj hsz hsrc
 have hsz := Yc hsz
 unfold Zzn
 rw [(hT _ _ hi).elm _ he]
 split at hp
 ·rename_i byt z c news q hb hz
  obtain ⟨h1, h2, h3⟩ := hp
  obtain ⟨e1, e2⟩ := Zi6 h hsrc h1
  obtain ⟨b1, b2⟩ := (hT _ _ hj).byt _ hb
  have hlim : c * P.bytesOf e ≤ 140737488355328 := Yad (Nat.mul_le_mul_left _ b1) h2
  refine ⟨by omega, b2, by rw [(hT _ _ hj).zer _ hz]; rfl, ?_⟩
  simp only [e1, ren]
  refine ⟨e2, hlim, fun hc => ?_, fun hc => ?_⟩
  ·subst hc
   have hd : d < n := by
    unfold ZtM at h3
    split at h3
    ·rename_i hd; have := Yc hd; omega
    ·exact h3.elim
   have hn := Zdp (x' := fun g => .ref (l + 1, d) g 0 0) hr h hf (fun g => by simp [ren, hr.own]) h3
   have hnil : Zaq r news = [] := by
    have hl : news = [] := by
     obtain ⟨_, h1⟩ := h1
     split at h1
     ·exact h1.2
     ·obtain ⟨_, h4, h5⟩ := h1
      have : ‹List (List D)› = [] := YO h4.symm
      rw [this] at h5; simpa using h5
     ·obtain ⟨h4, _, h5⟩ := h1; rw [← h4] at h5; simpa using h5
     ·exact h1.elim
    rw [hl]; simp [Zaq]
   rw [hnil] at hn
   refine ⟨hd, _, hn.2, fun act w hR => ?_⟩
   have := R.adopt (e := e) (sz := sz) hR (l + 1, d) rfl ((σ.H (l + 1, d)).g + 1) (YP _) (d := d) (by simp [upd])
   have e3 : upd (upd σ.s d .e0) d (.ref (l + 1, d) ((σ.H (l + 1, d)).g + 1) 0 0) = upd σ.s d (.ref (l + 1, d) ((σ.H (l + 1, d)).g + 1) 0 0) := by funext j; unfold upd; split <;> rfl
   simp only [e3] at this
   exact this
  ·exact ZfR (Zdp (x' := fun g => .ref (l + 1, d) g 0 c) hr h hf (fun g => by simp [ren, hr.own]) h3)
 ·rename_i byt z k q off c' c news C' n' q' hb hz
  split at hp
  case h_2 => exact hp.elim
  rename_i hl hs2 he2 hd
  obtain ⟨h1, ⟨h2, h3, h4, h5⟩, h6⟩ := hp
  obtain ⟨h6, hko, hlow⟩ := Zgu hr h (Za9 hl).2 h6
  obtain ⟨e1, e2⟩ := Zi6 h hsrc h1
  obtain ⟨b1, b2⟩ := (hT _ _ hj).byt _ hb
  obtain ⟨g1, g2, g3, g4, g5⟩ := h.h.at hl
  have hd := Yc hd
  have hs2 := Ya hs2
  have he2 := Zuo he2
  refine ⟨by omega, b2, by rw [(hT _ _ hj).zer _ hz]; rfl, ?_⟩
  simp only [e1, ren]
  refine ⟨e2, g1, g2, by rw [g4, hs2], by rw [g3, he2], by rw [g5, ZaF]; exact h2, by rw [h4]; exact Yad (Nat.mul_le_mul_left _ b1) h5, hlow, by omega, .of ⟨_, _, h6, ?_⟩⟩
  have h7 := h.put0 (v := .ref k (q + 1) 0 n') (y := .ref (r.κ k) (r.γ k + q + 1) 0 (c' + c)) hf (by simp [ren, h4, Yn])
  have h8 := RG.updH hr h7 k ⟨q + 1, true, e, sz, C'⟩ rfl hko
  have e3 : Za1 r k ⟨q + 1, true, e, sz, C'⟩ = ⟨r.γ k + q + 1, true, e, sz, (σ.H (r.κ k)).cells.drop (off * sz) ++ Zaq r news⟩ := by
   simp only [Za1, g5, Zbg, ← Zcq, h3, Yn]
  rw [e3] at h8
  exact h8
 ·exact hp.elim
theorem ZfM (hr : RenOk r l outs) (h : RG r l outs env τ σ) {t : TypeId} {i : TI} (hi : TIok P t i) {x : AV} {vs : List AV} (hp : Zic r n i x (some vs) a K τ) :
  ∃ k g off, ren r x = .ptr k g off ∧ g = (σ.H k).g ∧ (σ.H k).live = true ∧ (Zaq r vs).length = P.cellsOf t ∧ Zaq r vs ≠ [] ∧ off + (Zaq r vs).length ≤ (σ.H k).cells.length ∧ (k.1 = l + 1 ∨ (Zaq r vs).all (AV.low k.1) = true) ∧
   Zjj r l outs env K ⟨σ.s, updH σ.H k { σ.H k with cells := (σ.H k).cells.take off ++ Zaq r vs ++ (σ.H k).cells.drop (off + (Zaq r vs).length) }⟩ := by
 unfold Zic at hp
 split at hp
 case h_2 => exact hp.elim
 rename_i k q off vs' heq
 cases heq
 split at hp
 case h_2 => exact hp.elim
 rename_i hl hv1 hv2
 have hv1 := Ya hv1
 have hv2 := Yc hv2
 obtain ⟨g1, g2, g3, g4, g5⟩ := h.h.at hl
 obtain ⟨q1, q2⟩ := Za9 hl
 have fin : ∀ C' r', StS (τ.H k).cells off vs C' → wrK r k vs (K ⟨τ.s, updH τ.H k ⟨q, true, (τ.H k).e, (τ.H k).sz, C'⟩⟩ r') → _ := fun C' r' hs hK => by
  obtain ⟨s1, s2⟩ := hs
  obtain ⟨hK, hko, hlow⟩ := Zgu hr h (Za9 hl).2 hK
  refine (⟨r.κ k, r.γ k + q, off, by simp [ren], g1, g2, by rw [ZaF, hi.siz, hv1], by intro e; have := congrArg List.length e; rw [ZaF, Y9] at this; omega, by rw [g5, ZaF, ZaF]; exact s1, ?_, _, _, hK, ?_⟩ :
   ∃ k' g off', ren r (.ptr k q off) = .ptr k' g off' ∧ g = (σ.H k').g ∧ (σ.H k').live = true ∧ (Zaq r vs).length = P.cellsOf t ∧ Zaq r vs ≠ [] ∧ off' + (Zaq r vs).length ≤ (σ.H k').cells.length ∧ (k'.1 = l + 1 ∨ (Zaq r vs).all (AV.low k'.1) = true) ∧
   Zjj r l outs env K ⟨σ.s, updH σ.H k' { σ.H k' with cells := (σ.H k').cells.take off' ++ Zaq r vs ++ (σ.H k').cells.drop (off' + (Zaq r vs).length) }⟩)
  ·exact hlow
  ·have h8 := RG.updH hr h k ⟨q, true, (τ.H k).e, (τ.H k).sz, C'⟩ rfl hko
   have e3 : Za1 r k ⟨q, true, (τ.H k).e, (τ.H k).sz, C'⟩ = { σ.H (r.κ k) with cells := (σ.H (r.κ k)).cells.take off ++ Zaq r vs ++ (σ.H (r.κ k)).cells.drop (off + (Zaq r vs).length) } := by
    simp only [Za1, g5, ZaF, ZbB, Zbg, ← Zcq, s2, g1, g3, g4, ← g2]
   rw [e3] at h8
   exact h8
 split at hp
 ·split at hp
  ·rename_i hb; exact fin _ _ ⟨Yc hb, rfl⟩ hp
  ·exact hp.elim
 ·exact fin _ _ hp.1 hp.2
 ·exact hp.elim
theorem ZjK (hr : RenOk r l outs) (hT : TOk P T) (h : RG r l outs env τ σ) (hc : Zck env [] o.op = true) (hf : ZdO env o.dst = true) (hp : ZwN P T l n r o a K τ) : rOp P l n o (KA r l n outs B (ZdP env o.dst) K) σ := by
 obtain ⟨dst, op, ty, ps, af, gd⟩ := o
 have ops : ∀ {op : Op}, Zck env [] op = true → (∀ c x y, op ≠ .pick c x y) → ∀ x ∈ op.operands, ev σ.s x = ren r (ev τ.s x) := fun {op} hc hne => by
  unfold Zck at hc
  split at hc
  ·exact absurd rfl (hne _ _ _)
  ·exact ZcQ h Zal hc
 unfold ZwN at hp
 simp only at hc hf hp ⊢
 split at hp
 ·rename_i t
  split at hp
  case h_2 => exact hp.elim
  rename_i d i hi
  split at hp
  case h_2 => exact hp.elim
  rename_i z zs hz
  have hfl := ZcV (r := r) ((hT _ _ hi).flt _ hz)
  have hn := Zdp (x' := fun g => .ptr (l + 1, d) g 0) hr h hf (fun g => by simp [ren, hr.own]) hp
  rw [hfl] at hn
  simp only [rOp, (hT _ _ hi).zer _ hz]
  exact ⟨by simp, ZfR hn⟩
 ·rename_i t x
  split at hp
  case h_2 => exact hp.elim
  rename_i d z zs hz hnf
  have hx := ops hc (fun _ _ _ e => by cases e) x (by simp [Op.operands])
  have hn := Zdp (x' := fun g => .ptr (l + 1, d) g 0) hr h hf (fun g => by simp [ren, hr.own]) hp
  have hz' := ZcU (r := r) hz (Zfy hnf)
  simp only [rOp, hx, hz']
  refine ⟨ZrT (by simp), ?_⟩
  rw [ZaF]
  exact ZfR hn
 ·rename_i t p x
  split at hp
  case h_2 => exact hp.elim
  rename_i i hi hnf
  have hx := ops hc (fun _ _ _ e => by cases e) x (by simp [Op.operands])
  have hpp := ops hc (fun _ _ _ e => by cases e) p (by simp [Op.operands])
  cases hz : Zbf (ev τ.s x) with
  | none => rw [hz] at hp; unfold Zic at hp; split at hp <;> first | exact hp.elim | (rename_i e; cases e)
  | some vs =>
   rw [hz] at hp
   have hz' := ZcU (r := r) hz (Zfy hnf)
   obtain ⟨k, g, off, e1, e2, e3, e4, e5, e6, e7, e8⟩ := ZfM hr h (hT _ _ hi) hp
   simp only [rOp, hpp, hx, hz', e1]
   exact ⟨e2, e3, e4, e5, e6, e7, .of e8⟩
 ·rename_i t len parts
  split at hp
  case h_2 => exact hp.elim
  rename_i d i hi
  split at hp
  case h_2 => exact hp.elim
  rename_i e sz he
  simp only [rOp, (hT _ _ hi).elm _ he]
  split at hp
  ·rename_i hsz
   have hsz := Yc hsz
   refine ⟨by omega, ?_⟩
   split at hp
   ·rename_i hps
    obtain ⟨h1, h2⟩ := Zfh h hf (y := .e0) ⟨.e0, a, by simp [ren], hp⟩
    exact ⟨by rw [← YQ, hps]; rfl, h1, .of h2⟩
   ·exact hp.elim
  ·rename_i len' hsz
   have hsz := Yc hsz
   refine ⟨by omega, ?_⟩
   split at hp
   case h_2 => exact hp.elim
   rename_i j hj hlim
   split at hp
   case h_2 => exact hp.elim
   rename_i z hz
   split at hp
   case h_2 => exact hp.elim
   rename_i es hzl hlit
   split at hp
   case h_2 => exact hp.elim
   rename_i hes
   have e1 : (parts.toList.map fun p => (p.1, ev σ.s p.2)) = parts.toList.map fun p => (p.1, ev τ.s p.2) := by
    have : (parts.toList.map fun p => (p.1, ev σ.s p.2)) = (parts.toList.map fun p => (p.1, ev τ.s p.2)).map fun p => (p.1, ren r p.2) := by
     rw [Yaf]
     refine YR fun p hp => ?_
     simp only [Function.comp]
     rw [ops hc (fun _ _ _ e => by cases e) p.2 (by simp only [Op.operands, Yam, YB]; exact ⟨p, hp, rfl⟩)]
    rw [this, Zfe hlit]
   rw [e1]
   simp only [(hT _ _ hj).zer _ hz, hlit]
   obtain ⟨h1, h2⟩ := Zfh h hf (y := .d (.list es)) ⟨.d (.list es), a, by simp [ren], hp⟩
   exact ⟨Yc hlim, Ya hzl, Ya hes, h1, .of h2⟩
  ·exact hp.elim
 ·rename_i t x y
  split at hp
  case h_2 => exact hp.elim
  rename_i d i k1 c k2 c' m C b hi hx0 hy0
  have hx := ops hc (fun _ _ _ e => by cases e) x (by simp [Op.operands])
  have hy := ops hc (fun _ _ _ e => by cases e) y (by simp [Op.operands])
  rw [hx0] at hx
  rw [hy0] at hy
  split at hp
  case h_2 => exact hp.elim
  rename_i e sz he
  split at hp
  case h_2 => exact hp.elim
  rename_i j hj hsz
  split at hp
  case h_2 => exact hp.elim
  rename_i z byt hz hbyt
  split at hp
  case h_2 => exact hp.elim
  rename_i hzl
  obtain ⟨⟨m1, m2, m3, m4⟩, hp⟩ := hp
  have hzl := Ya hzl
  have hsz := Yc hsz
  have hb := (hT _ _ hj).byt _ hbyt
  have hfz := (hT _ _ hj).flt _ hz
  have hflC : C.all AV.flat = true := by
   subst m4
   refine Yg.2 fun q hq => ?_
   obtain ⟨z', hz', hq'⟩ := Yav.1 hq
   rw [(YaJ.1 hz').2] at hq'
   exact Yg.1 hfz q hq'
  have hfl := ZcV (r := r) hflC
  have hn := Zdp (x' := fun g => .ref (l + 1, d) g 0 m) hr h hf (fun g => by simp [ren, hr.own]) hp
  rw [hfl] at hn
  simp only [rOp, (hT _ _ hi).elm _ he, hx, hy, ren, (hT _ _ hj).zer _ hz]
  subst m1
  have hbb : (P.bytesOf e : Int) * c' ≤ (byt : Int) * c' := Yay (by omega) (by omega)
  refine ⟨by omega, m2, by omega, hb.2, by omega, hzl, ?_⟩
  simp only [Int.toNat_natCast, m4]
  exact ZfR hn
 ·rename_i c
  split at hp
  ·rename_i hcal
   split at hp
   case h_2 => exact hp.elim
   rename_i d x y t t' ha ht
   split at hp
   case h_2 => exact hp.elim
   rename_i htt
   have htt := Ya htt
   subst htt
   have h2 : c.argTypes = #[t, t] := YS (by simpa using ht)
   have hx := ops hc (fun _ _ _ e => by cases e) x (by simp only [Op.operands, Call.operands, Yal]; exact .inr (by rw [← Yax, ha]; simp))
   have hy := ops hc (fun _ _ _ e => by cases e) y (by simp only [Op.operands, Call.operands, Yal]; exact .inr (by rw [← Yax, ha]; simp))
   simp only [rOp, hcal, ha, ht]
   refine ⟨by rw [h2]; rfl, ?_⟩
   rw [hx, hy]
   exact Zmz hr hT h hf hp
  ·rename_i hna
   split at hp
   case h_2 => exact hp.elim
   rename_i d
   unfold pV at hp
   simp only at hp
   split at hp
   ·rename_i f hcal
    obtain ⟨i, first, caps, x, a', e1, e2, e3⟩ := Zfw h Zal (fun b e => by cases e) hcal hc hp
    simp only [rOp, hcal, e1]
    refine e2.mono fun y H' ⟨h1, h2⟩ => ?_
    subst h1; subst h2
    obtain ⟨h1, h2⟩ := Zfh h hf (y := ren r x) ⟨x, a', rfl, e3⟩
    exact ⟨h1, .of h2⟩
   ·rename_i hnv
    refine Zmi (o := ⟨some d, .call c, ty, ps, af, gd⟩) hT h rfl hc hf hp ?_
    simp only [rOp]
 ·rename_i h1 h2 h3 h4 h5 h6
  split at hp
  case h_2 => exact hp.elim
  rename_i d
  have hp' : tV T τ.H op (ev τ.s) none a (Zko n d K τ) := by
   unfold pV at hp
   split at hp
   ·exact absurd rfl (h6 _)
   ·exact absurd rfl (h4 _ _ _)
   ·exact hp
  refine Zmi (o := ⟨some d, op, ty, ps, af, gd⟩) hT h rfl hc hf hp' ?_
  simp only [rOp]
theorem Zn4 {d : Option Nat} {v y : AV} {H' : Hp} (hf : ZdO env d = true) {τ' : St} (h : RG r l outs env ⟨τ.s, τ'.H⟩ ⟨σ.s, H'⟩) (hy : y = ren r v) (hk : ZEX n K τ.s τ'.H v a d) :
  Zf4 n d (KA r l n outs B (ZdP env d) K) ⟨σ.s, H'⟩ y := by
 cases d with
 | none => exact .of ⟨_, _, hk, h⟩
 | some d =>
  simp only [ZEX] at hk
  split at hk
  ·rename_i hd; exact ⟨Yc hd, .of ⟨_, _, hk, h.put0 hf hy⟩⟩
  ·exact hk.elim
theorem Zg8 (hr : RenOk r l outs) (hT : TOk P T) (h : RG r l outs env τ σ) (hc : Zck env [] o.op = true) (hf : ZdO env o.dst = true) (hp : ZsY P T l n r o a K τ) : AOp P l n B o (KA r l n outs B (ZdP env o.dst) K) σ := by
 have ops : ∀ {op : Op}, Zck env [] op = true → (∀ c x y, op ≠ .pick c x y) → ∀ x ∈ op.operands, ev σ.s x = ren r (ev τ.s x) := fun {op} hc hne => by
  unfold Zck at hc
  split at hc
  ·exact absurd rfl (hne _ _ _)
  ·exact ZcQ h Zal hc
 unfold ZsY at hp
 split at hp
 case h_2 => exact Zdt (ZjK hr hT h hc hf hp)
 rename_i c ho
 split at hp
 ·rename_i hcal
  split at hp
  case h_2 => exact hp.elim
  rename_i x y t t' ha ht
  have ho' : o.op = .call ⟨.builtin .copy, #[x, y], #[t, t']⟩ := by
   rw [ho]
   have e1 : c.args = #[x, y] := YS (by simpa using ha)
   have e2 : c.argTypes = #[t, t'] := YS (by simpa using ht)
   cases c; simp only at hcal e1 e2; subst hcal; subst e1; subst e2; rfl
  rw [ho'] at hc
  have hx := ops hc (fun _ _ _ e => by cases e) x (by simp [Op.operands, Call.operands])
  have hy := ops hc (fun _ _ _ e => by cases e) y (by simp [Op.operands, Call.operands])
  unfold ZCn at hp
  split at hp
  case h_2 => exact hp.elim
  rename_i i i' hi hi'
  split at hp
  case h_2 => exact hp.elim
  rename_i e sz e' sz' he he'
  split at hp
  case h_2 => exact hp.elim
  rename_i j q1 q2 hj hsz hsrc
  split at hp
  case h_2 => exact hp.elim
  rename_i z k q off cn cnt news C' b hz hxv
  split at hp
  case h_2 => exact hp.elim
  rename_i hl hs2
  obtain ⟨h1, h2, h3, h4⟩ := hp
  obtain ⟨h4, hko, hlow⟩ := Zgu hr h (Za9 hl).2 h4
  have q1 := Ya q1
  have q2 := Ya q2
  subst q1; subst q2
  have hs2 := Ya hs2
  have hsz := Yc hsz
  obtain ⟨g1, g2, g3, g4, g5⟩ := h.h.at hl
  obtain ⟨e1, e2⟩ := Zi6 h hsrc h1
  rw [hxv] at hx
  obtain ⟨s1, s2⟩ := h3
  obtain ⟨ss, sH⟩ := σ
  refine Zqs (k := r.κ k) (g := r.γ k + q) (off := off) (cn := cn) (cnt := cnt) (news := Zaq r news) ho' (by rw [hx]; simp [ren]) ((hT _ _ hi).elm _ he) ((hT _ _ hi').elm _ he') (by rw [(hT _ _ hj).zer _ hz]; rfl) (by omega) g1 g2 (by rw [g4, hs2]) (by rw [hy]; exact e1) h2
   (by rw [g5, ZaF, ZaF]; exact s1) hlow ?_
  have h8 := RG.updH hr h k ⟨q, true, (τ.H k).e, (τ.H k).sz, C'⟩ rfl hko
  have e3 : Za1 r k ⟨q, true, (τ.H k).e, (τ.H k).sz, C'⟩ = { sH (r.κ k) with cells := (sH (r.κ k)).cells.take (off * sz) ++ Zaq r news ++ (sH (r.κ k)).cells.drop (off * sz + (Zaq r news).length) } := by
   simp only at g1 g2 g3 g4 g5
   simp only [Za1, g5, ZaF, ZbB, Zbg, ← Zcq, s2, g1, g3, g4, ← g2]
  simp only at e3
  rw [e3] at h8
  refine Zn4 (v := .d (.int .i64 cnt)) (a := b) (τ' := ⟨τ.s, updH τ.H k ⟨q, true, (τ.H k).e, (τ.H k).sz, C'⟩⟩) hf h8 (by simp [ren]) h4
 ·rename_i hcal
  split at hp
  case h_2 => exact hp.elim
  rename_i x t ha ht hd
  have ho' : o.op = .call ⟨.builtin .clear, #[x], #[t]⟩ := by
   rw [ho]
   have e1 : c.args = #[x] := YS (by simpa using ha)
   have e2 : c.argTypes = #[t] := YS (by simpa using ht)
   cases c; simp only at hcal e1 e2; subst hcal; subst e1; subst e2; rfl
  rw [ho'] at hc
  have hx := ops hc (fun _ _ _ e => by cases e) x (by simp [Op.operands, Call.operands])
  unfold ZtW at hp
  split at hp
  case h_2 => exact hp.elim
  rename_i i hi
  split at hp
  case h_2 => exact hp.elim
  rename_i e sz he
  split at hp
  case h_2 => exact hp.elim
  rename_i j hj hsz
  split at hp
  case h_2 => exact hp.elim
  rename_i z k q off cn C' b hz hxv
  split at hp
  case h_2 => exact hp.elim
  rename_i hl hs2 hzl
  obtain ⟨⟨h1, h2⟩, h4⟩ := hp
  obtain ⟨h4, hko, hlow⟩ := Zgu hr h (Za9 hl).2 h4
  have hs2 := Ya hs2
  have hsz := Yc hsz
  have hzl := Ya hzl
  obtain ⟨g1, g2, g3, g4, g5⟩ := h.h.at hl
  have hfz := ZcV (r := r) ((hT _ _ hj).flt _ hz)
  rw [hfz] at hlow
  rw [hxv] at hx
  obtain ⟨ss, sH⟩ := σ
  refine ZnM (k := r.κ k) (g := r.γ k + q) (off := off) (cn := cn) ho' hd (by rw [hx]; simp [ren]) ((hT _ _ hi).elm _ he) ((hT _ _ hj).zer _ hz) hzl (by omega) g1 g2 (by rw [g4, hs2]) (by rw [g5, ZaF]; exact h1) hlow ?_
  have h8 := RG.updH hr h k ⟨q, true, (τ.H k).e, (τ.H k).sz, C'⟩ rfl hko
  have hrep : Zaq r (List.replicate cn z).flatten = (List.replicate cn z).flatten := ZcV (by
   refine Yg.2 fun q hq => ?_
   obtain ⟨z', hz', hq'⟩ := Yav.1 hq
   rw [(YaJ.1 hz').2] at hq'
   exact Yg.1 ((hT _ _ hj).flt _ hz) q hq')
  have e3 : Za1 r k ⟨q, true, (τ.H k).e, (τ.H k).sz, C'⟩ = { sH (r.κ k) with cells := (sH (r.κ k)).cells.take (off * sz) ++ (List.replicate cn z).flatten ++ (sH (r.κ k)).cells.drop ((off + cn) * sz) } := by
   simp only at g1 g2 g3 g4 g5
   rw [← h2]
   simp only [Za1, g5, Zcq, ZbB, Zbg, hrep, g1, g3, g4, ← g2]
  simp only at e3
  rw [e3] at h8
  exact .of ⟨_, _, h4, by rw [hd]; exact h8⟩
 ·exact Zdt (ZjK hr hT h hc hf hp)
theorem ZCS {place : Nat → Option (Nat × Nat)} : ∀ (ps : List (Nat × AV)) (z cs : List AV), (∀ p ∈ ps, Ztb p.2 = true) → ZcO place z ps = some cs → ZcO place (Zaq r z) (ps.map fun p => (p.1, ren r p.2)) = some (Zaq r cs)
 | [], z, cs, _, h => by
  simp only [ZcO, Yd] at h
  subst h
  simp [ZcO]
 | (f, v) :: ps, z, cs, hn, h => by
  simp only [ZcO] at h
  split at h
  ·rename_i off size vs hp hv
   split at h
   ·cases h
   ·rename_i h1
    have hv' := ZcU (r := r) hv (Zfy (hn (f, v) (Yy ..)))
    simp only [YG, ZcO, hp, hv', ZaF]
    rw [if_neg h1]
    have := ZCS ps _ cs (fun p hp => hn p (Ys _ hp)) h
    rw [← this]
    simp only [Zcq, ZbB, Zbg]
  ·cases h
theorem ZAr (hq : ZaU o = true) (hp : Zsv P T l n r o a K τ) : ZsY P T l n r o a K τ := by
 unfold Zsv at hp
 split at hp
 ·rename_i ho; simp [ZaU, ho] at hq
 ·exact hp
theorem Zka (hr : RenOk r l outs) (hT : TOk P T) (h : RG r l outs env τ σ) (hc : Zck env [] o.op = true) (hf : ZdO env o.dst = true) (hp : Zsv P T l n r o a K τ) : AOp P l n B o (KA r l n outs B (ZdP env o.dst) K) σ := by
 unfold Zsv at hp
 split at hp
 case h_2 => exact Zg8 hr hT h hc hf hp
 rename_i t len parts ho
 split at hp
 case h_2 => exact Zg8 hr hT h hc hf hp
 case h_3 => exact Zg8 hr hT h hc hf hp
 rename_i b
 have ops : ∀ x ∈ o.op.operands, ev σ.s x = ren r (ev τ.s x) := by
  unfold Zck at hc
  split at hc
  ·rename_i e; rw [ho] at e; cases e
  ·exact ZcQ h Zal hc
 unfold Zr2 at hp
 split at hp
 case h_2 => exact hp.elim
 rename_i d i hd hi
 split at hp
 case h_2 => exact hp.elim
 rename_i e sz he
 split at hp
 case h_2 => exact hp.elim
 rename_i j hj hsz hlim
 split at hp
 case h_2 => exact hp.elim
 rename_i z hz
 split at hp
 case h_2 => exact hp.elim
 rename_i cs hzl hfill hfl
 split at hp
 case h_2 => exact hp.elim
 rename_i hcs
 have e1 : (parts.toList.map fun p => (p.1, ev σ.s p.2)) = (parts.toList.map fun p => (p.1, ev τ.s p.2)).map fun p => (p.1, ren r p.2) := by
  rw [Yaf]
  refine YR fun p hp => ?_
  rw [ops p.2 (by rw [ho]; simp only [Op.operands, Yam, YB]; exact ⟨p, hp, rfl⟩)]
  rfl
 have hd' : o.dst = some d := hd
 rw [hd'] at hf ⊢
 have hn := Zdp (x' := fun g => .ref (l + 1, d) g 0 (len + 1)) hr h hf (fun g => by simp [ren, hr.own]) hp
 obtain ⟨s, H⟩ := σ
 exact Zee ho hd' ((hT _ _ hi).elm _ he) (by have := Yc hsz; omega) (Yc hlim) ((hT _ _ hj).zer _ hz) (Ya hzl) (by
  rw [e1]
  have := ZCS (r := r) _ _ _ (fun p hp => Yg.1 hfl p hp) hfill
  rw [ZcV (r := r) (z := (List.replicate (len + 1) z).flatten) (Yg.2 fun x hx => by
   obtain ⟨y, hy, hx⟩ := Yav.1 hx
   rw [List.eq_of_mem_replicate hy] at hx
   exact Yg.1 hcs x hx)] at this
  exact this) (ZfR hn)
theorem ZBB (hq : ZaU o = true) (hp : ZpY P T l n r o a K τ) : Zsv P T l n r o a K τ := by
 unfold ZpY at hp
 split at hp
 case h_8 c ho =>
  split at hp
  ·rename_i hc; simp [ZaU, ho, hc] at hq
  ·exact hp
 case h_9 => exact hp
 all_goals rename_i ho
 ·simp [ZaU, ho] at hq
 ·unfold pMs at hp
  split at hp
  ·rename_i hd _ _ _; simp [ZaU, hd] at hq
  ·exact hp.elim
 ·unfold pMs at hp
  split at hp
  ·rename_i hd _ _ _; simp [ZaU, hd] at hq
  ·exact hp.elim
 ·simp [ZaU, ho] at hq
 ·simp [ZaU, ho] at hq
 ·simp [ZaU, ho] at hq
 ·simp [ZaU, ho] at hq
theorem ZrC {q : Bool} {x : AV} {ds : List D} (h : Zyj q x = some ds) : ren r x = x := by
 cases q with
 | true =>
  cases x <;> simp only [Zyj] at h <;> try (cases h; done)
  case agg xs => simp only [ren, Zfv h]
 | false =>
  have h : (Zeb x).map (fun d => [d]) = some ds := by cases x <;> exact h
  obtain ⟨d, h1, _⟩ := YT.1 h
  exact Zf1 h1
theorem ZeT (hr : RenOk r l outs) (h : RG r l outs env τ σ) {K : St → AT → Prop} {d : Nat} (hf : fresh d env = true) {e : EK} {x x' : Nat → AV} (hx : ∀ g, x' (r.γ (1, d) + g) = ren r (x g)) (hn : Zmf n d e x K τ a) :
  ZFu l n d e x' (KA r l n outs B ((d, []) :: env) K) σ := by
 unfold Zmf at hn
 split at hn
 ·rename_i hd
  refine ⟨Yc hd, .of ⟨_, _, hn, ?_⟩⟩
  have h1 := RG.updH hr h (1, d) ⟨(τ.H (1, d)).g + 1, true, e, 0, []⟩ rfl (.inl rfl)
  have h2 := h1.put0 hf (v := x ((τ.H (1, d)).g + 1)) (y := x' ((σ.H (l + 1, d)).g + 1)) (by rw [h.g, Yn]; exact hx _)
  have e1 : Za1 r (1, d) ⟨(τ.H (1, d)).g + 1, true, e, 0, []⟩ = ⟨(σ.H (l + 1, d)).g + 1, true, e, 0, []⟩ := by simp only [Za1, Zaq, h.g, Yn]
  rw [e1, hr.own] at h2
  exact h2
 ·exact hn.elim
theorem Zkj (hr : RenOk r l outs) (hT : TOk P T) (h : RG r l outs env τ σ) (hc : Zck env [] o.op = true) (hf : ZdO env o.dst = true) (hp : ZpY P T l n r o a K τ) : AOp P l n B o (KA r l n outs B (ZdP env o.dst) K) σ := by
 have ops : (∀ c x y, o.op ≠ .pick c x y) → ∀ x ∈ o.op.operands, ev σ.s x = ren r (ev τ.s x) := fun hne => by
  unfold Zck at hc
  split at hc
  ·rename_i e; exact absurd e (hne _ _ _)
  ·exact ZcQ h Zal hc
 have st : ∀ {t x y z} (ho : o.op = .mapUpdate t x y z ∨ o.op = .insert t x y z) (hx : ev σ.s x = ren r (ev τ.s x)) (hy : ev σ.s y = ren r (ev τ.s y)) (hz : ev σ.s z = ren r (ev τ.s z)) (hp : pMs T r o.dst t (ev τ.s x) (ev τ.s y) (ev τ.s z) a K τ), AOp P l n B o (KA r l n outs B (ZdP env o.dst) K) σ := by
  intro t x y z ho hx hy hz hp
  unfold pMs at hp
  split at hp
  case h_2 => exact hp.elim
  rename_i i k g s hd hi hxv hyv
  split at hp
  case h_2 => exact hp.elim
  rename_i q z0 q' es hmp hl he
  split at hp
  case h_2 => exact hp.elim
  rename_i ds es' b _ _ _
  obtain ⟨h1, h2⟩ := hp
  have hv : Zyj q (ev τ.s z) = some ds := by assumption
  have hq : bqB q q' = true := by assumption
  have hq := ZnO hq
  subst hq
  obtain ⟨h2, hko, _⟩ := Zgu hr h (Za9 hl).2 h2
  obtain ⟨g1, g2, g3, g4, g5⟩ := h.h.at hl
  rw [hxv] at hx
  rw [hyv] at hy
  rw [ZrC hv] at hz
  obtain ⟨ss, sH⟩ := σ
  refine Zh7 (sk := s) (k := r.κ k) (g := r.γ k + g) (es := es) ho hd ((hT _ _ hi).mp _ hmp) (by rw [hx]; simp [ren]) g1 g2 (by rw [g3]; exact he) (by rw [hy]; simp [ren]) (by rw [hz]; exact hv) ?_
  have h8 := RG.updH hr h k ⟨g, true, .m q es', (τ.H k).sz, (τ.H k).cells⟩ rfl hko
  have e3 : Za1 r k ⟨g, true, .m q es', (τ.H k).sz, (τ.H k).cells⟩ = { sH (r.κ k) with e := .m q (Zhv s ds es) } := by
   simp only at g1 g2 g3 g4 g5
   rw [show Zhv s ds es = es' from h1]
   simp only [Za1, g1, g4, ← g5, ← g2]
  simp only at e3
  rw [e3] at h8
  rw [hd]
  exact .of ⟨_, _, h2, h8⟩
 unfold ZpY at hp
 split at hp
 case h_9 => exact Zka hr hT h hc hf hp
 case h_8 c ho =>
  split at hp
  case h_2 => exact Zka hr hT h hc hf hp
  rename_i hcal
  split at hp
  case h_2 => exact hp.elim
  rename_i x y t t' ha ht
  have ho' : o.op = .call ⟨.builtin .delete, #[x, y], #[t, t']⟩ := by
   rw [ho]
   have e1 : c.args = #[x, y] := YS (by simpa using ha)
   have e2 : c.argTypes = #[t, t'] := YS (by simpa using ht)
   cases c; simp only at hcal e1 e2; subst hcal; subst e1; subst e2; rfl
  have ops := ops (by rw [ho']; intro _ _ _ e; cases e)
  rw [ho'] at ops
  have hx := ops x (by simp [Op.operands, Call.operands])
  have hy := ops y (by simp [Op.operands, Call.operands])
  unfold pMd at hp
  split at hp
  case h_2 => exact hp.elim
  rename_i i k g s hd hi hxv hyv
  split at hp
  case h_2 => exact hp.elim
  rename_i q z0 q' es hmp hl he
  split at hp
  case h_2 => exact hp.elim
  rename_i es' b _
  obtain ⟨h1, h2⟩ := hp
  have hq : bqB q q' = true := by assumption
  have hq := ZnO hq
  subst hq
  obtain ⟨h2, hko, _⟩ := Zgu hr h (Za9 hl).2 h2
  obtain ⟨g1, g2, g3, g4, g5⟩ := h.h.at hl
  rw [hxv] at hx
  rw [hyv] at hy
  obtain ⟨ss, sH⟩ := σ
  refine Zkn (sk := s) (k := r.κ k) (g := r.γ k + g) (es := es) ho' hd ((hT _ _ hi).mp _ hmp) (by rw [hx]; simp [ren]) g1 g2 (by rw [g3]; exact he) (by rw [hy]; simp [ren]) ?_
  have h8 := RG.updH hr h k ⟨g, true, .m q es', (τ.H k).sz, (τ.H k).cells⟩ rfl hko
  have e3 : Za1 r k ⟨g, true, .m q es', (τ.H k).sz, (τ.H k).cells⟩ = { sH (r.κ k) with e := .m q (Ziy s es) } := by
   simp only at g1 g2 g3 g4 g5
   rw [show Ziy s es = es' from h1]
   simp only [Za1, g1, g4, ← g5, ← g2]
  simp only at e3
  rw [e3] at h8
  rw [hd]
  exact .of ⟨_, _, h2, h8⟩
 ·rename_i t rs ho
  split at hp
  case h_2 => exact hp.elim
  rename_i d i hd hi hres
  split at hp
  case h_2 => exact hp.elim
  rename_i q z hmp
  rw [hd] at hf ⊢
  have hn := ZeT (B := B) (x' := fun g => .mp (l + 1, d) g) hr h hf (fun g => by simp [ren, hr.own]) hp
  obtain ⟨ss, sH⟩ := σ
  obtain ⟨kt, et, hu, _, _, _⟩ := ZfK ((hT _ _ hi).mp _ hmp)
  refine ZiP ho hd ⟨kt, et, hu⟩ (fun x hx => ?_) hn
  subst hx
  have hxx := ops (by rw [ho]; intro _ _ _ e; cases e) x (by rw [ho]; simp [Op.operands])
  simp only [ZJa] at hres
  split at hres
  ·rename_i k n' he; exact ⟨k, n', by rw [hxx, he]; simp [ren]⟩
  ·cases hres
 ·rename_i t x y z ho
  have ops := ops (by rw [ho]; intro _ _ _ e; cases e)
  rw [ho] at ops
  exact st (.inl ho) (ops x (by simp [Op.operands])) (ops y (by simp [Op.operands])) (ops z (by simp [Op.operands])) hp
 ·rename_i t x y z ho
  have ops := ops (by rw [ho]; intro _ _ _ e; cases e)
  rw [ho] at ops
  exact st (.inr ho) (ops x (by simp [Op.operands])) (ops y (by simp [Op.operands])) (ops z (by simp [Op.operands])) hp
 ·rename_i t x ho
  split at hp
  ·rename_i d i q es hd hi hxv
   split at hp
   case h_2 => exact hp.elim
   rename_i z hmp
   rw [hd] at hf ⊢
   have hn := ZeT (B := B) (x' := fun g => .ptr (l + 1, d) g 0) hr h hf (fun g => by simp [ren, hr.own]) hp
   obtain ⟨ss, sH⟩ := σ
   obtain ⟨kt, et, hu, _, _, _⟩ := ZfK ((hT _ _ hi).mp _ hmp)
   have hxx := ops (by rw [ho]; intro _ _ _ e; cases e) x (by rw [ho]; simp [Op.operands])
   exact Zoj ho hd ⟨kt, et, hu⟩ (by rw [hxx, hxv]; simp [ren]) hn
  ·rename_i d i z hd hi hxv
   split at hp
   case h_2 => exact hp.elim
   rename_i hkin
   rw [hd] at hf ⊢
   have hn := ZeT (B := B) (x' := fun g => .ptr (l + 1, d) g 0) hr h hf (fun g => by simp [ren, hr.own]) hp
   obtain ⟨ss, sH⟩ := σ
   have hu := ZdD ((hT _ _ hi).kin.trans (Ya hkin))
   have hxx := ops (by rw [ho]; intro _ _ _ e; cases e) x (by rw [ho]; simp [Op.operands])
   exact ZkD ho hd hu (by rw [hxx, hxv]; simp [ren]) hn
  ·exact hp.elim
 ·rename_i x ho
  split at hp
  case h_2 => exact hp.elim
  rename_i d k g hd hxv
  split at hp
  case h_2 => exact hp.elim
  rename_i q rest cur hk1 hl he
  have hxx := ops (by rw [ho]; intro _ _ _ e; cases e) x (by rw [ho]; simp [Op.operands])
  rw [hxv] at hxx
  obtain ⟨g1, g2, g3, g4, g5⟩ := h.h.at hl
  rw [hd] at hf ⊢
  unfold pNx at hp
  split at hp
  case h_2 => exact hp.elim
  rename_i a0 f hdn
  obtain ⟨hp0, hp1⟩ := hp
  obtain ⟨ss, sH⟩ := σ
  refine ZqM (k := r.κ k) (g := r.γ k + g) (rest := rest) (cur := cur) ho hd (by rw [hxx]; simp [ren]) g1 g2 (by rw [g3]; exact he) (Yc hdn) (fun h0 => .of ⟨_, _, hp0 h0, h.put0 hf (by simp [ren, Zaq])⟩) (fun i e hi => ?_)
  have hlt := (Yo.1 hi).1
  have hpi := hp1 i hlt
  split at hpi
  case h_2 => exact hpi.elim
  rename_i s ds es b hfi
  obtain ⟨⟨k1, k2⟩, k3⟩ := hpi
  rw [hi] at k1
  cases k1
  have h8 := RG.updH hr h k ⟨g, true, .i q es (some (.str s :: ds)), (τ.H k).sz, (τ.H k).cells⟩ rfl (.inl (Ya hk1))
  have e3 : Za1 r k ⟨g, true, .i q es (some (.str s :: ds)), (τ.H k).sz, (τ.H k).cells⟩ = { sH (r.κ k) with e := .i q (rest.eraseIdx i) (some (.str s :: ds)) } := by
   simp only at g1 g2 g3 g4 g5
   rw [k2]
   simp only [Za1, g1, g4, ← g5, ← g2]
  simp only at e3
  rw [e3] at h8
  exact .of ⟨_, _, k3, h8.put0 hf (by simp only [nxV, ren, Zaq, Zg6])⟩
 ·rename_i x ho
  split at hp
  case h_2 => exact hp.elim
  rename_i d k g hd hxv
  split at hp
  case h_2 => exact hp.elim
  rename_i z p hk1 hl he
  have hxx := ops (by rw [ho]; intro _ _ _ e; cases e) x (by rw [ho]; simp [Op.operands])
  rw [hxv] at hxx
  obtain ⟨g1, g2, g3, g4, g5⟩ := h.h.at hl
  rw [hd] at hf ⊢
  unfold pNs at hp
  split at hp
  case h_2 => exact hp.elim
  rename_i a1 a0 hdn
  obtain ⟨hp1, hp0⟩ := hp
  obtain ⟨ss, sH⟩ := σ
  refine ZmZ (k := r.κ k) (g := r.γ k + g) (z := z) (p := p) ho hd (by rw [hxx]; simp [ren]) g1 g2 (by rw [g3]; exact he) (Yc hdn) (fun h0 => .of ⟨_, _, hp0 (decide_eq_false h0), h.put0 hf (by simp [ren, Zaq])⟩) (fun h1 => ?_)
  have h8 := RG.updH hr h k ⟨g, true, .s z (p + dcW z p), (τ.H k).sz, (τ.H k).cells⟩ rfl (.inl (Ya hk1))
  have e3 : Za1 r k ⟨g, true, .s z (p + dcW z p), (τ.H k).sz, (τ.H k).cells⟩ = { sH (r.κ k) with e := .s z (p + dcW z p) } := by
   simp only at g1 g2 g3 g4 g5
   simp only [Za1, g1, g4, ← g5, ← g2]
  simp only at e3
  rw [e3] at h8
  exact .of ⟨_, _, hp1 (decide_eq_true h1), h8.put0 hf (by simp only [ren, Zaq])⟩
 ·rename_i x ho
  split at hp
  case h_2 => exact hp.elim
  rename_i d k g hd hxv
  split at hp
  case h_2 => exact hp.elim
  rename_i q rest s ds hk1 hl he hdn
  have hxx := ops (by rw [ho]; intro _ _ _ e; cases e) x (by rw [ho]; simp [Op.operands])
  rw [hxv] at hxx
  obtain ⟨g1, g2, g3, g4, g5⟩ := h.h.at hl
  rw [hd] at hf ⊢
  obtain ⟨ss, sH⟩ := σ
  refine Zmj (k := r.κ k) (g := r.γ k + g) (rest := rest) ho hd (by rw [hxx]; simp [ren]) g1 g2 (by rw [g3]; exact he) (Yc hdn) ?_
  have h8 := RG.updH hr h k ⟨g, true, .i q rest none, (τ.H k).sz, (τ.H k).cells⟩ rfl (.inl (Ya hk1))
  have e3 : Za1 r k ⟨g, true, .i q rest none, (τ.H k).sz, (τ.H k).cells⟩ = { sH (r.κ k) with e := .i q rest none } := by
   simp only at g1 g2 g3 g4 g5
   simp only [Za1, g1, g4, ← g5, ← g2]
  simp only at e3
  rw [e3] at h8
  exact .of ⟨_, _, hp, h8.put0 hf (by simp only [ren, Zaq, Zg6])⟩
end
end Go.Eng
namespace Go.Eng
set_option linter.all false
open Go Go.RowKit
section
variable {P : Program} {T : Nat → Option TI} {r : Ren} {l n outs : Nat} {B : Base} {env : Env} {τ σ : St} {a : AT} {o : Oper}
theorem ZzG {H : Hp} {op : Op} {ρ : Operand → AV} {g : Option Bool} {K : AV → AT → Prop} (h : tV T H op ρ g a K) : ∃ v a', K v a' := by
 have fin : ∀ {v a'}, K v a' → ∃ v a', K v a' := fun h => ⟨_, _, h⟩
 cases op <;> simp only [tV] at h <;> try exact h.elim
 case move x => exact fin h
 case assign x => exact fin h
 case pick c x y => split at h <;> first | exact fin h | exact h.elim
 case load t x =>
  split at h
  ·unfold Zld at h
   repeat' split at h
   all_goals first | exact h.elim | exact fin h | exact fin h.2
  ·grind
 case fieldAddr t x f =>
  split at h
  ·unfold Zd7 at h
   grind
  ·grind
 case field t x f =>
  split at h
  ·unfold Zj5 at h
   grind
  ·grind
 case indexAddr t x j =>
  split at h
  ·unfold Zd1 at h
   grind
  ·grind
 case index t x j =>
  split at h
  ·unfold Zkc at h
   grind
  ·grind
 case extract x j =>
  repeat' split at h
  all_goals first | exact h.elim | exact fin h
 case makeInterface t x =>
  repeat' split at h
  all_goals first | exact h.elim | exact fin h
 case typeAssert x u t ok =>
  repeat' split at h
  all_goals first | exact h.elim | exact fin h
 case binOp o t x y u =>
  split at h
  ·unfold ZEZ at h
   split at h
   ·split at h
    ·unfold ZFs at h
     grind
    grind
   ·unfold ZFr at h
    grind
   ·grind
   ·grind
   ·split at h
    ·have nl : ∀ {neg : Bool} {x : AV}, Zzh H neg x a K → ∃ v a', K v a' := fun {neg x} h => by
      unfold Zzh at h
      repeat' split at h
      all_goals first | exact h.elim | exact fin (h true) | exact fin (h neg (fun _ => rfl))
     grind
    grind
   grind
  ·grind
 case unOp o t x =>
  unfold tUn at h
  repeat' split at h
  all_goals first | exact h.elim | exact fin h | exact fin h.2
 case nilCheck x =>
  split at h
  ·grind
  ·grind
  ·grind
 case convert s d x =>
  split at h
  ·unfold Zqb at h
   grind
  ·grind
 case makeFunc fn first caps => split at h <;> first | exact h.elim | exact fin h
 case slice t x lo hi mx =>
  split at h
  ·unfold ZjE at h
   grind
  ·grind
 case build t parts =>
  split at h
  ·unfold ZjM at h
   grind
  ·grind
 case lookup t x y ck =>
  split at h
  ·unfold ZrA at h
   grind
  ·grind
 case call c =>
  split at h
  ·split at h
   ·unfold ZE2 at h
    grind
   grind
  ·unfold vMM at h
   grind
  ·unfold vMM at h
   grind
  ·unfold ZpF at h
   grind
  ·grind
theorem ZxP {op : Op} {g : Option Bool} {K : AV → AT → Prop} (h : pV P T l r τ op g a K) : ∃ v a', K v a' := by
 unfold pV at h
 split at h
 ·split at h
  ·unfold Zqu at h
   grind
  ·exact ZzG h
 ·unfold bsV at h
  repeat' split at h
  all_goals first | exact h.elim | exact ⟨_, _, h⟩
 ·exact ZzG h
def Yl (r : Ren) (e : Nat) (K : AV → AT → Prop) (σ σ' : St) : Prop := ∃ v a', σ' = ⟨upd σ.s e (ren r v), σ.H⟩ ∧ K v a'
theorem Zs2 (hT : TOk P T) (h : RG r l outs env τ σ) {c : Zdc} (hs : ZgD τ.s c) {g : Option Bool} (hg : ∀ b, g = some b → b = true) {e : Nat} {op : Op} {ty : TypeId} {ps : String} {af : Array Edge} {gd : Option (Nat × Bool)}
  (hx : Zck env c op = true) (hen : e < n) {K : AV → AT → Prop} (hp : pV P T l r τ op g a K) : rOp P l n ⟨some e, op, ty, ps, af, gd⟩ (Yl r e K σ) σ := by
 have val : tV T τ.H op (ev τ.s) g a K → rOp P l n ⟨some e, op, ty, ps, af, gd⟩ (Yl r e K σ) σ = vOp P σ.H op (ev σ.s) (Zf4 n (some e) (Yl r e K σ) σ) → rOp P l n ⟨some e, op, ty, ps, af, gd⟩ (Yl r e K σ) σ := fun h1 h2 => by
  rw [h2]
  exact Zg9 (fun y ⟨v, a', e1, e2⟩ => ⟨hen, v, a', by rw [e1], e2⟩) (Zsy hT h hs hg hx h1)
 unfold pV at hp
 split at hp
 ·rename_i c
  split at hp
  ·rename_i f hcal
   obtain ⟨i, first, caps, x, a', e1, e2, e3⟩ := Zfw h hs hg hcal hx hp
   simp only [rOp, hcal, e1]
   exact e2.mono fun y H' ⟨h1, h2⟩ => by subst h1; subst h2; exact ⟨hen, x, a', rfl, e3⟩
  ·rename_i hnv
   refine val hp ?_
   cases hcal : c.callee with
   | value f => exact absurd hcal (hnv f)
   | invoke x m => simp only [tV, hcal] at hp
   | builtin b =>
    cases b <;> simp only [tV, hcal] at hp <;> simp only [rOp, hcal]
 ·rename_i t len parts
  have hx' : (Op.buildSlice t len parts).operands.toList.all (chk env c) = true := hx
  have e1 : (parts.toList.map fun p => (p.1, ev σ.s p.2)) = (parts.toList.map fun p => (p.1, ev τ.s p.2)).map fun p => (p.1, ren r p.2) := by
   rw [Yaf]
   refine YR fun p hp => ?_
   simp only [Function.comp]
   rw [ZcQ h hs hx' p.2 (by simp only [Op.operands, Yam, YB]; exact ⟨p, hp, rfl⟩)]
  unfold bsV at hp
  split at hp
  case h_2 => exact hp.elim
  rename_i i hi
  split at hp
  case h_2 => exact hp.elim
  rename_i e' sz he
  simp only [rOp, (hT _ _ hi).elm _ he]
  split at hp
  ·rename_i hsz
   have hsz := Yc hsz
   refine ⟨by omega, ?_⟩
   split at hp
   ·rename_i hps
    exact ⟨by rw [← YQ, hps]; rfl, hen, .e0, a, by simp [ren], hp⟩
   grind
  ·rename_i len' hsz
   have hsz := Yc hsz
   refine ⟨by omega, ?_⟩
   split at hp
   case h_2 => exact hp.elim
   rename_i j hj hlim
   split at hp
   case h_2 => exact hp.elim
   rename_i z hz
   split at hp
   case h_2 => exact hp.elim
   rename_i es hzl hlit
   split at hp
   case h_2 => exact hp.elim
   rename_i hes
   rw [Zfe hlit] at e1
   rw [e1]
   simp only [(hT _ _ hj).zer _ hz, hlit]
   exact ⟨Yc hlim, Ya hzl, Ya hes, hen, .d (.list es), a, by simp [ren], hp⟩
  grind
 ·rename_i h5 h6
  refine val hp ?_
  cases op <;> simp only [tV] at hp <;> try exact hp.elim
  case call c => exact absurd rfl (h5 c)
  all_goals simp only [rOp]
theorem ZsD (hT : TOk P T) (h : RG r l outs env τ σ) {c : Zdc} (hs : ZgD τ.s c) {g : Option Bool} (hg : ∀ b, g = some b → b = true) {e : Nat} {op : Op} {ty : TypeId} {ps : String} {af : Array Edge} {gd : Option (Nat × Bool)}
  (hx : Zck env c op = true) (hen : e < n) {K : AV → AT → Prop} (hp : pV P T l r τ op g a K) : Zli P l n ⟨some e, op, ty, ps, af, gd⟩ (Yl r e K σ) σ := by
 have hr := Zs2 (ty := ty) (ps := ps) (af := af) (gd := gd) hT h hs hg hx hen hp
 unfold pV at hp
 split at hp
 ·rename_i c
  split at hp
  ·rename_i f hcal
   obtain ⟨i, first, caps, x, a', e1, e2, e3⟩ := Zfw h hs hg hcal hx hp
   simp only [Zli, hcal, e1]
   exact ⟨ren r x, e2, hen, x, a', rfl, e3⟩
  ·rename_i hnv
   cases hcal : c.callee with
   | value f => exact absurd hcal (hnv f)
   | _ => simp only [Zli, hcal]; exact hr
 ·rename_i t len parts
  cases len with
  | zero => exact hr
  | succ len =>
   have hx' : (Op.buildSlice t (len + 1) parts).operands.toList.all (chk env c) = true := hx
   have e1 : (parts.toList.map fun p => (p.1, ev σ.s p.2)) = (parts.toList.map fun p => (p.1, ev τ.s p.2)).map fun p => (p.1, ren r p.2) := by
    rw [Yaf]
    refine YR fun p hp => ?_
    simp only [Function.comp]
    rw [ZcQ h hs hx' p.2 (by simp only [Op.operands, Yam, YB]; exact ⟨p, hp, rfl⟩)]
   unfold bsV at hp
   split at hp
   case h_2 => exact hp.elim
   rename_i i hi
   split at hp
   case h_2 => exact hp.elim
   rename_i e' sz he
   split at hp
   ·rename_i hn0; cases hn0
   ·rename_i len' hsz hn0
    cases hn0
    have hsz := Yc hsz
    split at hp
    case h_2 => exact hp.elim
    rename_i j hj hlim
    split at hp
    case h_2 => exact hp.elim
    rename_i z hz
    split at hp
    case h_2 => exact hp.elim
    rename_i es hzl hlit
    split at hp
    case h_2 => exact hp.elim
    rename_i hes
    rw [Zfe hlit] at e1
    exact ⟨.d (.list es), ⟨e', sz, z, es, (hT _ _ hi).elm _ he, by omega, Yc hlim, (hT _ _ hj).zer _ hz, Ya hzl, by rw [e1]; exact hlit, Ya hes, rfl⟩, hen, .d (.list es), a, by simp [ren], hp⟩
   ·exact hp.elim
 ·rename_i h5 h6
  cases op <;> first | exact absurd rfl (h5 _) | exact absurd rfl (h6 _ _ _) | exact hr
theorem ZeI {d : Nat} {e : TypeId} {sz : Nat} {cells : List AV} {x : Nat → AV} {K K' : St → Prop} (hk : ∀ σ, K σ → K' σ) (h : ZiF l n d e sz cells x K σ) : ZiF l n d e sz cells x K' σ := ⟨h.1, hk _ h.2⟩
theorem ZnB {o : Oper} {K K' : St → Prop} (hk : ∀ σ, K σ → K' σ) (h : rOp P l n o K σ) : rOp P l n o K' σ := by
 have pk : ∀ x, Zf4 n o.dst K σ x → Zf4 n o.dst K' σ x := fun x h => by
  unfold Zf4 at h ⊢
  grind
 unfold rOp at h ⊢
 split at h
 ·split at h
  ·exact ⟨h.1, ZeI hk h.2⟩
  grind
 ·split at h
  ·exact ⟨h.1, ZeI hk h.2⟩
  grind
 ·grind
 ·split at h
  ·refine ⟨h.1, ?_⟩
   replace h := h.2
   split at h
   ·grind
   ·refine ⟨h.1, ?_⟩
    replace h := h.2
    split at h
    ·refine ⟨h.1, ?_⟩
     replace h := h.2
     split at h
     ·grind
     ·split at h
      ·exact ZeI hk h
      grind
    grind
  grind
 ·split at h
  ·obtain ⟨h1, h2, h3, h4, h5, h⟩ := h
   refine ⟨h1, h2, h3, h4, h5, ?_⟩
   split at h
   ·exact ⟨h.1, ZeI hk h.2⟩
   grind
  grind
 ·split at h
  ·split at h
   ·exact h.mono fun r H' hp => by
     unfold ZBT at hp ⊢
     unfold Zf4 at hp ⊢
     grind
   grind
  ·split at h
   ·refine ⟨h.1, ?_⟩
    replace h := h.2
    unfold Zzn at h ⊢
    split at h
    ·obtain ⟨h1, h2, h3, h⟩ := h
     refine ⟨h1, h2, h3, ?_⟩
     split at h
     ·refine ⟨h.1, ?_⟩
      replace h := h.2
      split at h
      ·exact ⟨h.1, fun e => ⟨(h.2.1 e).1, hk _ (h.2.1 e).2⟩, fun e => ZeI hk (h.2.2 e)⟩
      ·grind
      grind
     grind
    grind
   grind
  ·exact Zg9 pk h
 ·exact Zg9 pk h
theorem Zfm {o : Oper} {K K' : St → Prop} (hk : ∀ σ, K σ → K' σ) (h : Zli P l n o K σ) : Zli P l n o K' σ := by
 have pk : ∀ {x}, Zf4 n o.dst K σ x → Zf4 n o.dst K' σ x := fun {x} h => by
  unfold Zf4 at h ⊢
  grind
 unfold Zli at h ⊢
 split at h
 ·obtain ⟨v, h1, h2⟩ := h; exact ⟨v, h1, pk h2⟩
 ·split at h
  ·grind
  ·exact ZnB hk h
 ·exact ZnB hk h
theorem Zij (h : RG r l outs env τ σ) {ds : List (Option Nat)} {i d : Nat} {b g : Bool} (hd : nth ds i = some (some d)) (hg : Zeg τ.s ((d, b) :: lk env d) = some g) : grd σ.s ds i b = some g := by
 rw [ZbC] at hd
 have hc := ZcH hg
 unfold grd
 simp only [hd]
 by_cases hs : ZgD τ.s (lk env d)
 ·have e1 := (h.s d).1 hs
  have hb : ∃ t, τ.s d = .d (.bool t) := by
   cases hl : lk env d with
   | nil =>
    rw [hl] at hg
    simp only [Zeg] at hg
    grind
   | cons q q' =>
    rw [hl] at hg
    simp only [Zeg] at hg
    grind
  obtain ⟨t, ht⟩ := hb
  rw [e1, ht]
  simp only [ren, Yd]
  cases g with
  | true =>
   have := hc.1 rfl (d, b) (Yy ..)
   grind
  | false =>
   cases htb : t == b with
   | false => rfl
   | true =>
    exfalso
    have htb : t = b := by simpa using htb
    have : ZgD τ.s ((d, b) :: lk env d) := fun q hq => by
     rcases Yv.1 hq with rfl | hq
     ·grind
     ·exact hs q hq
    grind
 ·rw [(h.s d).2 hs]
  simp only [Yd]
  cases g with
  | false => rfl
  | true => exact absurd (fun q hq => hc.1 rfl q (Ys _ hq)) hs
theorem Zdm (hr : RenOk r l outs) (hT : TOk P T) {ops : Array Oper} {K : St → Env → AT → Prop} {QQ : Exit → Act → World → Prop} (more : List Oper)
  (hK : ∀ τ' env' a' σ' act' w', K τ' env' a' → RG r l outs env' τ' σ' → R l n B σ' act' w' → wpList P ops QQ more act' w') :
  ∀ (rest : List Oper) (env : Env) (a : AT) (τ σ : St) (act : Act) (w : World), ZpH P T l n r (ops.toList.map (·.dst)) rest env a K τ → RG r l outs env τ σ → R l n B σ act w → wpList P ops QQ (rest ++ more) act w
 | [], env, a, τ, σ, act, w, h, hG, hR => hK _ _ _ _ _ _ h hG hR
 | o :: rest, env, a, τ, σ, act, w, h, hG, hR => by
  unfold ZpH at h
  split at h
  ·rename_i hg
   split at h
   ·rename_i hc hf
    refine ZdE (by simp [Region.wanted, hg]) (Zkj (B := B) hr hT hG hc hf h) hR fun σ' act' w' hKA hR' => ?_
    obtain ⟨σ'', ⟨τ', a', h1, h2⟩, h3⟩ := hKA
    exact Zdm hr hT more hK rest _ _ _ _ _ _ h1 h2 (h3 _ _ hR')
   grind
  ·rename_i i b hg
   split at h
   case h_2 => exact h.elim
   rename_i d e hd he
   split at h
   case h_2 => exact h.elim
   rename_i g hch hx hfr hen
   simp only [Bool.and_eq_true] at hfr
   have hen := Yc hen
   have hgr := Zij hG hd hch
   have hy : (yielded ops act.tmps i == some b) = g := by
    obtain ⟨s, H⟩ := σ
    obtain ⟨m, S, hO, hn, hdf, hS, hex⟩ := hR.un
    exact Zh6 hS hgr
   cases g with
   | true =>
    have hs := (ZcH hch).1 rfl
    refine ZdE (by simp only [Region.wanted, hg]; exact hy) (σ := σ) (B := B) (l := l) (n := n) (KK := Yl r e (fun v a' => ZpH P T l n r (ops.toList.map (·.dst)) rest ((e, (d, b) :: lk env d) :: env) a' K ⟨upd τ.s e v, τ.H⟩) σ) (Zdt ?_) hR fun σ' act' w' hY hR' => ?_
    ·obtain ⟨dst, op, ty, ps, af, gd⟩ := o
     simp only at he
     subst he
     exact Zs2 hT hG hs (fun b' e' => by cases e'; rfl) hx (by omega) h
    ·obtain ⟨v, a', rfl, h1⟩ := hY
     exact Zdm hr hT more hK rest _ _ _ _ _ _ h1 (hG.put hfr.1 hfr.2 (fun _ => rfl) (fun hn => absurd hs hn)) hR'
   | false =>
    have hs : ¬ ZgD τ.s ((d, b) :: lk env d) := fun hs => by have := (ZcH hch).2 hs; cases this
    obtain ⟨v, a', h1⟩ := ZxP h
    show wpList P ops QQ (o :: (rest ++ more)) act w
    unfold wpList
    rw [if_neg (by simp only [Region.wanted, hg, hy]; decide), he]
    exact Zdm hr hT more hK rest _ _ _ _ _ _ h1 (hG.put hfr.1 hfr.2 (y := .tup []) (fun h => absurd h hs) (fun _ => rfl)) (R.undef hR (by omega))
theorem Zd6 (hr : RenOk r l outs) (hT : TOk P T) {ds : List (Option Nat)} {K : St → Env → AT → Prop} :
  ∀ (rest : List Oper) (env : Env) (a : AT) (τ σ : St), rest.all (fun o => Zca o || stB o) = true → Zge P T l n r ds rest env a K τ → RG r l outs env τ σ → Ziu P l n ds rest (fun σ' => ∃ τ' env' a', K τ' env' a' ∧ RG r l outs env' τ' σ') σ
 | [], env, a, τ, σ, _, h, hG => ⟨_, _, _, h, hG⟩
 | o :: rest, env, a, τ, σ, hq, h, hG => by
  simp only [Yab, Bool.and_eq_true] at hq
  unfold Zge at h
  unfold Ziu
  split at h
  ·rename_i hg
   simp only [hg]
   split at h
   case h_2 => exact h.elim
   rename_i hc hf
   by_cases hst : stB o = true
   ·obtain ⟨dst, op, ty, ps, af, gd⟩ := o
    cases op <;> simp only [stB] at hst <;> first | (cases hst; done) | skip
    rename_i t p x
    cases dst with
    | some d => cases hst
    | none =>
     unfold ZGt at h
     simp only at h
     unfold ZpY Zsv ZsY ZwN at h
     simp only at h hc
     split at h
     case h_2 => exact h.elim
     rename_i i hi hnf
     have hops : ∀ y ∈ (Op.store t p x).operands, ev σ.s y = ren r (ev τ.s y) := by
      unfold Zck at hc
      exact ZcQ hG Zal hc
     have hx := hops x (by simp [Op.operands])
     have hpp := hops p (by simp [Op.operands])
     cases hz : Zbf (ev τ.s x) with
     | none => rw [hz] at h; unfold Zic at h; split at h <;> first | exact h.elim | (rename_i e; cases e)
     | some vs =>
      rw [hz] at h
      have hz' := ZcU (r := r) hz (Zfy hnf)
      obtain ⟨k, g, off, e1, e2, e3, e4, e5, e6, e7, e8⟩ := ZfM hr hG (hT _ _ hi) h
      obtain ⟨τ', a', h1, h2⟩ := e8
      simp only [Zli, rOp, hpp, hx, hz', e1]
      exact ⟨e2, e3, e4, e5, e6, e7, Zd6 hr hT rest _ _ _ _ hq.2 h1 h2⟩
   have hq0 : Zca o = true := by
    grind
   replace hq : Zca o = true ∧ _ := ⟨hq0, hq.2⟩
   obtain ⟨dst, op, ty, ps, af, gd⟩ := o
   have hd : ∃ d, dst = some d := by
    have := hq.1
    unfold Zca ZaU at this
    rw [Bool.or_eq_true, Bool.and_eq_true, Bool.and_eq_true] at this
    rcases this with h | h
    ·exact YH.1 h.1
    ·exact YH.1 h.1
   obtain ⟨d, rfl⟩ := hd
   simp only at hc hf hg
   have hp : pV P T l r τ op none a (Zko n d (fun τ' a' => Zge P T l n r ds rest (ZdP env (some d)) a' K τ') τ) := by
    by_cases hbs : ∃ t len p, op = .buildSlice t (len + 1) p
    ·obtain ⟨t, len, p, rfl⟩ := hbs
     exact h
    ·have hq1 : ZaU ⟨some d, op, ty, ps, af, gd⟩ = true := Zho hq.1 fun t len p e => hbs ⟨t, len, p, e⟩
     have h : ZpY P T l n r ⟨some d, op, ty, ps, af, gd⟩ a (fun τ' a' => Zge P T l n r ds rest (ZdP env (some d)) a' K τ') τ := by
      unfold ZGt at h
      split at h
      ·rename_i e1 _; exact absurd ⟨_, _, _, e1⟩ hbs
      ·exact h
     have h := ZAr hq1 (ZBB hq1 h)
     unfold ZsY at h
     simp only at h
     have h : ZwN P T l n r ⟨some d, op, ty, ps, af, none⟩ a (fun τ' a' => Zge P T l n r ds rest (ZdP env (some d)) a' K τ') τ := by
      subst hg
      split at h
      ·split at h
       ·rename_i hcal; simp [ZaU, hcal] at hq1
       ·grind
       ·exact h
      ·exact h
     unfold ZwN at h
     simp only at h
     split at h
     ·simp [ZaU] at hq1
     ·simp [ZaU] at hq1
     ·grind
     ·simp [ZaU] at hq1
     ·simp [ZaU] at hq1
     ·split at h
      ·rename_i hcal; simp [ZaU, hcal] at hq1
      ·exact h
     ·exact h
   have hex : ∃ v a', Zko n d (fun τ' a' => Zge P T l n r ds rest (ZdP env (some d)) a' K τ') τ v a' := ZxP hp
   have hdn : d < n := by
    obtain ⟨v, a', h1⟩ := hex
    unfold Zko at h1
    split at h1
    ·rename_i hd; have hd := Yc hd; exact hd
    grind
   have := ZsD (ty := ty) (ps := ps) (af := af) (gd := gd) hT hG Zal (fun b e => by cases e) hc hdn hp
   refine Zfm (fun σ' hY => ?_) this
   obtain ⟨v, a', rfl, h1⟩ := hY
   unfold Zko at h1
   split at h1
   ·exact Zd6 hr hT rest _ _ _ _ hq.2 h1 (hG.put0 hf rfl)
   grind
  ·rename_i i b hg
   have hq0 : Zca o = true := by
    have := hq.1
    rw [Bool.or_eq_true] at this
    rcases this with h | h
    ·exact h
    ·exfalso
     obtain ⟨dst, op, ty, ps, af, gd⟩ := o
     simp only at hg
     subst hg
     cases op <;> cases dst <;> simp [stB] at h
   simp only [hg]
   split at h
   case h_2 => exact h.elim
   rename_i d e hd he
   split at h
   case h_2 => exact h.elim
   rename_i g hch hx hfr hen
   simp only [Bool.and_eq_true] at hfr
   have hen := Yc hen
   rw [Zij hG hd hch]
   refine ⟨fun hgt => ?_, fun hgf => ?_⟩
   ·subst hgt
    have hs := (ZcH hch).1 rfl
    obtain ⟨dst, op, ty, ps, af, gd⟩ := o
    simp only at he
    subst he
    refine Zfm (fun σ' hY => ?_) (ZsD (ty := ty) (ps := ps) (af := af) (gd := gd) hT hG hs (fun b' e' => by cases e'; rfl) hx (by omega) h)
    obtain ⟨v, a', rfl, h1⟩ := hY
    exact Zd6 hr hT rest _ _ _ _ hq.2 h1 (hG.put hfr.1 hfr.2 (fun _ => rfl) (fun hn => absurd hs hn))
   ·subst hgf
    have hs : ¬ ZgD τ.s ((d, b) :: lk env d) := fun hs => by have := (ZcH hch).2 hs; cases this
    obtain ⟨v, a', h1⟩ := ZxP h
    rw [he]
    exact ⟨hen, Zd6 hr hT rest _ _ _ _ hq.2 h1 (hG.put hfr.1 hfr.2 (y := .tup []) (fun h => absurd h hs) (fun _ => rfl))⟩
end
end Go.Eng
