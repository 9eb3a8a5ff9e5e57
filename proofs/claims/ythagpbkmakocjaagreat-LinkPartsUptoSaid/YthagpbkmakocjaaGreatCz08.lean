import Derived.Test.YthagpbkmakocjaaGreatCz07
import Derived.Test.YthagpbkmakocjaaGreatCz04
import Derived.Test.YthagpbkmakocjaaGreatCz00
namespace Go.Eng
set_option linter.all false
open Go Go.RowKit
def KA (r : Ren) (l n outs : Nat) (B : Base) (env : Env) (K : St → AT → Prop) (σ : St) : Prop := ∃ σ', ZmI r l outs env K σ' ∧ ∀ act w, R l n B σ act w → R l n B σ' act w
section
variable {P : Program} {T : Nat → Option TI} {r : Ren} {l n outs : Nat} {B : Base} {env : Env} {τ σ : St} {a : AT} {o : Oper} {K : St → AT → Prop}
theorem KA.of (h : ZmI r l outs env K σ) : KA r l n outs B env K σ := ⟨σ, h, fun _ _ h => h⟩
theorem ZgR {d : Nat} {e : TypeId} {sz : Nat} {cells : List AV} {x : Nat → AV} (h : Zmj l n d e sz cells x (ZmI r l outs env K) σ) : Zmj l n d e sz cells x (KA r l n outs B env K) σ := ⟨h.1, .of h.2⟩
theorem Zry (hT : TOk P T) (h : RG r l outs env τ σ) {d : Nat} (hd : o.dst = some d) (hc : Zdd env [] o.op = true) (hf : fresh d env = true) (hp : tV T τ.H o.op (ev τ.s) none a (Zqd n d K τ))
  (hro : rOp P l n o (KA r l n outs B ((d, []) :: env) K) σ = vOp P σ.H o.op (ev σ.s) (ZhD n o.dst (KA r l n outs B ((d, []) :: env) K) σ)) : rOp P l n o (KA r l n outs B ((d, []) :: env) K) σ := by
 rw [hro, hd]
 refine ZiO (fun y hy => ?_) (Zzw hT h Zak (fun b e => by cases e) hc hp)
 obtain ⟨h1, h2⟩ := ZgK h hf hy
 exact ⟨h1, .of h2⟩
theorem Zg3 {x : AV} {d : D} (h : Ze4 x = some d) : ren r x = x := by
 cases x <;> simp only [Ze4] at h <;> first | (simp [ren]; done) | cases h
theorem Zhy : ∀ {xs : List AV} {ds : List D}, ZdL xs = some ds → Zao r xs = xs
 | [], _, _ => by simp [Zao]
 | x :: xs, ds, h => by
  simp only [ZdL] at h
  split at h
  ·rename_i d ds' h1 h2
   rw [Zao, Zg3 h1, Zhy h2]
  ·cases h
theorem ZA7 {x : AV} {e : List D} (h : elD x = some e) : ren r x = x := by
 cases x with
 | agg xs => simp only [elD] at h; rw [ren, Zhy h]
 | _ =>
  simp only [elD] at h
  split at h
  ·rename_i d hd; exact Zg3 hd
  ·cases h
theorem ZiF {sz : Nat} : ∀ {ps : List (Nat × AV)} {i : Nat} {es : List (List D)}, Zsa sz i ps = some es → (ps.map fun p => (p.1, ren r p.2)) = ps
 | [], _, _, _ => rfl
 | (j, v) :: ps, i, es, h => by
  simp only [Zsa] at h
  split at h
  ·rename_i e es' h1 h2
   simp only [Yo, ZA7 h1, ZiF h2]
  ·cases h
theorem Zml (h : RG r l outs env τ σ) {sz c : Nat} {y : AV} {news : List AV} (ho : Zwz τ.H sz y = true) (hs : Zoj sz (cellsOf τ.H y) y c news) : Zyz σ.H sz (ren r y) = some (c, Zao r news) ∧ (Zao r news).all AV.one = true := by
 obtain ⟨h1, h2⟩ := hs
 have hone : (Zao r news).all AV.one = true := by
  rw [Zde, List.all_map]
  refine Yp.2 fun x hx => ?_
  have := Yp.1 h1 x hx
  cases x <;> first | (simp [Function.comp, ren, AV.one]; done) | cases this
 refine ⟨?_, hone⟩
 split at h2
 ·obtain ⟨rfl, rfl⟩ := h2; simp [ren, Zyz, Zao]
 ·rename_i es
  obtain ⟨h3, rfl, rfl⟩ := h2
  simp only [ren, Zyz]
  rw [if_pos (Yp.2 fun e he => by simpa using h3 e he), Zhg]
 ·rename_i k g off m
  obtain ⟨rfl, h3, rfl⟩ := h2
  simp only [Zwz, Yd] at ho
  obtain ⟨hl, hz⟩ := ho
  obtain ⟨g1, g2, g3, g4, g5⟩ := h.h.at hl
  have e : cellsOf τ.H (.ref k g off c) = (τ.H k).cells := by simp [cellsOf, hl]
  rw [e] at h3 ⊢
  simp only [ren, Zyz]
  rw [if_pos ⟨g1, g2, by rw [g4]; exact Yb hz, by rw [g5, Za3]; exact h3⟩, g5, Zb5, Zcd]
 ·exact h2.elim
theorem Zto (hr : RenOk r l outs) (hT : TOk P T) (h : RG r l outs env τ σ) {d : Nat} {t : TypeId} {x y : AV} (hf : fresh d env = true) (hp : ZNI T r n d t x y a K τ) :
  ZFy P l n d t (ren r x) (ren r y) (KA r l n outs B ((d, []) :: env) K) σ := by
 unfold ZNI at hp
 split at hp
 case h_2 => exact hp.elim
 rename_i i hi
 split at hp
 case h_2 => exact hp.elim
 rename_i e sz he
 split at hp
 case h_2 => exact hp.elim
 rename_i j hj hsz hsrc
 have hsz := Yh hsz
 unfold ZFy
 rw [(hT _ _ hi).elm _ he]
 split at hp
 ·rename_i byt z c news q hb hz
  obtain ⟨h1, h2, h3⟩ := hp
  obtain ⟨e1, e2⟩ := Zml h hsrc h1
  obtain ⟨b1, b2⟩ := (hT _ _ hj).byt _ hb
  have hlim : c * P.bytesOf e ≤ 140737488355328 := Yaj (Nat.mul_le_mul_left _ b1) h2
  refine ⟨by omega, b2, by rw [(hT _ _ hj).zer _ hz]; rfl, ?_⟩
  simp only [e1, ren]
  refine ⟨e2, hlim, fun hc => ?_, fun hc => ?_⟩
  ·subst hc
   have hd : d < n := by
    unfold Zyb at h3
    split at h3
    ·rename_i hd; have := Yh hd; omega
    ·exact h3.elim
   have hn := ZdW (x' := fun g => .ref (l + 1, d) g 0 0) hr h hf (fun g => by simp [ren, hr.own]) h3
   have hnil : Zao r news = [] := by
    have hl : news = [] := by
     obtain ⟨_, h1⟩ := h1
     split at h1
     ·exact h1.2
     ·obtain ⟨_, h4, h5⟩ := h1
      have : ‹List (List D)› = [] := Y6 h4.symm
      rw [this] at h5; simpa using h5
     ·obtain ⟨h4, _, h5⟩ := h1; rw [← h4] at h5; simpa using h5
     ·exact h1.elim
    rw [hl]; simp [Zao]
   rw [hnil] at hn
   refine ⟨hd, _, hn.2, fun act w hR => ?_⟩
   have := R.adopt (e := e) (sz := sz) hR (l + 1, d) rfl ((σ.H (l + 1, d)).g + 1) (YB _) (d := d) (by simp [upd])
   have e3 : upd (upd σ.s d .e0) d (.ref (l + 1, d) ((σ.H (l + 1, d)).g + 1) 0 0) = upd σ.s d (.ref (l + 1, d) ((σ.H (l + 1, d)).g + 1) 0 0) := by funext j; unfold upd; split <;> rfl
   simp only [e3] at this
   exact this
  ·exact ZgR (ZdW (x' := fun g => .ref (l + 1, d) g 0 c) hr h hf (fun g => by simp [ren, hr.own]) h3)
 ·rename_i byt z k q off c' c news C' n' q' hb hz
  split at hp
  case h_2 => exact hp.elim
  rename_i hl hs2 he2 hd
  obtain ⟨h1, ⟨h2, h3, h4, h5⟩, h6⟩ := hp
  obtain ⟨h6, hko, hlow⟩ := Zie hr h (ZbF hl).2 h6
  obtain ⟨e1, e2⟩ := Zml h hsrc h1
  obtain ⟨b1, b2⟩ := (hT _ _ hj).byt _ hb
  obtain ⟨g1, g2, g3, g4, g5⟩ := h.h.at hl
  have hd := Yh hd
  have hs2 := Yb hs2
  have he2 := ZA2 he2
  refine ⟨by omega, b2, by rw [(hT _ _ hj).zer _ hz]; rfl, ?_⟩
  simp only [e1, ren]
  refine ⟨e2, g1, g2, by rw [g4, hs2], by rw [g3, he2], by rw [g5, Za3]; exact h2, by rw [h4]; exact Yaj (Nat.mul_le_mul_left _ b1) h5, hlow, by omega, .of ⟨_, _, h6, ?_⟩⟩
  have h7 := h.put0 (v := .ref k (q + 1) 0 n') (y := .ref (r.κ k) (r.γ k + q + 1) 0 (c' + c)) hf (by simp [ren, h4, YD])
  have h8 := RG.updH hr h7 k ⟨q + 1, true, e, sz, C'⟩ rfl hko
  have e3 : Zb7 r k ⟨q + 1, true, e, sz, C'⟩ = ⟨r.γ k + q + 1, true, e, sz, (σ.H (r.κ k)).cells.drop (off * sz) ++ Zao r news⟩ := by
   simp only [Zb7, g5, Zb5, ← Zdj, h3, YD]
  rw [e3] at h8
  exact h8
 ·exact hp.elim
theorem Zhq (hr : RenOk r l outs) (h : RG r l outs env τ σ) {t : TypeId} {i : TI} (hi : TIok P t i) {x : AV} {vs : List AV} (hp : ZjD r n i x (some vs) a K τ) :
  ∃ k g off, ren r x = .ptr k g off ∧ g = (σ.H k).g ∧ (σ.H k).live = true ∧ (Zao r vs).length = P.cellsOf t ∧ Zao r vs ≠ [] ∧ off + (Zao r vs).length ≤ (σ.H k).cells.length ∧ (k.1 = l + 1 ∨ (Zao r vs).all (AV.low k.1) = true) ∧
   ZmI r l outs env K ⟨σ.s, updH σ.H k { σ.H k with cells := (σ.H k).cells.take off ++ Zao r vs ++ (σ.H k).cells.drop (off + (Zao r vs).length) }⟩ := by
 unfold ZjD at hp
 split at hp
 case h_2 => exact hp.elim
 rename_i k q off vs' heq
 cases heq
 split at hp
 case h_2 => exact hp.elim
 rename_i hl hv1 hv2
 have hv1 := Yb hv1
 have hv2 := Yh hv2
 obtain ⟨g1, g2, g3, g4, g5⟩ := h.h.at hl
 obtain ⟨q1, q2⟩ := ZbF hl
 have fin : ∀ C' r', StS (τ.H k).cells off vs C' → wrK r k vs (K ⟨τ.s, updH τ.H k ⟨q, true, (τ.H k).e, (τ.H k).sz, C'⟩⟩ r') → _ := fun C' r' hs hK => by
  obtain ⟨s1, s2⟩ := hs
  obtain ⟨hK, hko, hlow⟩ := Zie hr h (ZbF hl).2 hK
  refine (⟨r.κ k, r.γ k + q, off, by simp [ren], g1, g2, by rw [Za3, hi.siz, hv1], by intro e; have := congrArg List.length e; rw [Za3, Yao] at this; omega, by rw [g5, Za3, Za3]; exact s1, ?_, _, _, hK, ?_⟩ :
   ∃ k' g off', ren r (.ptr k q off) = .ptr k' g off' ∧ g = (σ.H k').g ∧ (σ.H k').live = true ∧ (Zao r vs).length = P.cellsOf t ∧ Zao r vs ≠ [] ∧ off' + (Zao r vs).length ≤ (σ.H k').cells.length ∧ (k'.1 = l + 1 ∨ (Zao r vs).all (AV.low k'.1) = true) ∧
   ZmI r l outs env K ⟨σ.s, updH σ.H k' { σ.H k' with cells := (σ.H k').cells.take off' ++ Zao r vs ++ (σ.H k').cells.drop (off' + (Zao r vs).length) }⟩)
  ·exact hlow
  ·have h8 := RG.updH hr h k ⟨q, true, (τ.H k).e, (τ.H k).sz, C'⟩ rfl hko
   have e3 : Zb7 r k ⟨q, true, (τ.H k).e, (τ.H k).sz, C'⟩ = { σ.H (r.κ k) with cells := (σ.H (r.κ k)).cells.take off ++ Zao r vs ++ (σ.H (r.κ k)).cells.drop (off + (Zao r vs).length) } := by
    simp only [Zb7, g5, Za3, Zcd, Zb5, ← Zdj, s2, g1, g3, g4, ← g2]
   rw [e3] at h8
   exact h8
 split at hp
 ·split at hp
  ·rename_i hb; exact fin _ _ ⟨Yh hb, rfl⟩ hp
  ·exact hp.elim
 ·exact fin _ _ hp.1 hp.2
 ·exact hp.elim
theorem Zos (hr : RenOk r l outs) (hT : TOk P T) (h : RG r l outs env τ σ) (hc : Zdd env [] o.op = true) (hf : Zew env o.dst = true) (hp : ZCc P T l n r o a K τ) : rOp P l n o (KA r l n outs B (Ze3 env o.dst) K) σ := by
 obtain ⟨dst, op, ty, ps, af, gd⟩ := o
 have ops : ∀ {op : Op}, Zdd env [] op = true → (∀ c x y, op ≠ .pick c x y) → ∀ x ∈ op.operands, ev σ.s x = ren r (ev τ.s x) := fun {op} hc hne => by
  unfold Zdd at hc
  split at hc
  ·exact absurd rfl (hne _ _ _)
  ·exact ZdO h Zak hc
 unfold ZCc at hp
 simp only at hc hf hp ⊢
 split at hp
 ·rename_i t
  split at hp
  case h_2 => exact hp.elim
  rename_i d i hi
  split at hp
  case h_2 => exact hp.elim
  rename_i z zs hz
  have hfl := Zdq (r := r) ((hT _ _ hi).flt _ hz)
  have hn := ZdW (x' := fun g => .ptr (l + 1, d) g 0) hr h hf (fun g => by simp [ren, hr.own]) hp
  rw [hfl] at hn
  simp only [rOp, (hT _ _ hi).zer _ hz]
  exact ⟨by simp, ZgR hn⟩
 ·rename_i t x
  split at hp
  case h_2 => exact hp.elim
  rename_i d z zs hz hnf
  have hx := ops hc (fun _ _ _ e => by cases e) x (by simp [Op.operands])
  have hn := ZdW (x' := fun g => .ptr (l + 1, d) g 0) hr h hf (fun g => by simp [ren, hr.own]) hp
  have hz' := Zea (r := r) hz (Zi6 hnf)
  simp only [rOp, hx, hz']
  refine ⟨Zvy (by simp), ?_⟩
  rw [Za3]
  exact ZgR hn
 ·rename_i t p x
  split at hp
  case h_2 => exact hp.elim
  rename_i i hi hnf
  have hx := ops hc (fun _ _ _ e => by cases e) x (by simp [Op.operands])
  have hpp := ops hc (fun _ _ _ e => by cases e) p (by simp [Op.operands])
  cases hz : ZbJ (ev τ.s x) with
  | none => rw [hz] at hp; unfold ZjD at hp; split at hp <;> first | exact hp.elim | (rename_i e; cases e)
  | some vs =>
   rw [hz] at hp
   have hz' := Zea (r := r) hz (Zi6 hnf)
   obtain ⟨k, g, off, e1, e2, e3, e4, e5, e6, e7, e8⟩ := Zhq hr h (hT _ _ hi) hp
   simp only [rOp, hpp, hx, hz', e1]
   exact ⟨e2, e3, e4, e5, e6, e7, .of e8⟩
 ·rename_i t len parts
  split at hp
  case h_2 => exact hp.elim
  rename_i d i hi
  split at hp
  case h_2 => exact hp.elim
  rename_i e sz he
  simp only [rOp, (hT _ _ hi).elm _ he]
  split at hp
  ·rename_i hsz
   have hsz := Yh hsz
   refine ⟨by omega, ?_⟩
   split at hp
   ·rename_i hps
    obtain ⟨h1, h2⟩ := ZgK h hf (y := .e0) ⟨.e0, a, by simp [ren], hp⟩
    exact ⟨by rw [← Yal, hps]; rfl, h1, .of h2⟩
   ·exact hp.elim
  ·rename_i len' hsz
   have hsz := Yh hsz
   refine ⟨by omega, ?_⟩
   split at hp
   case h_2 => exact hp.elim
   rename_i j hj hlim
   split at hp
   case h_2 => exact hp.elim
   rename_i z hz
   split at hp
   case h_2 => exact hp.elim
   rename_i es hzl hlit
   split at hp
   case h_2 => exact hp.elim
   rename_i hes
   have e1 : (parts.toList.map fun p => (p.1, ev σ.s p.2)) = parts.toList.map fun p => (p.1, ev τ.s p.2) := by
    have : (parts.toList.map fun p => (p.1, ev σ.s p.2)) = (parts.toList.map fun p => (p.1, ev τ.s p.2)).map fun p => (p.1, ren r p.2) := by
     rw [YaF]
     refine YO fun p hp => ?_
     simp only [Function.comp]
     rw [ops hc (fun _ _ _ e => by cases e) p.2 (by simp only [Op.operands, Ybh, Yy]; exact ⟨p, hp, rfl⟩)]
    rw [this, ZiF hlit]
   rw [e1]
   simp only [(hT _ _ hj).zer _ hz, hlit]
   obtain ⟨h1, h2⟩ := ZgK h hf (y := .d (.list es)) ⟨.d (.list es), a, by simp [ren], hp⟩
   exact ⟨Yh hlim, Yb hzl, Yb hes, h1, .of h2⟩
  ·exact hp.elim
 ·rename_i t x y
  split at hp
  case h_2 => exact hp.elim
  rename_i d i k1 c k2 c' m C b hi hx0 hy0
  have hx := ops hc (fun _ _ _ e => by cases e) x (by simp [Op.operands])
  have hy := ops hc (fun _ _ _ e => by cases e) y (by simp [Op.operands])
  rw [hx0] at hx
  rw [hy0] at hy
  split at hp
  case h_2 => exact hp.elim
  rename_i e sz he
  split at hp
  case h_2 => exact hp.elim
  rename_i j hj hsz
  split at hp
  case h_2 => exact hp.elim
  rename_i z byt hz hbyt
  split at hp
  case h_2 => exact hp.elim
  rename_i hzl
  obtain ⟨⟨m1, m2, m3, m4⟩, hp⟩ := hp
  have hzl := Yb hzl
  have hsz := Yh hsz
  have hb := (hT _ _ hj).byt _ hbyt
  have hfz := (hT _ _ hj).flt _ hz
  have hflC : C.all AV.flat = true := by
   subst m4
   refine Yp.2 fun q hq => ?_
   obtain ⟨z', hz', hq'⟩ := YbL.1 hq
   rw [(Ybw.1 hz').2] at hq'
   exact Yp.1 hfz q hq'
  have hfl := Zdq (r := r) hflC
  have hn := ZdW (x' := fun g => .ref (l + 1, d) g 0 m) hr h hf (fun g => by simp [ren, hr.own]) hp
  rw [hfl] at hn
  simp only [rOp, (hT _ _ hi).elm _ he, hx, hy, ren, (hT _ _ hj).zer _ hz]
  subst m1
  have hbb : (P.bytesOf e : Int) * c' ≤ (byt : Int) * c' := Ybm (by omega) (by omega)
  refine ⟨by omega, m2, by omega, hb.2, by omega, hzl, ?_⟩
  simp only [Yac, m4]
  exact ZgR hn
 ·rename_i c
  split at hp
  ·rename_i hcal
   split at hp
   case h_2 => exact hp.elim
   rename_i d x y t t' ha ht
   split at hp
   case h_2 => exact hp.elim
   rename_i htt
   have htt := Yb htt
   subst htt
   have h2 : c.argTypes = #[t, t] := Yad (by simpa using ht)
   have hx := ops hc (fun _ _ _ e => by cases e) x (by simp only [Op.operands, Call.operands, Ya0]; exact .inr (by rw [← Ybl, ha]; simp))
   have hy := ops hc (fun _ _ _ e => by cases e) y (by simp only [Op.operands, Call.operands, Ya0]; exact .inr (by rw [← Ybl, ha]; simp))
   simp only [rOp, hcal, ha, ht]
   refine ⟨by rw [h2]; rfl, ?_⟩
   rw [hx, hy]
   exact Zto hr hT h hf hp
  ·rename_i hna
   split at hp
   case h_2 => exact hp.elim
   rename_i d
   unfold pV at hp
   simp only at hp
   split at hp
   ·rename_i f hcal
    obtain ⟨i, first, caps, x, a', e1, e2, e3⟩ := Zg5 h Zak (fun b e => by cases e) hcal hc hp
    simp only [rOp, hcal, e1]
    refine e2.mono fun y H' ⟨h1, h2⟩ => ?_
    subst h1; subst h2
    obtain ⟨h1, h2⟩ := ZgK h hf (y := ren r x) ⟨x, a', rfl, e3⟩
    exact ⟨h1, .of h2⟩
   ·rename_i hnv
    refine Zry (o := ⟨some d, .call c, ty, ps, af, gd⟩) hT h rfl hc hf hp ?_
    simp only [rOp]
 ·rename_i h1 h2 h3 h4 h5 h6
  split at hp
  case h_2 => exact hp.elim
  rename_i d
  have hp' : tV T τ.H op (ev τ.s) none a (Zqd n d K τ) := by
   unfold pV at hp
   split at hp
   ·exact absurd rfl (h6 _)
   ·exact absurd rfl (h4 _ _ _)
   ·exact hp
  refine Zry (o := ⟨some d, op, ty, ps, af, gd⟩) hT h rfl hc hf hp' ?_
  simp only [rOp]
theorem ZtR {d : Option Nat} {v y : AV} {H' : Hp} (hf : Zew env d = true) {τ' : St} (h : RG r l outs env ⟨τ.s, τ'.H⟩ ⟨σ.s, H'⟩) (hy : y = ren r v) (hk : ZLM n K τ.s τ'.H v a d) :
  ZhD n d (KA r l n outs B (Ze3 env d) K) ⟨σ.s, H'⟩ y := by
 cases d with
 | none => exact .of ⟨_, _, hk, h⟩
 | some d =>
  simp only [ZLM] at hk
  split at hk
  ·rename_i hd; exact ⟨Yh hd, .of ⟨_, _, hk, h.put0 hf hy⟩⟩
  ·exact hk.elim
theorem Zjd (hr : RenOk r l outs) (hT : TOk P T) (h : RG r l outs env τ σ) (hc : Zdd env [] o.op = true) (hf : Zew env o.dst = true) (hp : Zyt P T l n r o a K τ) : AOp P l n B o (KA r l n outs B (Ze3 env o.dst) K) σ := by
 have ops : ∀ {op : Op}, Zdd env [] op = true → (∀ c x y, op ≠ .pick c x y) → ∀ x ∈ op.operands, ev σ.s x = ren r (ev τ.s x) := fun {op} hc hne => by
  unfold Zdd at hc
  split at hc
  ·exact absurd rfl (hne _ _ _)
  ·exact ZdO h Zak hc
 unfold Zyt at hp
 split at hp
 case h_2 => exact ZdV (Zos hr hT h hc hf hp)
 rename_i c ho
 split at hp
 ·rename_i hcal
  split at hp
  case h_2 => exact hp.elim
  rename_i x y t t' ha ht
  have ho' : o.op = .call ⟨.builtin .copy, #[x, y], #[t, t']⟩ := by
   rw [ho]
   have e1 : c.args = #[x, y] := Yad (by simpa using ha)
   have e2 : c.argTypes = #[t, t'] := Yad (by simpa using ht)
   cases c; simp only at hcal e1 e2; subst hcal; subst e1; subst e2; rfl
  rw [ho'] at hc
  have hx := ops hc (fun _ _ _ e => by cases e) x (by simp [Op.operands, Call.operands])
  have hy := ops hc (fun _ _ _ e => by cases e) y (by simp [Op.operands, Call.operands])
  unfold ZJO at hp
  split at hp
  case h_2 => exact hp.elim
  rename_i i i' hi hi'
  split at hp
  case h_2 => exact hp.elim
  rename_i e sz e' sz' he he'
  split at hp
  case h_2 => exact hp.elim
  rename_i j q1 q2 hj hsz hsrc
  split at hp
  case h_2 => exact hp.elim
  rename_i z k q off cn cnt news C' b hz hxv
  split at hp
  case h_2 => exact hp.elim
  rename_i hl hs2
  obtain ⟨h1, h2, h3, h4⟩ := hp
  obtain ⟨h4, hko, hlow⟩ := Zie hr h (ZbF hl).2 h4
  have q1 := Yb q1
  have q2 := Yb q2
  subst q1; subst q2
  have hs2 := Yb hs2
  have hsz := Yh hsz
  obtain ⟨g1, g2, g3, g4, g5⟩ := h.h.at hl
  obtain ⟨e1, e2⟩ := Zml h hsrc h1
  rw [hxv] at hx
  obtain ⟨s1, s2⟩ := h3
  obtain ⟨ss, sH⟩ := σ
  refine Zwu (k := r.κ k) (g := r.γ k + q) (off := off) (cn := cn) (cnt := cnt) (news := Zao r news) ho' (by rw [hx]; simp [ren]) ((hT _ _ hi).elm _ he) ((hT _ _ hi').elm _ he') (by rw [(hT _ _ hj).zer _ hz]; rfl) (by omega) g1 g2 (by rw [g4, hs2]) (by rw [hy]; exact e1) h2
   (by rw [g5, Za3, Za3]; exact s1) hlow ?_
  have h8 := RG.updH hr h k ⟨q, true, (τ.H k).e, (τ.H k).sz, C'⟩ rfl hko
  have e3 : Zb7 r k ⟨q, true, (τ.H k).e, (τ.H k).sz, C'⟩ = { sH (r.κ k) with cells := (sH (r.κ k)).cells.take (off * sz) ++ Zao r news ++ (sH (r.κ k)).cells.drop (off * sz + (Zao r news).length) } := by
   simp only at g1 g2 g3 g4 g5
   simp only [Zb7, g5, Za3, Zcd, Zb5, ← Zdj, s2, g1, g3, g4, ← g2]
  simp only at e3
  rw [e3] at h8
  refine ZtR (v := .d (.int .i64 cnt)) (a := b) (τ' := ⟨τ.s, updH τ.H k ⟨q, true, (τ.H k).e, (τ.H k).sz, C'⟩⟩) hf h8 (by simp [ren]) h4
 ·rename_i hcal
  split at hp
  case h_2 => exact hp.elim
  rename_i x t ha ht hd
  have ho' : o.op = .call ⟨.builtin .clear, #[x], #[t]⟩ := by
   rw [ho]
   have e1 : c.args = #[x] := Yad (by simpa using ha)
   have e2 : c.argTypes = #[t] := Yad (by simpa using ht)
   cases c; simp only at hcal e1 e2; subst hcal; subst e1; subst e2; rfl
  rw [ho'] at hc
  have hx := ops hc (fun _ _ _ e => by cases e) x (by simp [Op.operands, Call.operands])
  unfold ZyH at hp
  split at hp
  case h_2 => exact hp.elim
  rename_i i hi
  split at hp
  case h_2 => exact hp.elim
  rename_i e sz he
  split at hp
  case h_2 => exact hp.elim
  rename_i j hj hsz
  split at hp
  case h_2 => exact hp.elim
  rename_i z k q off cn C' b hz hxv
  split at hp
  case h_2 => exact hp.elim
  rename_i hl hs2 hzl
  obtain ⟨⟨h1, h2⟩, h4⟩ := hp
  obtain ⟨h4, hko, hlow⟩ := Zie hr h (ZbF hl).2 h4
  have hs2 := Yb hs2
  have hsz := Yh hsz
  have hzl := Yb hzl
  obtain ⟨g1, g2, g3, g4, g5⟩ := h.h.at hl
  have hfz := Zdq (r := r) ((hT _ _ hj).flt _ hz)
  rw [hfz] at hlow
  rw [hxv] at hx
  obtain ⟨ss, sH⟩ := σ
  refine ZtT (k := r.κ k) (g := r.γ k + q) (off := off) (cn := cn) ho' hd (by rw [hx]; simp [ren]) ((hT _ _ hi).elm _ he) ((hT _ _ hj).zer _ hz) hzl (by omega) g1 g2 (by rw [g4, hs2]) (by rw [g5, Za3]; exact h1) hlow ?_
  have h8 := RG.updH hr h k ⟨q, true, (τ.H k).e, (τ.H k).sz, C'⟩ rfl hko
  have hrep : Zao r (List.replicate cn z).flatten = (List.replicate cn z).flatten := Zdq (by
   refine Yp.2 fun q hq => ?_
   obtain ⟨z', hz', hq'⟩ := YbL.1 hq
   rw [(Ybw.1 hz').2] at hq'
   exact Yp.1 ((hT _ _ hj).flt _ hz) q hq')
  have e3 : Zb7 r k ⟨q, true, (τ.H k).e, (τ.H k).sz, C'⟩ = { sH (r.κ k) with cells := (sH (r.κ k)).cells.take (off * sz) ++ (List.replicate cn z).flatten ++ (sH (r.κ k)).cells.drop ((off + cn) * sz) } := by
   simp only at g1 g2 g3 g4 g5
   rw [← h2]
   simp only [Zb7, g5, Zdj, Zcd, Zb5, hrep, g1, g3, g4, ← g2]
  simp only at e3
  rw [e3] at h8
  exact .of ⟨_, _, h4, by rw [hd]; exact h8⟩
 ·exact ZdV (Zos hr hT h hc hf hp)
theorem ZqY {r : Ren} {x : AV} (h : x.flat = true) : ren r x = x := by cases x <;> simp [AV.flat] at h <;> simp [ren]
theorem ZKz (hq : Za0 o = true) (hp : ZyK P T l n r o a K τ) : Zyt P T l n r o a K τ := by
 unfold ZyK at hp
 split at hp
 ·rename_i ho; simp [Za0, ho] at hq
 ·exact hp
theorem ZnK (hr : RenOk r l outs) (hT : TOk P T) (h : RG r l outs env τ σ) (hc : Zdd env [] o.op = true) (hf : Zew env o.dst = true) (hp : ZyK P T l n r o a K τ) : AOp P l n B o (KA r l n outs B (Ze3 env o.dst) K) σ := by
 unfold ZyK at hp
 split at hp
 case h_2 => exact Zjd hr hT h hc hf hp
 rename_i t len parts ho
 split at hp
 case h_2 => exact Zjd hr hT h hc hf hp
 case h_3 => exact Zjd hr hT h hc hf hp
 rename_i b
 have ops : ∀ x ∈ o.op.operands, ev σ.s x = ren r (ev τ.s x) := by
  unfold Zdd at hc
  split at hc
  ·rename_i e; rw [ho] at e; cases e
  ·exact ZdO h Zak hc
 unfold Zzb at hp
 split at hp
 case h_2 => exact hp.elim
 rename_i d i hd hi
 split at hp
 case h_2 => exact hp.elim
 rename_i e sz he
 split at hp
 case h_2 => exact hp.elim
 rename_i j hj hsz hlim
 split at hp
 case h_2 => exact hp.elim
 rename_i z hz
 split at hp
 case h_2 => exact hp.elim
 rename_i cs hzl hfill hfl
 split at hp
 case h_2 => exact hp.elim
 rename_i hcs
 have e1 : (parts.toList.map fun p => (p.1, ev σ.s p.2)) = parts.toList.map fun p => (p.1, ev τ.s p.2) := by
  refine YO fun p hp => ?_
  rw [ops p.2 (by rw [ho]; simp only [Op.operands, Ybh, Yy]; exact ⟨p, hp, rfl⟩)]
  have := Yp.1 hfl (p.1, ev τ.s p.2) (Yy.2 ⟨p, hp, rfl⟩)
  rw [ZqY this]
 have hd' : o.dst = some d := hd
 rw [hd'] at hf ⊢
 have hn := ZdW (x' := fun g => .ref (l + 1, d) g 0 (len + 1)) hr h hf (fun g => by simp [ren, hr.own]) hp
 rw [Zdq (r := r) hcs] at hn
 obtain ⟨s, H⟩ := σ
 exact Ze7 ho hd' ((hT _ _ hi).elm _ he) (by have := Yh hsz; omega) (Yh hlim) ((hT _ _ hj).zer _ hz) (Yb hzl) (by rw [e1]; exact hfill) (ZgR hn)
theorem ZKh (hq : Za0 o = true) (hp : ZAb P T l n r o a K τ) : ZyK P T l n r o a K τ := by
 unfold ZAb at hp
 split at hp
 case h_4 c ho =>
  split at hp
  ·rename_i hc; simp [Za0, ho, hc] at hq
  ·exact hp
 case h_5 => exact hp
 all_goals rename_i ho
 ·simp [Za0, ho] at hq
 ·unfold pMs at hp
  split at hp
  ·rename_i hd _ _ _; simp [Za0, hd] at hq
  ·exact hp.elim
 ·unfold pMs at hp
  split at hp
  ·rename_i hd _ _ _; simp [Za0, hd] at hq
  ·exact hp.elim
theorem Zw9 {q : Bool} {x : AV} {ds : List D} (h : ZDG q x = some ds) : ren r x = x := by
 cases q with
 | true =>
  cases x <;> simp only [ZDG] at h <;> try (cases h; done)
  case agg xs => simp only [ren, Zhy h]
 | false =>
  have h : (Ze4 x).map (fun d => [d]) = some ds := by cases x <;> exact h
  obtain ⟨d, h1, _⟩ := Yag.1 h
  exact Zg3 h1
theorem Zp3 (hr : RenOk r l outs) (h : RG r l outs env τ σ) {K : St → AT → Prop} {d : Nat} (hf : fresh d env = true) {e : EK} {x x' : Nat → AV} (hx : ∀ g, x' (r.γ (1, d) + g) = ren r (x g)) (hn : ZAf n d e x K τ a) :
  ZPj l n d e x' (KA r l n outs B ((d, []) :: env) K) σ := by
 unfold ZAf at hn
 split at hn
 ·rename_i hd
  refine ⟨Yh hd, .of ⟨_, _, hn, ?_⟩⟩
  have h1 := RG.updH hr h (1, d) ⟨(τ.H (1, d)).g + 1, true, e, 0, []⟩ rfl (.inl rfl)
  have h2 := h1.put0 hf (v := x ((τ.H (1, d)).g + 1)) (y := x' ((σ.H (l + 1, d)).g + 1)) (by rw [h.g, YD]; exact hx _)
  have e1 : Zb7 r (1, d) ⟨(τ.H (1, d)).g + 1, true, e, 0, []⟩ = ⟨(σ.H (l + 1, d)).g + 1, true, e, 0, []⟩ := by simp only [Zb7, Zao, h.g, YD]
  rw [e1, hr.own] at h2
  exact h2
 ·exact hn.elim
theorem ZnT (hr : RenOk r l outs) (hT : TOk P T) (h : RG r l outs env τ σ) (hc : Zdd env [] o.op = true) (hf : Zew env o.dst = true) (hp : ZAb P T l n r o a K τ) : AOp P l n B o (KA r l n outs B (Ze3 env o.dst) K) σ := by
 have ops : (∀ c x y, o.op ≠ .pick c x y) → ∀ x ∈ o.op.operands, ev σ.s x = ren r (ev τ.s x) := fun hne => by
  unfold Zdd at hc
  split at hc
  ·rename_i e; exact absurd e (hne _ _ _)
  ·exact ZdO h Zak hc
 have st : ∀ {t x y z} (ho : o.op = .mapUpdate t x y z ∨ o.op = .insert t x y z) (hx : ev σ.s x = ren r (ev τ.s x)) (hy : ev σ.s y = ren r (ev τ.s y)) (hz : ev σ.s z = ren r (ev τ.s z)) (hp : pMs T r o.dst t (ev τ.s x) (ev τ.s y) (ev τ.s z) a K τ), AOp P l n B o (KA r l n outs B (Ze3 env o.dst) K) σ := by
  intro t x y z ho hx hy hz hp
  unfold pMs at hp
  split at hp
  case h_2 => exact hp.elim
  rename_i i k g s hd hi hxv hyv
  split at hp
  case h_2 => exact hp.elim
  rename_i q z0 q' es hmp hl he
  split at hp
  case h_2 => exact hp.elim
  rename_i ds es' b _ _ _
  obtain ⟨h1, h2⟩ := hp
  have hv : ZDG q (ev τ.s z) = some ds := by assumption
  have hq : bqB q q' = true := by assumption
  have hq := Zrv hq
  subst hq
  obtain ⟨h2, hko, _⟩ := Zie hr h (ZbF hl).2 h2
  obtain ⟨g1, g2, g3, g4, g5⟩ := h.h.at hl
  rw [hxv] at hx
  rw [hyv] at hy
  rw [Zw9 hv] at hz
  obtain ⟨ss, sH⟩ := σ
  refine ZkW (sk := s) (k := r.κ k) (g := r.γ k + g) (es := es) ho hd ((hT _ _ hi).mp _ hmp) (by rw [hx]; simp [ren]) g1 g2 (by rw [g3]; exact he) (by rw [hy]; simp [ren]) (by rw [hz]; exact hv) ?_
  have h8 := RG.updH hr h k ⟨g, true, .m q es', (τ.H k).sz, (τ.H k).cells⟩ rfl hko
  have e3 : Zb7 r k ⟨g, true, .m q es', (τ.H k).sz, (τ.H k).cells⟩ = { sH (r.κ k) with e := .m q (Zjq s ds es) } := by
   simp only at g1 g2 g3 g4 g5
   rw [show Zjq s ds es = es' from h1]
   simp only [Zb7, g1, g4, ← g5, ← g2]
  simp only at e3
  rw [e3] at h8
  rw [hd]
  exact .of ⟨_, _, h2, h8⟩
 unfold ZAb at hp
 split at hp
 case h_5 => exact ZnK hr hT h hc hf hp
 case h_4 c ho =>
  split at hp
  case h_2 => exact ZnK hr hT h hc hf hp
  rename_i hcal
  split at hp
  case h_2 => exact hp.elim
  rename_i x y t t' ha ht
  have ho' : o.op = .call ⟨.builtin .delete, #[x, y], #[t, t']⟩ := by
   rw [ho]
   have e1 : c.args = #[x, y] := Yad (by simpa using ha)
   have e2 : c.argTypes = #[t, t'] := Yad (by simpa using ht)
   cases c; simp only at hcal e1 e2; subst hcal; subst e1; subst e2; rfl
  have ops := ops (by rw [ho']; intro _ _ _ e; cases e)
  rw [ho'] at ops
  have hx := ops x (by simp [Op.operands, Call.operands])
  have hy := ops y (by simp [Op.operands, Call.operands])
  unfold pMd at hp
  split at hp
  case h_2 => exact hp.elim
  rename_i i k g s hd hi hxv hyv
  split at hp
  case h_2 => exact hp.elim
  rename_i q z0 q' es hmp hl he
  split at hp
  case h_2 => exact hp.elim
  rename_i es' b _
  obtain ⟨h1, h2⟩ := hp
  have hq : bqB q q' = true := by assumption
  have hq := Zrv hq
  subst hq
  obtain ⟨h2, hko, _⟩ := Zie hr h (ZbF hl).2 h2
  obtain ⟨g1, g2, g3, g4, g5⟩ := h.h.at hl
  rw [hxv] at hx
  rw [hyv] at hy
  obtain ⟨ss, sH⟩ := σ
  refine Zo6 (sk := s) (k := r.κ k) (g := r.γ k + g) (es := es) ho' hd ((hT _ _ hi).mp _ hmp) (by rw [hx]; simp [ren]) g1 g2 (by rw [g3]; exact he) (by rw [hy]; simp [ren]) ?_
  have h8 := RG.updH hr h k ⟨g, true, .m q es', (τ.H k).sz, (τ.H k).cells⟩ rfl hko
  have e3 : Zb7 r k ⟨g, true, .m q es', (τ.H k).sz, (τ.H k).cells⟩ = { sH (r.κ k) with e := .m q (Zjp s es) } := by
   simp only at g1 g2 g3 g4 g5
   rw [show Zjp s es = es' from h1]
   simp only [Zb7, g1, g4, ← g5, ← g2]
  simp only at e3
  rw [e3] at h8
  rw [hd]
  exact .of ⟨_, _, h2, h8⟩
 ·rename_i t rs ho
  split at hp
  case h_2 => exact hp.elim
  rename_i d i hd hi hres
  split at hp
  case h_2 => exact hp.elim
  rename_i q z hmp
  rw [hd] at hf ⊢
  have hn := Zp3 (B := B) (x' := fun g => .mp (l + 1, d) g) hr h hf (fun g => by simp [ren, hr.own]) hp
  obtain ⟨ss, sH⟩ := σ
  obtain ⟨kt, et, hu, _, _, _⟩ := ZiK ((hT _ _ hi).mp _ hmp)
  refine ZlB ho hd ⟨kt, et, hu⟩ (fun x hx => ?_) hn
  subst hx
  have hxx := ops (by rw [ho]; intro _ _ _ e; cases e) x (by rw [ho]; simp [Op.operands])
  simp only [Zlm] at hres
  split at hres
  ·rename_i k n' he; exact ⟨k, n', by rw [hxx, he]; simp [ren]⟩
  ·cases hres
 ·rename_i t x y z ho
  have ops := ops (by rw [ho]; intro _ _ _ e; cases e)
  rw [ho] at ops
  exact st (.inl ho) (ops x (by simp [Op.operands])) (ops y (by simp [Op.operands])) (ops z (by simp [Op.operands])) hp
 ·rename_i t x y z ho
  have ops := ops (by rw [ho]; intro _ _ _ e; cases e)
  rw [ho] at ops
  exact st (.inr ho) (ops x (by simp [Op.operands])) (ops y (by simp [Op.operands])) (ops z (by simp [Op.operands])) hp
end
end Go.Eng
namespace Go.Eng
set_option linter.all false
open Go Go.RowKit
section
variable {P : Program} {T : Nat → Option TI} {r : Ren} {l n outs : Nat} {B : Base} {env : Env} {τ σ : St} {a : AT} {o : Oper}
theorem ZLn {H : Hp} {op : Op} {ρ : Operand → AV} {g : Option Bool} {K : AV → AT → Prop} (h : tV T H op ρ g a K) : ∃ v a', K v a' := by
 have fin : ∀ {v a'}, K v a' → ∃ v a', K v a' := fun h => ⟨_, _, h⟩
 cases op <;> simp only [tV] at h <;> try exact h.elim
 case move x => exact fin h
 case assign x => exact fin h
 case pick c x y => split at h <;> first | exact fin h | exact h.elim
 case load t x =>
  split at h
  ·unfold ZoR at h
   repeat' split at h
   all_goals first | exact h.elim | exact fin h | exact fin h.2
  ·grind
 case fieldAddr t x f =>
  split at h
  ·unfold ZeM at h
   grind
  ·grind
 case field t x f =>
  split at h
  ·unfold Zoy at h
   grind
  ·grind
 case indexAddr t x j =>
  split at h
  ·unfold ZeT at h
   grind
  ·grind
 case index t x j =>
  split at h
  ·unfold Zng at h
   grind
  ·grind
 case extract x j =>
  repeat' split at h
  all_goals first | exact h.elim | exact fin h
 case binOp o t x y u =>
  split at h
  ·unfold ZLF at h
   split at h
   ·split at h
    ·unfold ZLD at h
     grind
    grind
   ·unfold ZLC at h
    grind
   ·grind
   ·grind
   ·split at h
    ·have nl : ∀ {neg : Bool} {x : AV}, ZFF H neg x a K → ∃ v a', K v a' := fun {neg x} h => by
      unfold ZFF at h
      repeat' split at h
      all_goals first | exact h.elim | exact fin (h true) | exact fin (h neg (fun _ => rfl))
     grind
    grind
   grind
  ·grind
 case unOp o t x =>
  unfold tUn at h
  repeat' split at h
  all_goals first | exact h.elim | exact fin h | exact fin h.2
 case nilCheck x =>
  split at h
  ·grind
  ·grind
  ·grind
 case convert s d x =>
  split at h
  ·unfold ZvS at h
   grind
  ·grind
 case makeFunc fn first caps => split at h <;> first | exact h.elim | exact fin h
 case slice t x lo hi mx =>
  split at h
  ·unfold ZnF at h
   grind
  ·grind
 case build t parts =>
  split at h
  ·unfold ZoL at h
   grind
  ·grind
 case lookup t x y ck =>
  split at h
  ·unfold Zwy at h
   grind
  ·grind
 case call c =>
  split at h
  ·split at h
   ·unfold ZLJ at h
    grind
   grind
  ·unfold vMM at h
   grind
  ·unfold vMM at h
   grind
  ·unfold ZuG at h
   grind
  ·grind
theorem ZDg {op : Op} {g : Option Bool} {K : AV → AT → Prop} (h : pV P T l r τ op g a K) : ∃ v a', K v a' := by
 unfold pV at h
 split at h
 ·split at h
  ·unfold ZvK at h
   grind
  ·exact ZLn h
 ·unfold bsV at h
  repeat' split at h
  all_goals first | exact h.elim | exact ⟨_, _, h⟩
 ·exact ZLn h
def Yl (r : Ren) (e : Nat) (K : AV → AT → Prop) (σ σ' : St) : Prop := ∃ v a', σ' = ⟨upd σ.s e (ren r v), σ.H⟩ ∧ K v a'
theorem Zzh (hT : TOk P T) (h : RG r l outs env τ σ) {c : ZdG} (hs : Zis τ.s c) {g : Option Bool} (hg : ∀ b, g = some b → b = true) {e : Nat} {op : Op} {ty : TypeId} {ps : String} {af : Array Edge} {gd : Option (Nat × Bool)}
  (hx : Zdd env c op = true) (hen : e < n) {K : AV → AT → Prop} (hp : pV P T l r τ op g a K) : rOp P l n ⟨some e, op, ty, ps, af, gd⟩ (Yl r e K σ) σ := by
 have val : tV T τ.H op (ev τ.s) g a K → rOp P l n ⟨some e, op, ty, ps, af, gd⟩ (Yl r e K σ) σ = vOp P σ.H op (ev σ.s) (ZhD n (some e) (Yl r e K σ) σ) → rOp P l n ⟨some e, op, ty, ps, af, gd⟩ (Yl r e K σ) σ := fun h1 h2 => by
  rw [h2]
  exact ZiO (fun y ⟨v, a', e1, e2⟩ => ⟨hen, v, a', by rw [e1], e2⟩) (Zzw hT h hs hg hx h1)
 unfold pV at hp
 split at hp
 ·rename_i c
  split at hp
  ·rename_i f hcal
   obtain ⟨i, first, caps, x, a', e1, e2, e3⟩ := Zg5 h hs hg hcal hx hp
   simp only [rOp, hcal, e1]
   exact e2.mono fun y H' ⟨h1, h2⟩ => by subst h1; subst h2; exact ⟨hen, x, a', rfl, e3⟩
  ·rename_i hnv
   refine val hp ?_
   cases hcal : c.callee with
   | value f => exact absurd hcal (hnv f)
   | invoke x m => simp only [tV, hcal] at hp
   | builtin b =>
    cases b <;> simp only [tV, hcal] at hp <;> simp only [rOp, hcal]
 ·rename_i t len parts
  have hx' : (Op.buildSlice t len parts).operands.toList.all (chk env c) = true := hx
  have e1 : (parts.toList.map fun p => (p.1, ev σ.s p.2)) = (parts.toList.map fun p => (p.1, ev τ.s p.2)).map fun p => (p.1, ren r p.2) := by
   rw [YaF]
   refine YO fun p hp => ?_
   simp only [Function.comp]
   rw [ZdO h hs hx' p.2 (by simp only [Op.operands, Ybh, Yy]; exact ⟨p, hp, rfl⟩)]
  unfold bsV at hp
  split at hp
  case h_2 => exact hp.elim
  rename_i i hi
  split at hp
  case h_2 => exact hp.elim
  rename_i e' sz he
  simp only [rOp, (hT _ _ hi).elm _ he]
  split at hp
  ·rename_i hsz
   have hsz := Yh hsz
   refine ⟨by omega, ?_⟩
   split at hp
   ·rename_i hps
    exact ⟨by rw [← Yal, hps]; rfl, hen, .e0, a, by simp [ren], hp⟩
   grind
  ·rename_i len' hsz
   have hsz := Yh hsz
   refine ⟨by omega, ?_⟩
   split at hp
   case h_2 => exact hp.elim
   rename_i j hj hlim
   split at hp
   case h_2 => exact hp.elim
   rename_i z hz
   split at hp
   case h_2 => exact hp.elim
   rename_i es hzl hlit
   split at hp
   case h_2 => exact hp.elim
   rename_i hes
   rw [ZiF hlit] at e1
   rw [e1]
   simp only [(hT _ _ hj).zer _ hz, hlit]
   exact ⟨Yh hlim, Yb hzl, Yb hes, hen, .d (.list es), a, by simp [ren], hp⟩
  grind
 ·rename_i h5 h6
  refine val hp ?_
  cases op <;> simp only [tV] at hp <;> try exact hp.elim
  case call c => exact absurd rfl (h5 c)
  all_goals simp only [rOp]
theorem Zx6 (hT : TOk P T) (h : RG r l outs env τ σ) {c : ZdG} (hs : Zis τ.s c) {g : Option Bool} (hg : ∀ b, g = some b → b = true) {e : Nat} {op : Op} {ty : TypeId} {ps : String} {af : Array Edge} {gd : Option (Nat × Bool)}
  (hx : Zdd env c op = true) (hen : e < n) {K : AV → AT → Prop} (hp : pV P T l r τ op g a K) : Zqe P l n ⟨some e, op, ty, ps, af, gd⟩ (Yl r e K σ) σ := by
 have hr := Zzh (ty := ty) (ps := ps) (af := af) (gd := gd) hT h hs hg hx hen hp
 unfold pV at hp
 split at hp
 ·rename_i c
  split at hp
  ·rename_i f hcal
   obtain ⟨i, first, caps, x, a', e1, e2, e3⟩ := Zg5 h hs hg hcal hx hp
   simp only [Zqe, hcal, e1]
   exact ⟨ren r x, e2, hen, x, a', rfl, e3⟩
  ·rename_i hnv
   cases hcal : c.callee with
   | value f => exact absurd hcal (hnv f)
   | _ => simp only [Zqe, hcal]; exact hr
 ·exact hr
 ·rename_i h5 h6
  cases op <;> first | exact absurd rfl (h5 _) | exact hr
theorem ZfP {d : Nat} {e : TypeId} {sz : Nat} {cells : List AV} {x : Nat → AV} {K K' : St → Prop} (hk : ∀ σ, K σ → K' σ) (h : Zmj l n d e sz cells x K σ) : Zmj l n d e sz cells x K' σ := ⟨h.1, hk _ h.2⟩
theorem Ztl {o : Oper} {K K' : St → Prop} (hk : ∀ σ, K σ → K' σ) (h : rOp P l n o K σ) : rOp P l n o K' σ := by
 have pk : ∀ x, ZhD n o.dst K σ x → ZhD n o.dst K' σ x := fun x h => by
  unfold ZhD at h ⊢
  grind
 unfold rOp at h ⊢
 split at h
 ·split at h
  ·exact ⟨h.1, ZfP hk h.2⟩
  grind
 ·split at h
  ·exact ⟨h.1, ZfP hk h.2⟩
  grind
 ·grind
 ·split at h
  ·refine ⟨h.1, ?_⟩
   replace h := h.2
   split at h
   ·grind
   ·refine ⟨h.1, ?_⟩
    replace h := h.2
    split at h
    ·refine ⟨h.1, ?_⟩
     replace h := h.2
     split at h
     ·grind
     ·split at h
      ·exact ZfP hk h
      grind
    grind
  grind
 ·split at h
  ·obtain ⟨h1, h2, h3, h4, h5, h⟩ := h
   refine ⟨h1, h2, h3, h4, h5, ?_⟩
   split at h
   ·exact ⟨h.1, ZfP hk h.2⟩
   grind
  grind
 ·split at h
  ·split at h
   ·exact h.mono fun r H' hp => by
     unfold ZGB at hp ⊢
     unfold ZhD at hp ⊢
     grind
   grind
  ·split at h
   ·refine ⟨h.1, ?_⟩
    replace h := h.2
    unfold ZFy at h ⊢
    split at h
    ·obtain ⟨h1, h2, h3, h⟩ := h
     refine ⟨h1, h2, h3, ?_⟩
     split at h
     ·refine ⟨h.1, ?_⟩
      replace h := h.2
      split at h
      ·exact ⟨h.1, fun e => ⟨(h.2.1 e).1, hk _ (h.2.1 e).2⟩, fun e => ZfP hk (h.2.2 e)⟩
      ·grind
      grind
     grind
    grind
   grind
  ·exact ZiO pk h
 ·exact ZiO pk h
theorem ZgE {o : Oper} {K K' : St → Prop} (hk : ∀ σ, K σ → K' σ) (h : Zqe P l n o K σ) : Zqe P l n o K' σ := by
 have pk : ∀ {x}, ZhD n o.dst K σ x → ZhD n o.dst K' σ x := fun {x} h => by
  unfold ZhD at h ⊢
  grind
 unfold Zqe at h ⊢
 split at h
 ·split at h
  ·grind
  ·exact Ztl hk h
 ·exact Ztl hk h
theorem Zk8 (h : RG r l outs env τ σ) {ds : List (Option Nat)} {i d : Nat} {b g : Bool} (hd : nth ds i = some (some d)) (hg : Zfu τ.s ((d, b) :: lk env d) = some g) : grd σ.s ds i b = some g := by
 rw [Zcp] at hd
 have hc := Zdo hg
 unfold grd
 simp only [hd]
 by_cases hs : Zis τ.s (lk env d)
 ·have e1 := (h.s d).1 hs
  have hb : ∃ t, τ.s d = .d (.bool t) := by
   cases hl : lk env d with
   | nil =>
    rw [hl] at hg
    simp only [Zfu] at hg
    grind
   | cons q q' =>
    rw [hl] at hg
    simp only [Zfu] at hg
    grind
  obtain ⟨t, ht⟩ := hb
  rw [e1, ht]
  simp only [ren, Yg]
  cases g with
  | true =>
   have := hc.1 rfl (d, b) (Yt ..)
   grind
  | false =>
   cases htb : t == b with
   | false => rfl
   | true =>
    exfalso
    have htb : t = b := by simpa using htb
    have : Zis τ.s ((d, b) :: lk env d) := fun q hq => by
     rcases Yx.1 hq with rfl | hq
     ·grind
     ·exact hs q hq
    grind
 ·rw [(h.s d).2 hs]
  simp only [Yg]
  cases g with
  | false => rfl
  | true => exact absurd (fun q hq => hc.1 rfl q (Yq _ hq)) hs
theorem ZdT (hr : RenOk r l outs) (hT : TOk P T) {ops : Array Oper} {K : St → Env → AT → Prop} {QQ : Exit → Act → World → Prop} (more : List Oper)
  (hK : ∀ τ' env' a' σ' act' w', K τ' env' a' → RG r l outs env' τ' σ' → R l n B σ' act' w' → wpList P ops QQ more act' w') :
  ∀ (rest : List Oper) (env : Env) (a : AT) (τ σ : St) (act : Act) (w : World), Zjr P T l n r (ops.toList.map (·.dst)) rest env a K τ → RG r l outs env τ σ → R l n B σ act w → wpList P ops QQ (rest ++ more) act w
 | [], env, a, τ, σ, act, w, h, hG, hR => hK _ _ _ _ _ _ h hG hR
 | o :: rest, env, a, τ, σ, act, w, h, hG, hR => by
  unfold Zjr at h
  split at h
  ·rename_i hg
   split at h
   ·rename_i hc hf
    refine Zee (by simp [Region.wanted, hg]) (ZnT (B := B) hr hT hG hc hf h) hR fun σ' act' w' hKA hR' => ?_
    obtain ⟨σ'', ⟨τ', a', h1, h2⟩, h3⟩ := hKA
    exact ZdT hr hT more hK rest _ _ _ _ _ _ h1 h2 (h3 _ _ hR')
   grind
  ·rename_i i b hg
   split at h
   case h_2 => exact h.elim
   rename_i d e hd he
   split at h
   case h_2 => exact h.elim
   rename_i g hch hx hfr hen
   simp only [Yd] at hfr
   have hen := Yh hen
   have hgr := Zk8 hG hd hch
   have hy : (yielded ops act.tmps i == some b) = g := by
    obtain ⟨s, H⟩ := σ
    obtain ⟨m, S, hO, hn, hdf, hS, hex⟩ := hR.un
    exact ZkE hS hgr
   cases g with
   | true =>
    have hs := (Zdo hch).1 rfl
    refine Zee (by simp only [Region.wanted, hg]; exact hy) (σ := σ) (B := B) (l := l) (n := n) (KK := Yl r e (fun v a' => Zjr P T l n r (ops.toList.map (·.dst)) rest ((e, (d, b) :: lk env d) :: env) a' K ⟨upd τ.s e v, τ.H⟩) σ) (ZdV ?_) hR fun σ' act' w' hY hR' => ?_
    ·obtain ⟨dst, op, ty, ps, af, gd⟩ := o
     simp only at he
     subst he
     exact Zzh hT hG hs (fun b' e' => by cases e'; rfl) hx (by omega) h
    ·obtain ⟨v, a', rfl, h1⟩ := hY
     exact ZdT hr hT more hK rest _ _ _ _ _ _ h1 (hG.put hfr.1 hfr.2 (fun _ => rfl) (fun hn => absurd hs hn)) hR'
   | false =>
    have hs : ¬ Zis τ.s ((d, b) :: lk env d) := fun hs => by have := (Zdo hch).2 hs; cases this
    obtain ⟨v, a', h1⟩ := ZDg h
    show wpList P ops QQ (o :: (rest ++ more)) act w
    unfold wpList
    rw [if_neg (by simp only [Region.wanted, hg, hy]; decide), he]
    exact ZdT hr hT more hK rest _ _ _ _ _ _ h1 (hG.put hfr.1 hfr.2 (y := .tup []) (fun h => absurd h hs) (fun _ => rfl)) (R.undef hR (by omega))
theorem Zhb (hr : RenOk r l outs) (hT : TOk P T) {ds : List (Option Nat)} {K : St → Env → AT → Prop} :
  ∀ (rest : List Oper) (env : Env) (a : AT) (τ σ : St), rest.all (fun o => Za0 o || stB o) = true → Zjr P T l n r ds rest env a K τ → RG r l outs env τ σ → ZmJ P l n ds rest (fun σ' => ∃ τ' env' a', K τ' env' a' ∧ RG r l outs env' τ' σ') σ
 | [], env, a, τ, σ, _, h, hG => ⟨_, _, _, h, hG⟩
 | o :: rest, env, a, τ, σ, hq, h, hG => by
  simp only [YaP, Yd] at hq
  unfold Zjr at h
  unfold ZmJ
  split at h
  ·rename_i hg
   simp only [hg]
   split at h
   case h_2 => exact h.elim
   rename_i hc hf
   by_cases hst : stB o = true
   ·obtain ⟨dst, op, ty, ps, af, gd⟩ := o
    cases op <;> simp only [stB] at hst <;> first | (cases hst; done) | skip
    rename_i t p x
    cases dst with
    | some d => cases hst
    | none =>
     unfold ZAb ZyK Zyt ZCc at h
     simp only at h hc
     split at h
     case h_2 => exact h.elim
     rename_i i hi hnf
     have hops : ∀ y ∈ (Op.store t p x).operands, ev σ.s y = ren r (ev τ.s y) := by
      unfold Zdd at hc
      exact ZdO hG Zak hc
     have hx := hops x (by simp [Op.operands])
     have hpp := hops p (by simp [Op.operands])
     cases hz : ZbJ (ev τ.s x) with
     | none => rw [hz] at h; unfold ZjD at h; split at h <;> first | exact h.elim | (rename_i e; cases e)
     | some vs =>
      rw [hz] at h
      have hz' := Zea (r := r) hz (Zi6 hnf)
      obtain ⟨k, g, off, e1, e2, e3, e4, e5, e6, e7, e8⟩ := Zhq hr hG (hT _ _ hi) h
      obtain ⟨τ', a', h1, h2⟩ := e8
      simp only [Zqe, rOp, hpp, hx, hz', e1]
      exact ⟨e2, e3, e4, e5, e6, e7, Zhb hr hT rest _ _ _ _ hq.2 h1 h2⟩
   have hq0 : Za0 o = true := by
    grind
   replace hq : Za0 o = true ∧ _ := ⟨hq0, hq.2⟩
   obtain ⟨dst, op, ty, ps, af, gd⟩ := o
   have hd : ∃ d, dst = some d := by
    simp only [Za0, Yd] at hq
    exact Y2.1 hq.1.1
   obtain ⟨d, rfl⟩ := hd
   simp only at hc hf hg
   have hp : pV P T l r τ op none a (Zqd n d (fun τ' a' => Zjr P T l n r ds rest (Ze3 env (some d)) a' K τ') τ) := by
    have hq1 := hq.1
    have h := ZKz hq1 (ZKh hq1 h)
    unfold Zyt at h
    simp only at h
    have h : ZCc P T l n r ⟨some d, op, ty, ps, af, none⟩ a (fun τ' a' => Zjr P T l n r ds rest (Ze3 env (some d)) a' K τ') τ := by
     subst hg
     split at h
     ·split at h
      ·rename_i hcal; simp [Za0, hcal] at hq1
      ·grind
      ·exact h
     ·exact h
    unfold ZCc at h
    simp only at h
    split at h
    ·simp [Za0] at hq1
    ·simp [Za0] at hq1
    ·grind
    ·simp [Za0] at hq1
    ·simp [Za0] at hq1
    ·split at h
     ·rename_i hcal; simp [Za0, hcal] at hq1
     ·exact h
    ·exact h
   have hex : ∃ v a', Zqd n d (fun τ' a' => Zjr P T l n r ds rest (Ze3 env (some d)) a' K τ') τ v a' := ZDg hp
   have hdn : d < n := by
    obtain ⟨v, a', h1⟩ := hex
    unfold Zqd at h1
    split at h1
    ·rename_i hd; have hd := Yh hd; exact hd
    grind
   have := Zx6 (ty := ty) (ps := ps) (af := af) (gd := gd) hT hG Zak (fun b e => by cases e) hc hdn hp
   refine ZgE (fun σ' hY => ?_) this
   obtain ⟨v, a', rfl, h1⟩ := hY
   unfold Zqd at h1
   split at h1
   ·exact Zhb hr hT rest _ _ _ _ hq.2 h1 (hG.put0 hf rfl)
   grind
  ·rename_i i b hg
   have hq0 : Za0 o = true := by
    have := hq.1
    rw [YI] at this
    rcases this with h | h
    ·exact h
    ·exfalso
     obtain ⟨dst, op, ty, ps, af, gd⟩ := o
     simp only at hg
     subst hg
     cases op <;> cases dst <;> simp [stB] at h
   simp only [hg]
   split at h
   case h_2 => exact h.elim
   rename_i d e hd he
   split at h
   case h_2 => exact h.elim
   rename_i g hch hx hfr hen
   simp only [Yd] at hfr
   have hen := Yh hen
   rw [Zk8 hG hd hch]
   refine ⟨fun hgt => ?_, fun hgf => ?_⟩
   ·subst hgt
    have hs := (Zdo hch).1 rfl
    obtain ⟨dst, op, ty, ps, af, gd⟩ := o
    simp only at he
    subst he
    refine ZgE (fun σ' hY => ?_) (Zx6 (ty := ty) (ps := ps) (af := af) (gd := gd) hT hG hs (fun b' e' => by cases e'; rfl) hx (by omega) h)
    obtain ⟨v, a', rfl, h1⟩ := hY
    exact Zhb hr hT rest _ _ _ _ hq.2 h1 (hG.put hfr.1 hfr.2 (fun _ => rfl) (fun hn => absurd hs hn))
   ·subst hgf
    have hs : ¬ Zis τ.s ((d, b) :: lk env d) := fun hs => by have := (Zdo hch).2 hs; cases this
    obtain ⟨v, a', h1⟩ := ZDg h
    rw [he]
    exact ⟨hen, Zhb hr hT rest _ _ _ _ hq.2 h1 (hG.put hfr.1 hfr.2 (y := .tup []) (fun h => absurd h hs) (fun _ => rfl))⟩
end
def lkS : List (Nat × AV) → Nat → AV
 | [], _ => .top
 | (i, x) :: r, j => match Nat.beq i j with | true => x | false => lkS r j
def Zqg : Blk := ⟨0, false, 0, 0, []⟩
def lkH : List (Key × Blk) → Key → Blk
 | [], _ => Zqg
 | (k, b) :: r, q => match Zfk k q with | true => b | false => lkH r q
def mkS (ss : List (Nat × AV)) (hs : List (Key × Blk)) : St := ⟨lkS ss, lkH hs⟩
mutual
def nzO (H : Hp) : AV → Option AV
 | .ref k g off n => match Zcs H k g with | true => some (.ref k 0 off n) | false => none
 | .ptr k g off => match Zcs H k g with | true => some (.ptr k 0 off) | false => none
 | .mp k g => match Zcs H k g with | true => some (.mp k 0) | false => none
 | .fn f xs ys => match ZvA H xs, ZvA H ys with | some xs, some ys => some (.fn f xs ys) | _, _ => none
 | .agg xs => match ZvA H xs with | some xs => some (.agg xs) | none => none
 | .tup xs => match ZvA H xs with | some xs => some (.tup xs) | none => none
 | .top => some .top
 | .d x => some (.d x)
 | .e0 => some .e0
 | .p x => some (.p x)
 | .iptr cs off => some (.iptr cs off)
def ZvA (H : Hp) : List AV → Option (List AV)
 | [] => some []
 | x :: xs => match nzO H x, ZvA H xs with | some x, some xs => some (x :: xs) | _, _ => none
end
def nzX (H : Hp) (x : AV) : AV := match nzO H x with | some v => v | none => .top
def ZfX (H : Hp) (s : Nat → AV) : List Nat → List (Nat × AV)
 | [] => []
 | j :: r => (j, nzX H (s j)) :: ZfX H s r
def ZhQ (cs : List AV) : Prop := ∀ x ∈ cs, x.flat = true
def Zir (H : Hp) : List (Key × Bool) → (List (Key × Blk) → Prop) → Prop
 | [], K => K []
 | (k, fl) :: r, K => match (H k).live with
  | false => Zir H r K
  | true => match fl with
   | true => ZhQ (H k).cells ∧ Zir H r (fun bs => K ((k, ⟨0, true, (H k).e, (H k).sz, (H k).cells⟩) :: bs))
   | false => match ZvA H (H k).cells with
    | some cs => Zir H r (fun bs => K ((k, ⟨0, true, (H k).e, (H k).sz, cs⟩) :: bs))
    | none => False
def ZLT : AV → Bool
 | .e0 => true
 | _ => false
def Zjy : List (Nat × Nat × TypeId × Nat) → St → (St → Prop) → Prop
 | [], τ, K => K τ
 | (j, d, e, sz) :: r, τ, K => match ZLT (τ.s j), (τ.H (1, d)).live with
  | true, false => Zjy r ⟨upd τ.s j (.ref (1, d) ((τ.H (1, d)).g + 1) 0 0), updH τ.H (1, d) ⟨(τ.H (1, d)).g + 1, true, e, sz, []⟩⟩ K
  | true, true => False
  | false, _ => Zjy r τ K
structure Lf where
 ls : List Nat
 ks : List (Key × Bool) := []
 ad : List (Nat × Nat × TypeId × Nat) := []
 ze : List Nat := []
def zeT : List Nat → St → St
 | [], τ => τ
 | j :: r, τ => match ZLT (τ.s j) with | true => zeT r ⟨upd τ.s j (.d (.list [])), τ.H⟩ | false => zeT r τ
def gz (H : Hp) : List Nat → Bool
 | [] => true
 | i :: r => Nat.beq (H (0, i)).g 0 && gz H r
def Zf5 (fx : List Nat) (f : Lf) (τ : St) (Φ : St → Prop) : Prop := Zjy f.ad (zeT f.ze τ) (fun τ => match gz τ.H fx with | true => Zir τ.H f.ks (fun hs => Φ (mkS (ZfX τ.H τ.s f.ls) hs)) | false => False)
structure Cx where
 l : Nat
 B : Base
 κ : Key → Key
 θ : Nat → AV
 H0 : Hp
 outs : Nat
 no : Key → Prop
 fx : List Nat
 G : (Key → Nat) → Prop
def Cx.r (C : Cx) (γ : Key → Nat) : Ren := ⟨C.κ, γ, C.θ, C.H0, C.no⟩
structure CxOk (C : Cx) : Prop where
 own : ∀ d, C.κ (1, d) = (C.l + 1, d)
 out : ∀ i, i < C.outs → (C.κ (0, i)).1 ≤ C.l
 inj : ∀ i j, i < C.outs → j < C.outs → C.κ (0, i) = C.κ (0, j) → i = j
 no : ∀ k, C.no k → ∃ i, i < C.outs ∧ C.κ (0, i) = k
 G : ∀ γ γ' : Key → Nat, (∀ i ∈ C.fx, γ' (0, i) = γ (0, i)) → C.G γ → C.G γ'
theorem CxOk.ren {C : Cx} (h : CxOk C) (γ : Key → Nat) : RenOk (C.r γ) C.l C.outs := ⟨h.own, h.out, h.inj, h.no⟩
def Wk (n : Nat) (C : Cx) (σ σ' : St) : Prop := ∀ act w, R C.l n C.B σ act w → R C.l n C.B σ' act w
def Is (n : Nat) (C : Cx) (Φ : St → Prop) (σ : St) : Prop := ∃ γ τ σ', C.G γ ∧ Φ τ ∧ RG (C.r γ) C.l C.outs [] τ σ' ∧ Wk n C σ σ'
def LW (P : Program) (n : Nat) (C : Cx) (c : Code) (τ : St) (Q : Exit → St → Prop) : Prop :=
 ∀ γ σ, C.G γ → RG (C.r γ) C.l C.outs [] τ σ → AWp P C.l n C.B c (fun e σ' => Is n C (Q e) σ') σ
def Zxn (P : Program) (l n : Nat) (B : Base) (c : Code) (Q : Exit → St → Prop) (σ : St) : Prop :=
 ∀ a w, R l n B σ a w → ∀ (b : Frame) (k : List Item) (cs : List Frame), ∃ e a' w', (∃ σ', Q e σ' ∧ R l n B σ' a' w') ∧ Arrives P (lone (b.at a (.code c :: .inLoop c :: k)) cs w) b k cs e a' w'
def LL (P : Program) (n : Nat) (C : Cx) (c : Code) (τ : St) (Q : Exit → St → Prop) : Prop :=
 ∀ γ σ, C.G γ → RG (C.r γ) C.l C.outs [] τ σ → Zxn P C.l n C.B c (fun e σ' => Is n C (Q e) σ') σ
def Zls (env : Env) (τ : St) : St := ⟨fun j => match lk env j with | [] => τ.s j | _ => .top, τ.H⟩
def FzR (C : List AV) (off n sz : Nat) (es : List (List D)) : Prop := es.length = n ∧ sz ≠ 0 ∧ (∀ e ∈ es, e.length = sz) ∧ (off + n) * sz ≤ C.length ∧ (C.drop (off * sz)).take (n * sz) = es.flatten.map .d
def jsP (H : Hp) (d : Nat) (s : Nat → AV) (A : Prop) : List (Nat × List (List D)) → Prop
 | [] => A
 | (j, es) :: r => match s j with
  | .ref k q off m => (match Zfk k (1, d), Zcs H k q with | true, true => FzR (H (1, d)).cells off m (H (1, d)).sz es ∧ jsP H d s A r | _, _ => False)
  | _ => False
def csP (H : Hp) (d : Nat) (A : Prop) : List (Key × Nat × List (List D)) → Prop
 | [] => A
 | (k, i, es) :: r => match Nat.beq k.1 1, Zfk k (1, d), (H k).live, nth (H k).cells i with
  | true, false, true, some (.ref k' q off m) => (match Zfk k' (1, d), Zcs H k' q with | true, true => FzR (H (1, d)).cells off m (H (1, d)).sz es ∧ csP H d A r | _, _ => False)
  | _, _, _, _ => False
def trK (r : Ren) (k : Key) (A : Prop) : Prop :=
 match Nat.beq k.1 1 with
 | true => A
 | false => WrS r k ∧ A
def mpB (H : Hp) (d : Nat) (s : Nat → AV) : List Nat → Bool
 | [] => true
 | j :: r => match s j with
  | .mp k g => Zfk k (1, d) && Zcs H k g && mpB H d s r
  | _ => false
def ptB (H : Hp) (d : Nat) (s : Nat → AV) : List Nat → Bool
 | [] => true
 | j :: r => match s j with
  | .ptr k g 0 => Zfk k (1, d) && Zcs H k g && ptB H d s r
  | _ => false
def Zd1 (r : Ren) (os : Nat) : AT → St → (St → AT → Prop) → Prop
 | .frz d js cs b, τ, K => match (τ.H (1, d)).live, Nat.ble 1 (τ.H (1, d)).sz with
  | true, true => jsP τ.H d τ.s (csP τ.H d (Zd1 r os b ⟨Zzc js τ.s, ZwI cs (updH τ.H (1, d) ⟨(τ.H (1, d)).g, false, (τ.H (1, d)).e, (τ.H (1, d)).sz, (τ.H (1, d)).cells⟩)⟩ K) cs) js
  | _, _ => False
 | .adc k i d e sz b, τ, K => match Nat.beq k.1 1, Zfk k (1, d), (τ.H k).live, nth (τ.H k).cells i with
  | true, false, true, some .e0 => Zd1 r os b ⟨τ.s, updH (updH τ.H (1, d) ⟨(τ.H (1, d)).g + 1, true, e, sz, []⟩) k ⟨(τ.H k).g, true, (τ.H k).e, (τ.H k).sz, (τ.H k).cells.set i (.ref (1, d) ((τ.H (1, d)).g + 1) 0 0)⟩⟩ K
  | _, _, _, _ => False
 | .sep b, τ, K => K τ b
 | .ads j d e sz b, τ, K => match ZLT (τ.s j) with
  | true => Zd1 r os b ⟨upd τ.s j (.ref (1, d) ((τ.H (1, d)).g + 1) 0 0), updH τ.H (1, d) ⟨(τ.H (1, d)).g + 1, true, e, sz, []⟩⟩ K
  | false => False
 | .trim k c b, τ, K => match (τ.H k).live with
  | true => (∃ m, (τ.H k).cells.take m = c) ∧ trK r k (Zd1 r os b ⟨τ.s, updH τ.H k ⟨(τ.H k).g, true, (τ.H k).e, (τ.H k).sz, c⟩⟩ K)
  | false => False
 | .reb j d m c b, τ, K => match τ.s j with
  | .ref k q off n => (match Zfk k (1, d), Zcs τ.H k q with
   | true, true => (n = m ∧ off * (τ.H k).sz ≤ (τ.H k).cells.length ∧ (τ.H k).cells.drop (off * (τ.H k).sz) = c) ∧ Zd1 r os b ⟨upd τ.s j (.ref k (q + 1) 0 m), updH τ.H k ⟨q + 1, true, .t (τ.H k).e.ty, (τ.H k).sz, c⟩⟩ K
   | _, _ => False)
  | _ => False
 | .mv d j b, τ, K => match (τ.H (1, d)).live with
  | true => ZgW (τ.H (1, d)).cells ∧ (j < os ∧ r.no (r.κ (0, j))) ∧ Zd1 r os b ⟨fun i => mvA (1, d) (0, j) (τ.H (1, d)).g ((τ.H (0, j)).g + 1) (τ.s i),
    updH (updH τ.H (1, d) ⟨(τ.H (1, d)).g, false, (τ.H (1, d)).e, (τ.H (1, d)).sz, (τ.H (1, d)).cells⟩) (0, j) ⟨(τ.H (0, j)).g + 1, true, (τ.H (1, d)).e, (τ.H (1, d)).sz, (τ.H (1, d)).cells⟩⟩ K
  | false => False
 | .fzm d js b, τ, K => match (τ.H (1, d)).live, (τ.H (1, d)).e, mpB τ.H d τ.s js with
  | true, .m q es, true => Zd1 r os b ⟨Zou (.d (.map q es)) js τ.s, updH τ.H (1, d) ⟨(τ.H (1, d)).g, false, (τ.H (1, d)).e, (τ.H (1, d)).sz, (τ.H (1, d)).cells⟩⟩ K
  | _, _, _ => False
 | .fzb d js b, τ, K => match (τ.H (1, d)).live, ZL2 (τ.H (1, d)).cells, ptB τ.H d τ.s js with
  | true, some (x :: ds), true => Zd1 r os b ⟨Zou (.iptr (x :: ds) 0) js τ.s, updH τ.H (1, d) ⟨(τ.H (1, d)).g, false, (τ.H (1, d)).e, (τ.H (1, d)).sz, (τ.H (1, d)).cells⟩⟩ K
  | _, _, _ => False
 | a, τ, K => K τ a
def Zdu (P : Program) (T : Nat → Option TI) (l n os : Nat) (r : Ren) : Code → AT → St → (Exit → St → AT → Prop) → Prop
 | .skip, a, τ, K => K .normal τ a
 | .ret, a, τ, K => Zd1 r os a τ (fun τ a => K .ret τ a)
 | .exit id, a, τ, K => K (.exit id) τ a
 | .seq x y, a, τ, K => Zdu P T l n os r x a τ (fun e τ' a' => match e with | .normal => Zdu P T l n os r y a' τ' K | e => K e τ' a')
 | .block id c, a, τ, K => Zdu P T l n os r c a τ (fun e τ' a' => match e with | .exit i => (match Nat.beq i id with | true => K .normal τ' a' | false => K (.exit i) τ' a') | e => K e τ' a')
 | .cond c x y, a, τ, K => match ev τ.s c, a with
  | .d (.bool b), .br a1 a2 => (b = true → Zdu P T l n os r x a1 τ K) ∧ (b = false → Zdu P T l n os r y a2 τ K)
  | .d (.bool b), .go a => (match b with | true => Zdu P T l n os r x a τ K | false => Zdu P T l n os r y a τ K)
  | _, _ => False
 | .region _ ops draw, a, τ, K => match draw with
  | false => Zd1 r os a τ (fun τ a => Zjr P T l n r (ops.toList.map (·.dst)) ops.toList [] a (fun τ' env a' => K .normal (Zls env τ') a') τ)
  | true => match ZBB ops.toList && ops.toList.all (fun o => Za0 o || stB o) && okS ops.toList 0 ops.toList with
   | true => Zd1 r os a τ (fun τ a => Zjr P T l n r (ops.toList.map (·.dst)) ops.toList [] a (fun τ' env a' => K .normal (Zls env τ') a') τ)
   | false => False
 | _, _, _, _ => False
mutual
def frz (H : Hp) : AV → AT → (AV → AT → Prop) → Prop
 | .d x, a, K => K (.d x) a
 | .e0, a, K => K (.d (.list [])) a
 | .agg xs, a, K => ZyP H xs a (fun ys a' => K (.agg ys) a')
 | .ref k g off n, a, K => match Nat.beq k.1 0, Nat.beq k.1 1, Zcs H k g with
  | true, _, true => K (.ref k g off n) a
  | false, true, true => (match a with | .av (.d (.list es)) a' => FzR (H k).cells off n (H k).sz es ∧ K (.d (.list es)) a' | _ => False)
  | _, _, _ => False
 | .mp k g, a, K => match Nat.beq k.1 0, Nat.beq k.1 1, Zcs H k g, (H k).e with
  | true, _, true, _ => K (.mp k g) a
  | false, true, true, .m q es => K (.d (.map q es)) a
  | _, _, _, _ => False
 | _, _, _ => False
def ZyP (H : Hp) : List AV → AT → (List AV → AT → Prop) → Prop
 | [], a, K => K [] a
 | x :: xs, a, K => frz H x a (fun y a' => ZyP H xs a' (fun ys a'' => K (y :: ys) a''))
end
def ldR (T : Nat → Option TI) (τ : St) : ResultVar → (AV → Prop) → Prop
 | .tmp t, K => K (τ.s t)
 | .cell p t, K => match τ.s p, T t with
  | .ptr k g off, some i => (match Zcs τ.H k g, i.agg with
   | true, true => (match Nat.ble 1 i.siz, ZjM i.siz ((τ.H k).cells.drop off) with | true, some c => K (.agg c) | _, _ => False)
   | true, false => (match nth (τ.H k).cells off with | some c => K c | none => False)
   | false, _ => False)
  | _, _ => False
def ZMy (T : Nat → Option TI) (τ : St) : List ResultVar → (List AV → Prop) → Prop
 | [], K => K []
 | v :: vs, K => ldR T τ v (fun x => ZMy T τ vs (fun xs => K (x :: xs)))
def Zkk (H : Hp) : Nat → Nat → List Blk
 | 0, _ => []
 | n + 1, i => H (0, i) :: Zkk H n (i + 1)
def ZIG (T : Nat → Option TI) (rs : List ResultVar) (os : Nat) (τ : St) (a : AT) (Post : AV → List Blk → Prop) : Prop :=
 ZMy T τ rs (fun xs => ZyP τ.H xs a (fun ys _ => Post (Zkh ys) (Zkk τ.H os 0)))
def FQ (T : Nat → Option TI) (rs : List ResultVar) (os : Nat) (Post : AV → List Blk → Prop) (e : Exit) (τ : St) : Prop := (e = .normal ∨ e = .ret) ∧ ∃ a, ZIG T rs os τ a Post
end Go.Eng
