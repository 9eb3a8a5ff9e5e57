import Derived.Test.YthhipejbnbochaaCt07
import Derived.Test.YthhipejbnbochaaCt04
import Derived.Test.YthhipejbnbochaaCt00
namespace Go.Eng
set_option linter.all false
open Go Go.RowKit
def KA (r : Ren) (l n outs : Nat) (B : Base) (env : Env) (K : St → AT → Prop) (σ : St) : Prop := ∃ σ', ZhV r l outs env K σ' ∧ ∀ act w, R l n B σ act w → R l n B σ' act w
section
variable {P : Program} {T : Nat → Option TI} {r : Ren} {l n outs : Nat} {B : Base} {env : Env} {τ σ : St} {a : AT} {o : Oper} {K : St → AT → Prop}
theorem KA.of (h : ZhV r l outs env K σ) : KA r l n outs B env K σ := ⟨σ, h, fun _ _ h => h⟩
theorem Ze5 {d : Nat} {e : TypeId} {sz : Nat} {cells : List AV} {x : Nat → AV} (h : ZhN l n d e sz cells x (ZhV r l outs env K) σ) : ZhN l n d e sz cells x (KA r l n outs B env K) σ := ⟨h.1, .of h.2⟩
theorem ZlM (hT : TOk P T) (h : RG r l outs env τ σ) {d : Nat} (hd : o.dst = some d) (hc : ZbC env [] o.op = true) (hf : fresh d env = true) (hp : tV T τ.H o.op (ev τ.s) none a (ZjH n d K τ))
  (hro : rOp P l n o (KA r l n outs B ((d, []) :: env) K) σ = vOp P σ.H o.op (ev σ.s) (Zfe n o.dst (KA r l n outs B ((d, []) :: env) K) σ)) : rOp P l n o (KA r l n outs B ((d, []) :: env) K) σ := by
 rw [hro, hd]
 refine ZfV (fun y hy => ?_) (Zqd hT h Zag (fun b e => by cases e) hc hp)
 obtain ⟨h1, h2⟩ := Zeq h hf hy
 exact ⟨h1, .of h2⟩
theorem ZeC {x : AV} {d : D} (h : Zdf x = some d) : ren r x = x := by
 cases x <;> simp only [Zdf] at h <;> first | (simp [ren]; done) | cases h
theorem ZeA : ∀ {xs : List AV} {ds : List D}, Zch xs = some ds → Zak r xs = xs
 | [], _, _ => by simp [Zak]
 | x :: xs, ds, h => by
  simp only [Zch] at h
  split at h
  ·rename_i d ds' h1 h2
   rw [Zak, ZeC h1, ZeA h2]
  ·cases h
theorem Zss {x : AV} {e : List D} (h : elD x = some e) : ren r x = x := by
 cases x with
 | agg xs => simp only [elD] at h; rw [ren, ZeA h]
 | _ =>
  simp only [elD] at h
  split at h
  ·rename_i d hd; exact ZeC hd
  ·cases h
theorem Zem {sz : Nat} : ∀ {ps : List (Nat × AV)} {i : Nat} {es : List (List D)}, ZkP sz i ps = some es → (ps.map fun p => (p.1, ren r p.2)) = ps
 | [], _, _, _ => rfl
 | (j, v) :: ps, i, es, h => by
  simp only [ZkP] at h
  split at h
  ·rename_i e es' h1 h2
   simp only [YR, Zss h1, Zem h2]
  ·cases h
theorem ZhE (h : RG r l outs env τ σ) {sz c : Nat} {y : AV} {news : List AV} (ho : Zpy τ.H sz y = true) (hs : ZhK sz (cellsOf τ.H y) y c news) : Zqu σ.H sz (ren r y) = some (c, Zak r news) ∧ (Zak r news).all AV.one = true := by
 obtain ⟨h1, h2⟩ := hs
 have hone : (Zak r news).all AV.one = true := by
  rw [ZbO, List.all_map]
  refine Ym.2 fun x hx => ?_
  have := Ym.1 h1 x hx
  cases x <;> first | (simp [Function.comp, ren, AV.one]; done) | cases this
 refine ⟨?_, hone⟩
 split at h2
 ·obtain ⟨rfl, rfl⟩ := h2; simp [ren, Zqu, Zak]
 ·rename_i es
  obtain ⟨h3, rfl, rfl⟩ := h2
  simp only [ren, Zqu]
  rw [if_pos (Ym.2 fun e he => by simpa using h3 e he), ZfC]
 ·rename_i k g off m
  obtain ⟨rfl, h3, rfl⟩ := h2
  simp only [Zpy, Yd] at ho
  obtain ⟨hl, hz⟩ := ho
  obtain ⟨g1, g2, g3, g4, g5⟩ := h.h.at hl
  have e : cellsOf τ.H (.ref k g off c) = (τ.H k).cells := by simp [cellsOf, hl]
  rw [e] at h3 ⊢
  simp only [ren, Zqu]
  rw [if_pos ⟨g1, g2, by rw [g4]; exact Ya hz, by rw [g5, Zaz]; exact h3⟩, g5, ZaX, Za6]
 ·exact h2.elim
theorem Znx (hr : RenOk r l outs) (hT : TOk P T) (h : RG r l outs env τ σ) {d : Nat} {t : TypeId} {x y : AV} (hf : fresh d env = true) (hp : ZxK T r n d t x y a K τ) :
  Zub P l n d t (ren r x) (ren r y) (KA r l n outs B ((d, []) :: env) K) σ := by
 unfold ZxK at hp
 split at hp
 case h_2 => exact hp.elim
 rename_i i hi
 split at hp
 case h_2 => exact hp.elim
 rename_i e sz he
 split at hp
 case h_2 => exact hp.elim
 rename_i j hj hsz hsrc
 have hsz := Yf hsz
 unfold Zub
 rw [(hT _ _ hi).elm _ he]
 split at hp
 ·rename_i byt z c news q hb hz
  obtain ⟨h1, h2, h3⟩ := hp
  obtain ⟨e1, e2⟩ := ZhE h hsrc h1
  obtain ⟨b1, b2⟩ := (hT _ _ hj).byt _ hb
  have hlim : c * P.bytesOf e ≤ 140737488355328 := Y0 (Nat.mul_le_mul_left _ b1) h2
  refine ⟨by omega, b2, by rw [(hT _ _ hj).zer _ hz]; rfl, ?_⟩
  simp only [e1, ren]
  refine ⟨e2, hlim, fun hc => ?_, fun hc => ?_⟩
  ·subst hc
   have hd : d < n := by
    unfold Zqs at h3
    split at h3
    ·rename_i hd; have := Yf hd; omega
    ·exact h3.elim
   have hn := Zcu (x' := fun g => .ref (l + 1, d) g 0 0) hr h hf (fun g => by simp [ren, hr.own]) h3
   have hnil : Zak r news = [] := by
    have hl : news = [] := by
     obtain ⟨_, h1⟩ := h1
     split at h1
     ·exact h1.2
     ·obtain ⟨_, h4, h5⟩ := h1
      have : ‹List (List D)› = [] := YD h4.symm
      rw [this] at h5; simpa using h5
     ·obtain ⟨h4, _, h5⟩ := h1; rw [← h4] at h5; simpa using h5
     ·exact h1.elim
    rw [hl]; simp [Zak]
   rw [hnil] at hn
   refine ⟨hd, _, hn.2, fun act w hR => ?_⟩
   have := R.adopt (e := e) (sz := sz) hR (l + 1, d) rfl ((σ.H (l + 1, d)).g + 1) (Y1 _) (d := d) (by simp [upd])
   have e3 : upd (upd σ.s d .e0) d (.ref (l + 1, d) ((σ.H (l + 1, d)).g + 1) 0 0) = upd σ.s d (.ref (l + 1, d) ((σ.H (l + 1, d)).g + 1) 0 0) := by funext j; unfold upd; split <;> rfl
   simp only [e3] at this
   exact this
  ·exact Ze5 (Zcu (x' := fun g => .ref (l + 1, d) g 0 c) hr h hf (fun g => by simp [ren, hr.own]) h3)
 ·rename_i byt z k q off c' c news C' n' q' hb hz
  split at hp
  case h_2 => exact hp.elim
  rename_i hl hs2 he2 hd
  obtain ⟨h1, ⟨h2, h3, h4, h5⟩, h6⟩ := hp
  obtain ⟨h6, hko, hlow⟩ := ZfF hr h (ZaV hl).2 h6
  obtain ⟨e1, e2⟩ := ZhE h hsrc h1
  obtain ⟨b1, b2⟩ := (hT _ _ hj).byt _ hb
  obtain ⟨g1, g2, g3, g4, g5⟩ := h.h.at hl
  have hd := Yf hd
  have hs2 := Ya hs2
  have he2 := Zsp he2
  refine ⟨by omega, b2, by rw [(hT _ _ hj).zer _ hz]; rfl, ?_⟩
  simp only [e1, ren]
  refine ⟨e2, g1, g2, by rw [g4, hs2], by rw [g3, he2], by rw [g5, Zaz]; exact h2, by rw [h4]; exact Y0 (Nat.mul_le_mul_left _ b1) h5, hlow, by omega, .of ⟨_, _, h6, ?_⟩⟩
  have h7 := h.put0 (v := .ref k (q + 1) 0 n') (y := .ref (r.κ k) (r.γ k + q + 1) 0 (c' + c)) hf (by simp [ren, h4, Yw])
  have h8 := RG.updH hr h7 k ⟨q + 1, true, e, sz, C'⟩ rfl hko
  have e3 : ZaL r k ⟨q + 1, true, e, sz, C'⟩ = ⟨r.γ k + q + 1, true, e, sz, (σ.H (r.κ k)).cells.drop (off * sz) ++ Zak r news⟩ := by
   simp only [ZaL, g5, ZaX, ← ZbJ, h3, Yw]
  rw [e3] at h8
  exact h8
 ·exact hp.elim
theorem Ze2 (hr : RenOk r l outs) (h : RG r l outs env τ σ) {t : TypeId} {i : TI} (hi : TIok P t i) {x : AV} {vs : List AV} (hp : Zhq r n i x (some vs) a K τ) :
  ∃ k g off, ren r x = .ptr k g off ∧ g = (σ.H k).g ∧ (σ.H k).live = true ∧ (Zak r vs).length = P.cellsOf t ∧ Zak r vs ≠ [] ∧ off + (Zak r vs).length ≤ (σ.H k).cells.length ∧ (k.1 = l + 1 ∨ (Zak r vs).all (AV.low k.1) = true) ∧
   ZhV r l outs env K ⟨σ.s, updH σ.H k { σ.H k with cells := (σ.H k).cells.take off ++ Zak r vs ++ (σ.H k).cells.drop (off + (Zak r vs).length) }⟩ := by
 unfold Zhq at hp
 split at hp
 case h_2 => exact hp.elim
 rename_i k q off vs' heq
 cases heq
 split at hp
 case h_2 => exact hp.elim
 rename_i hl hv1 hv2
 have hv1 := Ya hv1
 have hv2 := Yf hv2
 obtain ⟨g1, g2, g3, g4, g5⟩ := h.h.at hl
 obtain ⟨q1, q2⟩ := ZaV hl
 have fin : ∀ C' r', StS (τ.H k).cells off vs C' → wrK r k vs (K ⟨τ.s, updH τ.H k ⟨q, true, (τ.H k).e, (τ.H k).sz, C'⟩⟩ r') → _ := fun C' r' hs hK => by
  obtain ⟨s1, s2⟩ := hs
  obtain ⟨hK, hko, hlow⟩ := ZfF hr h (ZaV hl).2 hK
  refine (⟨r.κ k, r.γ k + q, off, by simp [ren], g1, g2, by rw [Zaz, hi.siz, hv1], by intro e; have := congrArg List.length e; rw [Zaz, YaC] at this; omega, by rw [g5, Zaz, Zaz]; exact s1, ?_, _, _, hK, ?_⟩ :
   ∃ k' g off', ren r (.ptr k q off) = .ptr k' g off' ∧ g = (σ.H k').g ∧ (σ.H k').live = true ∧ (Zak r vs).length = P.cellsOf t ∧ Zak r vs ≠ [] ∧ off' + (Zak r vs).length ≤ (σ.H k').cells.length ∧ (k'.1 = l + 1 ∨ (Zak r vs).all (AV.low k'.1) = true) ∧
   ZhV r l outs env K ⟨σ.s, updH σ.H k' { σ.H k' with cells := (σ.H k').cells.take off' ++ Zak r vs ++ (σ.H k').cells.drop (off' + (Zak r vs).length) }⟩)
  ·exact hlow
  ·have h8 := RG.updH hr h k ⟨q, true, (τ.H k).e, (τ.H k).sz, C'⟩ rfl hko
   have e3 : ZaL r k ⟨q, true, (τ.H k).e, (τ.H k).sz, C'⟩ = { σ.H (r.κ k) with cells := (σ.H (r.κ k)).cells.take off ++ Zak r vs ++ (σ.H (r.κ k)).cells.drop (off + (Zak r vs).length) } := by
    simp only [ZaL, g5, Zaz, Za6, ZaX, ← ZbJ, s2, g1, g3, g4, ← g2]
   rw [e3] at h8
   exact h8
 split at hp
 ·split at hp
  ·rename_i hb; exact fin _ _ ⟨Yf hb, rfl⟩ hp
  ·exact hp.elim
 ·exact fin _ _ hp.1 hp.2
 ·exact hp.elim
theorem Zjf (hr : RenOk r l outs) (hT : TOk P T) (h : RG r l outs env τ σ) (hc : ZbC env [] o.op = true) (hf : ZcH env o.dst = true) (hp : ZsL P T l n r o a K τ) : rOp P l n o (KA r l n outs B (ZcK env o.dst) K) σ := by
 obtain ⟨dst, op, ty, ps, af, gd⟩ := o
 have ops : ∀ {op : Op}, ZbC env [] op = true → (∀ c x y, op ≠ .pick c x y) → ∀ x ∈ op.operands, ev σ.s x = ren r (ev τ.s x) := fun {op} hc hne => by
  unfold ZbC at hc
  split at hc
  ·exact absurd rfl (hne _ _ _)
  ·exact ZbY h Zag hc
 unfold ZsL at hp
 simp only at hc hf hp ⊢
 split at hp
 ·rename_i t
  split at hp
  case h_2 => exact hp.elim
  rename_i d i hi
  split at hp
  case h_2 => exact hp.elim
  rename_i z zs hz
  have hfl := ZbW (r := r) ((hT _ _ hi).flt _ hz)
  have hn := Zcu (x' := fun g => .ptr (l + 1, d) g 0) hr h hf (fun g => by simp [ren, hr.own]) hp
  rw [hfl] at hn
  simp only [rOp, (hT _ _ hi).zer _ hz]
  exact ⟨by simp, Ze5 hn⟩
 ·rename_i t x
  split at hp
  case h_2 => exact hp.elim
  rename_i d z zs hz hnf
  have hx := ops hc (fun _ _ _ e => by cases e) x (by simp [Op.operands])
  have hn := Zcu (x' := fun g => .ptr (l + 1, d) g 0) hr h hf (fun g => by simp [ren, hr.own]) hp
  have hz' := ZbZ (r := r) hz (Zfb hnf)
  simp only [rOp, hx, hz']
  refine ⟨ZoX (by simp), ?_⟩
  rw [Zaz]
  exact Ze5 hn
 ·rename_i t p x
  split at hp
  case h_2 => exact hp.elim
  rename_i i hi hnf
  have hx := ops hc (fun _ _ _ e => by cases e) x (by simp [Op.operands])
  have hpp := ops hc (fun _ _ _ e => by cases e) p (by simp [Op.operands])
  cases hz : ZaW (ev τ.s x) with
  | none => rw [hz] at hp; unfold Zhq at hp; split at hp <;> first | exact hp.elim | (rename_i e; cases e)
  | some vs =>
   rw [hz] at hp
   have hz' := ZbZ (r := r) hz (Zfb hnf)
   obtain ⟨k, g, off, e1, e2, e3, e4, e5, e6, e7, e8⟩ := Ze2 hr h (hT _ _ hi) hp
   simp only [rOp, hpp, hx, hz', e1]
   exact ⟨e2, e3, e4, e5, e6, e7, .of e8⟩
 ·rename_i t len parts
  split at hp
  case h_2 => exact hp.elim
  rename_i d i hi
  split at hp
  case h_2 => exact hp.elim
  rename_i e sz he
  simp only [rOp, (hT _ _ hi).elm _ he]
  split at hp
  ·rename_i hsz
   have hsz := Yf hsz
   refine ⟨by omega, ?_⟩
   split at hp
   ·rename_i hps
    obtain ⟨h1, h2⟩ := Zeq h hf (y := .e0) ⟨.e0, a, by simp [ren], hp⟩
    exact ⟨by rw [← Y5, hps]; rfl, h1, .of h2⟩
   ·exact hp.elim
  ·rename_i len' hsz
   have hsz := Yf hsz
   refine ⟨by omega, ?_⟩
   split at hp
   case h_2 => exact hp.elim
   rename_i j hj hlim
   split at hp
   case h_2 => exact hp.elim
   rename_i z hz
   split at hp
   case h_2 => exact hp.elim
   rename_i es hzl hlit
   split at hp
   case h_2 => exact hp.elim
   rename_i hes
   have e1 : (parts.toList.map fun p => (p.1, ev σ.s p.2)) = parts.toList.map fun p => (p.1, ev τ.s p.2) := by
    have : (parts.toList.map fun p => (p.1, ev σ.s p.2)) = (parts.toList.map fun p => (p.1, ev τ.s p.2)).map fun p => (p.1, ren r p.2) := by
     rw [Yap]
     refine YV fun p hp => ?_
     simp only [Function.comp]
     rw [ops hc (fun _ _ _ e => by cases e) p.2 (by simp only [Op.operands, YaJ, Yq]; exact ⟨p, hp, rfl⟩)]
    rw [this, Zem hlit]
   rw [e1]
   simp only [(hT _ _ hj).zer _ hz, hlit]
   obtain ⟨h1, h2⟩ := Zeq h hf (y := .d (.list es)) ⟨.d (.list es), a, by simp [ren], hp⟩
   exact ⟨Yf hlim, Ya hzl, Ya hes, h1, .of h2⟩
  ·exact hp.elim
 ·rename_i t x y
  split at hp
  case h_2 => exact hp.elim
  rename_i d i k1 c k2 c' m C b hi hx0 hy0
  have hx := ops hc (fun _ _ _ e => by cases e) x (by simp [Op.operands])
  have hy := ops hc (fun _ _ _ e => by cases e) y (by simp [Op.operands])
  rw [hx0] at hx
  rw [hy0] at hy
  split at hp
  case h_2 => exact hp.elim
  rename_i e sz he
  split at hp
  case h_2 => exact hp.elim
  rename_i j hj hsz
  split at hp
  case h_2 => exact hp.elim
  rename_i z byt hz hbyt
  split at hp
  case h_2 => exact hp.elim
  rename_i hzl
  obtain ⟨⟨m1, m2, m3, m4⟩, hp⟩ := hp
  have hzl := Ya hzl
  have hsz := Yf hsz
  have hb := (hT _ _ hj).byt _ hbyt
  have hfz := (hT _ _ hj).flt _ hz
  have hflC : C.all AV.flat = true := by
   subst m4
   refine Ym.2 fun q hq => ?_
   obtain ⟨z', hz', hq'⟩ := Ya2.1 hq
   rw [(Ybn.1 hz').2] at hq'
   exact Ym.1 hfz q hq'
  have hfl := ZbW (r := r) hflC
  have hn := Zcu (x' := fun g => .ref (l + 1, d) g 0 m) hr h hf (fun g => by simp [ren, hr.own]) hp
  rw [hfl] at hn
  simp only [rOp, (hT _ _ hi).elm _ he, hx, hy, ren, (hT _ _ hj).zer _ hz]
  subst m1
  have hbb : (P.bytesOf e : Int) * c' ≤ (byt : Int) * c' := Ybd (by omega) (by omega)
  refine ⟨by omega, m2, by omega, hb.2, by omega, hzl, ?_⟩
  simp only [Ybq, m4]
  exact Ze5 hn
 ·rename_i c
  split at hp
  ·rename_i hcal
   split at hp
   case h_2 => exact hp.elim
   rename_i d x y t t' ha ht
   split at hp
   case h_2 => exact hp.elim
   rename_i htt
   have htt := Ya htt
   subst htt
   have h2 : c.argTypes = #[t, t] := Y2 (by simpa using ht)
   have hx := ops hc (fun _ _ _ e => by cases e) x (by simp only [Op.operands, Call.operands, YaI]; exact .inr (by rw [← Ybc, ha]; simp))
   have hy := ops hc (fun _ _ _ e => by cases e) y (by simp only [Op.operands, Call.operands, YaI]; exact .inr (by rw [← Ybc, ha]; simp))
   simp only [rOp, hcal, ha, ht]
   refine ⟨by rw [h2]; rfl, ?_⟩
   rw [hx, hy]
   exact Znx hr hT h hf hp
  ·rename_i hna
   split at hp
   case h_2 => exact hp.elim
   rename_i d
   unfold pV at hp
   simp only at hp
   split at hp
   ·rename_i f hcal
    obtain ⟨i, first, caps, x, a', e1, e2, e3⟩ := ZeF h Zag (fun b e => by cases e) hcal hc hp
    simp only [rOp, hcal, e1]
    refine e2.mono fun y H' ⟨h1, h2⟩ => ?_
    subst h1; subst h2
    obtain ⟨h1, h2⟩ := Zeq h hf (y := ren r x) ⟨x, a', rfl, e3⟩
    exact ⟨h1, .of h2⟩
   ·rename_i hnv
    refine ZlM (o := ⟨some d, .call c, ty, ps, af, gd⟩) hT h rfl hc hf hp ?_
    simp only [rOp]
 ·rename_i h1 h2 h3 h4 h5 h6
  split at hp
  case h_2 => exact hp.elim
  rename_i d
  have hp' : tV T τ.H op (ev τ.s) none a (ZjH n d K τ) := by
   unfold pV at hp
   split at hp
   ·exact absurd rfl (h6 _)
   ·exact absurd rfl (h4 _ _ _)
   ·exact hp
  refine ZlM (o := ⟨some d, op, ty, ps, af, gd⟩) hT h rfl hc hf hp' ?_
  simp only [rOp]
theorem Zlc {d : Option Nat} {v y : AV} {H' : Hp} (hf : ZcH env d = true) {τ' : St} (h : RG r l outs env ⟨τ.s, τ'.H⟩ ⟨σ.s, H'⟩) (hy : y = ren r v) (hk : Zxa n K τ.s τ'.H v a d) :
  Zfe n d (KA r l n outs B (ZcK env d) K) ⟨σ.s, H'⟩ y := by
 cases d with
 | none => exact .of ⟨_, _, hk, h⟩
 | some d =>
  simp only [Zxa] at hk
  split at hk
  ·rename_i hd; exact ⟨Yf hd, .of ⟨_, _, hk, h.put0 hf hy⟩⟩
  ·exact hk.elim
theorem Zgx (hr : RenOk r l outs) (hT : TOk P T) (h : RG r l outs env τ σ) (hc : ZbC env [] o.op = true) (hf : ZcH env o.dst = true) (hp : Zp8 P T l n r o a K τ) : AOp P l n B o (KA r l n outs B (ZcK env o.dst) K) σ := by
 have ops : ∀ {op : Op}, ZbC env [] op = true → (∀ c x y, op ≠ .pick c x y) → ∀ x ∈ op.operands, ev σ.s x = ren r (ev τ.s x) := fun {op} hc hne => by
  unfold ZbC at hc
  split at hc
  ·exact absurd rfl (hne _ _ _)
  ·exact ZbY h Zag hc
 unfold Zp8 at hp
 split at hp
 case h_2 => exact Zcp (Zjf hr hT h hc hf hp)
 rename_i c ho
 split at hp
 ·rename_i hcal
  split at hp
  case h_2 => exact hp.elim
  rename_i x y t t' ha ht
  have ho' : o.op = .call ⟨.builtin .copy, #[x, y], #[t, t']⟩ := by
   rw [ho]
   have e1 : c.args = #[x, y] := Y2 (by simpa using ha)
   have e2 : c.argTypes = #[t, t'] := Y2 (by simpa using ht)
   cases c; simp only at hcal e1 e2; subst hcal; subst e1; subst e2; rfl
  rw [ho'] at hc
  have hx := ops hc (fun _ _ _ e => by cases e) x (by simp [Op.operands, Call.operands])
  have hy := ops hc (fun _ _ _ e => by cases e) y (by simp [Op.operands, Call.operands])
  unfold ZuF at hp
  split at hp
  case h_2 => exact hp.elim
  rename_i i i' hi hi'
  split at hp
  case h_2 => exact hp.elim
  rename_i e sz e' sz' he he'
  split at hp
  case h_2 => exact hp.elim
  rename_i j q1 q2 hj hsz hsrc
  split at hp
  case h_2 => exact hp.elim
  rename_i z k q off cn cnt news C' b hz hxv
  split at hp
  case h_2 => exact hp.elim
  rename_i hl hs2
  obtain ⟨h1, h2, h3, h4⟩ := hp
  obtain ⟨h4, hko, hlow⟩ := ZfF hr h (ZaV hl).2 h4
  have q1 := Ya q1
  have q2 := Ya q2
  subst q1; subst q2
  have hs2 := Ya hs2
  have hsz := Yf hsz
  obtain ⟨g1, g2, g3, g4, g5⟩ := h.h.at hl
  obtain ⟨e1, e2⟩ := ZhE h hsrc h1
  rw [hxv] at hx
  obtain ⟨s1, s2⟩ := h3
  obtain ⟨ss, sH⟩ := σ
  refine ZoC (k := r.κ k) (g := r.γ k + q) (off := off) (cn := cn) (cnt := cnt) (news := Zak r news) ho' (by rw [hx]; simp [ren]) ((hT _ _ hi).elm _ he) ((hT _ _ hi').elm _ he') (by rw [(hT _ _ hj).zer _ hz]; rfl) (by omega) g1 g2 (by rw [g4, hs2]) (by rw [hy]; exact e1) h2
   (by rw [g5, Zaz, Zaz]; exact s1) hlow ?_
  have h8 := RG.updH hr h k ⟨q, true, (τ.H k).e, (τ.H k).sz, C'⟩ rfl hko
  have e3 : ZaL r k ⟨q, true, (τ.H k).e, (τ.H k).sz, C'⟩ = { sH (r.κ k) with cells := (sH (r.κ k)).cells.take (off * sz) ++ Zak r news ++ (sH (r.κ k)).cells.drop (off * sz + (Zak r news).length) } := by
   simp only at g1 g2 g3 g4 g5
   simp only [ZaL, g5, Zaz, Za6, ZaX, ← ZbJ, s2, g1, g3, g4, ← g2]
  simp only at e3
  rw [e3] at h8
  refine Zlc (v := .d (.int .i64 cnt)) (a := b) (τ' := ⟨τ.s, updH τ.H k ⟨q, true, (τ.H k).e, (τ.H k).sz, C'⟩⟩) hf h8 (by simp [ren]) h4
 ·rename_i hcal
  split at hp
  case h_2 => exact hp.elim
  rename_i x t ha ht hd
  have ho' : o.op = .call ⟨.builtin .clear, #[x], #[t]⟩ := by
   rw [ho]
   have e1 : c.args = #[x] := Y2 (by simpa using ha)
   have e2 : c.argTypes = #[t] := Y2 (by simpa using ht)
   cases c; simp only at hcal e1 e2; subst hcal; subst e1; subst e2; rfl
  rw [ho'] at hc
  have hx := ops hc (fun _ _ _ e => by cases e) x (by simp [Op.operands, Call.operands])
  unfold Zqq at hp
  split at hp
  case h_2 => exact hp.elim
  rename_i i hi
  split at hp
  case h_2 => exact hp.elim
  rename_i e sz he
  split at hp
  case h_2 => exact hp.elim
  rename_i j hj hsz
  split at hp
  case h_2 => exact hp.elim
  rename_i z k q off cn C' b hz hxv
  split at hp
  case h_2 => exact hp.elim
  rename_i hl hs2 hzl
  obtain ⟨⟨h1, h2⟩, h4⟩ := hp
  obtain ⟨h4, hko, hlow⟩ := ZfF hr h (ZaV hl).2 h4
  have hs2 := Ya hs2
  have hsz := Yf hsz
  have hzl := Ya hzl
  obtain ⟨g1, g2, g3, g4, g5⟩ := h.h.at hl
  have hfz := ZbW (r := r) ((hT _ _ hj).flt _ hz)
  rw [hfz] at hlow
  rw [hxv] at hx
  obtain ⟨ss, sH⟩ := σ
  refine ZnQ (k := r.κ k) (g := r.γ k + q) (off := off) (cn := cn) ho' hd (by rw [hx]; simp [ren]) ((hT _ _ hi).elm _ he) ((hT _ _ hj).zer _ hz) hzl (by omega) g1 g2 (by rw [g4, hs2]) (by rw [g5, Zaz]; exact h1) hlow ?_
  have h8 := RG.updH hr h k ⟨q, true, (τ.H k).e, (τ.H k).sz, C'⟩ rfl hko
  have hrep : Zak r (List.replicate cn z).flatten = (List.replicate cn z).flatten := ZbW (by
   refine Ym.2 fun q hq => ?_
   obtain ⟨z', hz', hq'⟩ := Ya2.1 hq
   rw [(Ybn.1 hz').2] at hq'
   exact Ym.1 ((hT _ _ hj).flt _ hz) q hq')
  have e3 : ZaL r k ⟨q, true, (τ.H k).e, (τ.H k).sz, C'⟩ = { sH (r.κ k) with cells := (sH (r.κ k)).cells.take (off * sz) ++ (List.replicate cn z).flatten ++ (sH (r.κ k)).cells.drop ((off + cn) * sz) } := by
   simp only at g1 g2 g3 g4 g5
   rw [← h2]
   simp only [ZaL, g5, ZbJ, Za6, ZaX, hrep, g1, g3, g4, ← g2]
  simp only at e3
  rw [e3] at h8
  exact .of ⟨_, _, h4, by rw [hd]; exact h8⟩
 ·exact Zcp (Zjf hr hT h hc hf hp)
theorem ZvH {place : Nat → Option (Nat × Nat)} : ∀ (ps : List (Nat × AV)) (z cs : List AV), (∀ p ∈ ps, ZqD p.2 = true) → ZbV place z ps = some cs → ZbV place (Zak r z) (ps.map fun p => (p.1, ren r p.2)) = some (Zak r cs)
 | [], z, cs, _, h => by
  simp only [ZbV, Ye] at h
  subst h
  simp [ZbV]
 | (f, v) :: ps, z, cs, hn, h => by
  simp only [ZbV] at h
  split at h
  ·rename_i off size vs hp hv
   split at h
   ·cases h
   ·rename_i h1
    have hv' := ZbZ (r := r) hv (Zfb (hn (f, v) (Yt ..)))
    simp only [YR, ZbV, hp, hv', Zaz]
    rw [if_neg h1]
    have := ZvH ps _ cs (fun p hp => hn p (List.mem_cons_of_mem _ hp)) h
    rw [← this]
    simp only [ZbJ, Za6, ZaX]
  ·cases h
theorem Zv6 (hq : ZaM o = true) (hp : Zp7 P T l n r o a K τ) : Zp8 P T l n r o a K τ := by
 unfold Zp7 at hp
 split at hp
 ·rename_i ho; simp [ZaM, ho] at hq
 ·exact hp
theorem ZiR (hr : RenOk r l outs) (hT : TOk P T) (h : RG r l outs env τ σ) (hc : ZbC env [] o.op = true) (hf : ZcH env o.dst = true) (hp : Zp7 P T l n r o a K τ) : AOp P l n B o (KA r l n outs B (ZcK env o.dst) K) σ := by
 unfold Zp7 at hp
 split at hp
 case h_2 => exact Zgx hr hT h hc hf hp
 rename_i t len parts ho
 split at hp
 case h_2 => exact Zgx hr hT h hc hf hp
 case h_3 => exact Zgx hr hT h hc hf hp
 rename_i b
 have ops : ∀ x ∈ o.op.operands, ev σ.s x = ren r (ev τ.s x) := by
  unfold ZbC at hc
  split at hc
  ·rename_i e; rw [ho] at e; cases e
  ·exact ZbY h Zag hc
 unfold Zp9 at hp
 split at hp
 case h_2 => exact hp.elim
 rename_i d i hd hi
 split at hp
 case h_2 => exact hp.elim
 rename_i e sz he
 split at hp
 case h_2 => exact hp.elim
 rename_i j hj hsz hlim
 split at hp
 case h_2 => exact hp.elim
 rename_i z hz
 split at hp
 case h_2 => exact hp.elim
 rename_i cs hzl hfill hfl
 split at hp
 case h_2 => exact hp.elim
 rename_i hcs
 have e1 : (parts.toList.map fun p => (p.1, ev σ.s p.2)) = (parts.toList.map fun p => (p.1, ev τ.s p.2)).map fun p => (p.1, ren r p.2) := by
  rw [Yap]
  refine YV fun p hp => ?_
  rw [ops p.2 (by rw [ho]; simp only [Op.operands, YaJ, Yq]; exact ⟨p, hp, rfl⟩)]
  rfl
 have hd' : o.dst = some d := hd
 rw [hd'] at hf ⊢
 have hn := Zcu (x' := fun g => .ref (l + 1, d) g 0 (len + 1)) hr h hf (fun g => by simp [ren, hr.own]) hp
 obtain ⟨s, H⟩ := σ
 exact Zdo ho hd' ((hT _ _ hi).elm _ he) (by have := Yf hsz; omega) (Yf hlim) ((hT _ _ hj).zer _ hz) (Ya hzl) (by
  rw [e1]
  have := ZvH (r := r) _ _ _ (fun p hp => Ym.1 hfl p hp) hfill
  rw [ZbW (r := r) (z := (List.replicate (len + 1) z).flatten) (Ym.2 fun x hx => by
   obtain ⟨y, hy, hx⟩ := Ya2.1 hx
   rw [List.eq_of_mem_replicate hy] at hx
   exact Ym.1 hcs x hx)] at this
  exact this) (Ze5 hn)
theorem ZvB (hq : ZaM o = true) (hp : ZoS P T l n r o a K τ) : Zp7 P T l n r o a K τ := by
 unfold ZoS at hp
 split at hp
 case h_7 c ho =>
  split at hp
  ·rename_i hc; simp [ZaM, ho, hc] at hq
  ·exact hp
 case h_8 => exact hp
 all_goals rename_i ho
 ·simp [ZaM, ho] at hq
 ·unfold pMs at hp
  split at hp
  ·rename_i hd _ _ _; simp [ZaM, hd] at hq
  ·exact hp.elim
 ·unfold pMs at hp
  split at hp
  ·rename_i hd _ _ _; simp [ZaM, hd] at hq
  ·exact hp.elim
 ·simp [ZaM, ho] at hq
 ·simp [ZaM, ho] at hq
 ·simp [ZaM, ho] at hq
theorem Zpg {q : Bool} {x : AV} {ds : List D} (h : ZrO q x = some ds) : ren r x = x := by
 cases q with
 | true =>
  cases x <;> simp only [ZrO] at h <;> try (cases h; done)
  case agg xs => simp only [ren, ZeA h]
 | false =>
  have h : (Zdf x).map (fun d => [d]) = some ds := by cases x <;> exact h
  obtain ⟨d, h1, _⟩ := YZ.1 h
  exact ZeC h1
theorem ZfL (hr : RenOk r l outs) (h : RG r l outs env τ σ) {K : St → AT → Prop} {d : Nat} (hf : fresh d env = true) {e : EK} {x x' : Nat → AV} (hx : ∀ g, x' (r.γ (1, d) + g) = ren r (x g)) (hn : ZpU n d e x K τ a) :
  Zxw l n d e x' (KA r l n outs B ((d, []) :: env) K) σ := by
 unfold ZpU at hn
 split at hn
 ·rename_i hd
  refine ⟨Yf hd, .of ⟨_, _, hn, ?_⟩⟩
  have h1 := RG.updH hr h (1, d) ⟨(τ.H (1, d)).g + 1, true, e, 0, []⟩ rfl (.inl rfl)
  have h2 := h1.put0 hf (v := x ((τ.H (1, d)).g + 1)) (y := x' ((σ.H (l + 1, d)).g + 1)) (by rw [h.g, Yw]; exact hx _)
  have e1 : ZaL r (1, d) ⟨(τ.H (1, d)).g + 1, true, e, 0, []⟩ = ⟨(σ.H (l + 1, d)).g + 1, true, e, 0, []⟩ := by simp only [ZaL, Zak, h.g, Yw]
  rw [e1, hr.own] at h2
  exact h2
 ·exact hn.elim
theorem ZjC (hr : RenOk r l outs) (hT : TOk P T) (h : RG r l outs env τ σ) (hc : ZbC env [] o.op = true) (hf : ZcH env o.dst = true) (hp : ZoS P T l n r o a K τ) : AOp P l n B o (KA r l n outs B (ZcK env o.dst) K) σ := by
 have ops : (∀ c x y, o.op ≠ .pick c x y) → ∀ x ∈ o.op.operands, ev σ.s x = ren r (ev τ.s x) := fun hne => by
  unfold ZbC at hc
  split at hc
  ·rename_i e; exact absurd e (hne _ _ _)
  ·exact ZbY h Zag hc
 have st : ∀ {t x y z} (ho : o.op = .mapUpdate t x y z ∨ o.op = .insert t x y z) (hx : ev σ.s x = ren r (ev τ.s x)) (hy : ev σ.s y = ren r (ev τ.s y)) (hz : ev σ.s z = ren r (ev τ.s z)) (hp : pMs T r o.dst t (ev τ.s x) (ev τ.s y) (ev τ.s z) a K τ), AOp P l n B o (KA r l n outs B (ZcK env o.dst) K) σ := by
  intro t x y z ho hx hy hz hp
  unfold pMs at hp
  split at hp
  case h_2 => exact hp.elim
  rename_i i k g s hd hi hxv hyv
  split at hp
  case h_2 => exact hp.elim
  rename_i q z0 q' es hmp hl he
  split at hp
  case h_2 => exact hp.elim
  rename_i ds es' b _ _ _
  obtain ⟨h1, h2⟩ := hp
  have hv : ZrO q (ev τ.s z) = some ds := by assumption
  have hq : bqB q q' = true := by assumption
  have hq := ZmJ hq
  subst hq
  obtain ⟨h2, hko, _⟩ := ZfF hr h (ZaV hl).2 h2
  obtain ⟨g1, g2, g3, g4, g5⟩ := h.h.at hl
  rw [hxv] at hx
  rw [hyv] at hy
  rw [Zpg hv] at hz
  obtain ⟨ss, sH⟩ := σ
  refine Zg9 (sk := s) (k := r.κ k) (g := r.γ k + g) (es := es) ho hd ((hT _ _ hi).mp _ hmp) (by rw [hx]; simp [ren]) g1 g2 (by rw [g3]; exact he) (by rw [hy]; simp [ren]) (by rw [hz]; exact hv) ?_
  have h8 := RG.updH hr h k ⟨g, true, .m q es', (τ.H k).sz, (τ.H k).cells⟩ rfl hko
  have e3 : ZaL r k ⟨g, true, .m q es', (τ.H k).sz, (τ.H k).cells⟩ = { sH (r.κ k) with e := .m q (ZgE s ds es) } := by
   simp only at g1 g2 g3 g4 g5
   rw [show ZgE s ds es = es' from h1]
   simp only [ZaL, g1, g4, ← g5, ← g2]
  simp only at e3
  rw [e3] at h8
  rw [hd]
  exact .of ⟨_, _, h2, h8⟩
 unfold ZoS at hp
 split at hp
 case h_8 => exact ZiR hr hT h hc hf hp
 case h_7 c ho =>
  split at hp
  case h_2 => exact ZiR hr hT h hc hf hp
  rename_i hcal
  split at hp
  case h_2 => exact hp.elim
  rename_i x y t t' ha ht
  have ho' : o.op = .call ⟨.builtin .delete, #[x, y], #[t, t']⟩ := by
   rw [ho]
   have e1 : c.args = #[x, y] := Y2 (by simpa using ha)
   have e2 : c.argTypes = #[t, t'] := Y2 (by simpa using ht)
   cases c; simp only at hcal e1 e2; subst hcal; subst e1; subst e2; rfl
  have ops := ops (by rw [ho']; intro _ _ _ e; cases e)
  rw [ho'] at ops
  have hx := ops x (by simp [Op.operands, Call.operands])
  have hy := ops y (by simp [Op.operands, Call.operands])
  unfold pMd at hp
  split at hp
  case h_2 => exact hp.elim
  rename_i i k g s hd hi hxv hyv
  split at hp
  case h_2 => exact hp.elim
  rename_i q z0 q' es hmp hl he
  split at hp
  case h_2 => exact hp.elim
  rename_i es' b _
  obtain ⟨h1, h2⟩ := hp
  have hq : bqB q q' = true := by assumption
  have hq := ZmJ hq
  subst hq
  obtain ⟨h2, hko, _⟩ := ZfF hr h (ZaV hl).2 h2
  obtain ⟨g1, g2, g3, g4, g5⟩ := h.h.at hl
  rw [hxv] at hx
  rw [hyv] at hy
  obtain ⟨ss, sH⟩ := σ
  refine Zkf (sk := s) (k := r.κ k) (g := r.γ k + g) (es := es) ho' hd ((hT _ _ hi).mp _ hmp) (by rw [hx]; simp [ren]) g1 g2 (by rw [g3]; exact he) (by rw [hy]; simp [ren]) ?_
  have h8 := RG.updH hr h k ⟨g, true, .m q es', (τ.H k).sz, (τ.H k).cells⟩ rfl hko
  have e3 : ZaL r k ⟨g, true, .m q es', (τ.H k).sz, (τ.H k).cells⟩ = { sH (r.κ k) with e := .m q (ZhD s es) } := by
   simp only at g1 g2 g3 g4 g5
   rw [show ZhD s es = es' from h1]
   simp only [ZaL, g1, g4, ← g5, ← g2]
  simp only at e3
  rw [e3] at h8
  rw [hd]
  exact .of ⟨_, _, h2, h8⟩
 ·rename_i t rs ho
  split at hp
  case h_2 => exact hp.elim
  rename_i d i hd hi hres
  split at hp
  case h_2 => exact hp.elim
  rename_i q z hmp
  rw [hd] at hf ⊢
  have hn := ZfL (B := B) (x' := fun g => .mp (l + 1, d) g) hr h hf (fun g => by simp [ren, hr.own]) hp
  obtain ⟨ss, sH⟩ := σ
  obtain ⟨kt, et, hu, _, _, _⟩ := ZeO ((hT _ _ hi).mp _ hmp)
  refine ZhL ho hd ⟨kt, et, hu⟩ (fun x hx => ?_) hn
  subst hx
  have hxx := ops (by rw [ho]; intro _ _ _ e; cases e) x (by rw [ho]; simp [Op.operands])
  simp only [ZyP] at hres
  split at hres
  ·rename_i k n' he; exact ⟨k, n', by rw [hxx, he]; simp [ren]⟩
  ·cases hres
 ·rename_i t x y z ho
  have ops := ops (by rw [ho]; intro _ _ _ e; cases e)
  rw [ho] at ops
  exact st (.inl ho) (ops x (by simp [Op.operands])) (ops y (by simp [Op.operands])) (ops z (by simp [Op.operands])) hp
 ·rename_i t x y z ho
  have ops := ops (by rw [ho]; intro _ _ _ e; cases e)
  rw [ho] at ops
  exact st (.inr ho) (ops x (by simp [Op.operands])) (ops y (by simp [Op.operands])) (ops z (by simp [Op.operands])) hp
 ·rename_i t x ho
  split at hp
  case h_2 => exact hp.elim
  rename_i d i q es hd hi hxv
  split at hp
  case h_2 => exact hp.elim
  rename_i z hmp
  rw [hd] at hf ⊢
  have hn := ZfL (B := B) (x' := fun g => .ptr (l + 1, d) g 0) hr h hf (fun g => by simp [ren, hr.own]) hp
  obtain ⟨ss, sH⟩ := σ
  obtain ⟨kt, et, hu, _, _, _⟩ := ZeO ((hT _ _ hi).mp _ hmp)
  have hxx := ops (by rw [ho]; intro _ _ _ e; cases e) x (by rw [ho]; simp [Op.operands])
  exact Zln ho hd ⟨kt, et, hu⟩ (by rw [hxx, hxv]; simp [ren]) hn
 ·rename_i x ho
  split at hp
  case h_2 => exact hp.elim
  rename_i d k g hd hxv
  split at hp
  case h_2 => exact hp.elim
  rename_i q rest cur hk1 hl he
  have hxx := ops (by rw [ho]; intro _ _ _ e; cases e) x (by rw [ho]; simp [Op.operands])
  rw [hxv] at hxx
  obtain ⟨g1, g2, g3, g4, g5⟩ := h.h.at hl
  rw [hd] at hf ⊢
  unfold pNx at hp
  split at hp
  case h_2 => exact hp.elim
  rename_i a0 f hdn
  obtain ⟨hp0, hp1⟩ := hp
  obtain ⟨ss, sH⟩ := σ
  refine ZpV (k := r.κ k) (g := r.γ k + g) (rest := rest) (cur := cur) ho hd (by rw [hxx]; simp [ren]) g1 g2 (by rw [g3]; exact he) (Yf hdn) (fun h0 => .of ⟨_, _, hp0 h0, h.put0 hf (by simp [ren, Zak])⟩) (fun i e hi => ?_)
  have hlt := (Yb.1 hi).1
  have hpi := hp1 i hlt
  split at hpi
  case h_2 => exact hpi.elim
  rename_i s ds es b hfi
  obtain ⟨⟨k1, k2⟩, k3⟩ := hpi
  rw [hi] at k1
  cases k1
  have h8 := RG.updH hr h k ⟨g, true, .i q es (some (.str s :: ds)), (τ.H k).sz, (τ.H k).cells⟩ rfl (.inl (Ya hk1))
  have e3 : ZaL r k ⟨g, true, .i q es (some (.str s :: ds)), (τ.H k).sz, (τ.H k).cells⟩ = { sH (r.κ k) with e := .i q (rest.eraseIdx i) (some (.str s :: ds)) } := by
   simp only at g1 g2 g3 g4 g5
   rw [k2]
   simp only [ZaL, g1, g4, ← g5, ← g2]
  simp only at e3
  rw [e3] at h8
  exact .of ⟨_, _, k3, h8.put0 hf (by simp only [nxV, ren, Zak, ZfY])⟩
 ·rename_i x ho
  split at hp
  case h_2 => exact hp.elim
  rename_i d k g hd hxv
  split at hp
  case h_2 => exact hp.elim
  rename_i q rest s ds hk1 hl he hdn
  have hxx := ops (by rw [ho]; intro _ _ _ e; cases e) x (by rw [ho]; simp [Op.operands])
  rw [hxv] at hxx
  obtain ⟨g1, g2, g3, g4, g5⟩ := h.h.at hl
  rw [hd] at hf ⊢
  obtain ⟨ss, sH⟩ := σ
  refine Zm6 (k := r.κ k) (g := r.γ k + g) (rest := rest) ho hd (by rw [hxx]; simp [ren]) g1 g2 (by rw [g3]; exact he) (Yf hdn) ?_
  have h8 := RG.updH hr h k ⟨g, true, .i q rest none, (τ.H k).sz, (τ.H k).cells⟩ rfl (.inl (Ya hk1))
  have e3 : ZaL r k ⟨g, true, .i q rest none, (τ.H k).sz, (τ.H k).cells⟩ = { sH (r.κ k) with e := .i q rest none } := by
   simp only at g1 g2 g3 g4 g5
   simp only [ZaL, g1, g4, ← g5, ← g2]
  simp only at e3
  rw [e3] at h8
  exact .of ⟨_, _, hp, h8.put0 hf (by simp only [ren, Zak, ZfY])⟩
end
end Go.Eng
namespace Go.Eng
set_option linter.all false
open Go Go.RowKit
section
variable {P : Program} {T : Nat → Option TI} {r : Ren} {l n outs : Nat} {B : Base} {env : Env} {τ σ : St} {a : AT} {o : Oper}
theorem ZvQ {H : Hp} {op : Op} {ρ : Operand → AV} {g : Option Bool} {K : AV → AT → Prop} (h : tV T H op ρ g a K) : ∃ v a', K v a' := by
 have fin : ∀ {v a'}, K v a' → ∃ v a', K v a' := fun h => ⟨_, _, h⟩
 cases op <;> simp only [tV] at h <;> try exact h.elim
 case move x => exact fin h
 case assign x => exact fin h
 case pick c x y => split at h <;> first | exact fin h | exact h.elim
 case load t x =>
  split at h
  ·unfold Zkz at h
   repeat' split at h
   all_goals first | exact h.elim | exact fin h | exact fin h.2
  ·grind
 case fieldAddr t x f =>
  split at h
  ·unfold ZcZ at h
   grind
  ·grind
 case field t x f =>
  split at h
  ·unfold ZiK at h
   grind
  ·grind
 case indexAddr t x j =>
  split at h
  ·unfold Zdb at h
   grind
  ·grind
 case index t x j =>
  split at h
  ·unfold Zjy at h
   grind
  ·grind
 case extract x j =>
  repeat' split at h
  all_goals first | exact h.elim | exact fin h
 case binOp o t x y u =>
  split at h
  ·unfold Zxd at h
   split at h
   ·split at h
    ·unfold ZwX at h
     grind
    grind
   ·unfold ZwY at h
    grind
   ·grind
   ·grind
   ·split at h
    ·have nl : ∀ {neg : Bool} {x : AV}, Zt9 H neg x a K → ∃ v a', K v a' := fun {neg x} h => by
      unfold Zt9 at h
      repeat' split at h
      all_goals first | exact h.elim | exact fin (h true) | exact fin (h neg (fun _ => rfl))
     grind
    grind
   grind
  ·grind
 case unOp o t x =>
  unfold tUn at h
  repeat' split at h
  all_goals first | exact h.elim | exact fin h | exact fin h.2
 case nilCheck x =>
  split at h
  ·grind
  ·grind
  ·grind
 case convert s d x =>
  split at h
  ·unfold ZpP at h
   grind
  ·grind
 case makeFunc fn first caps => split at h <;> first | exact h.elim | exact fin h
 case slice t x lo hi mx =>
  split at h
  ·unfold ZiB at h
   grind
  ·grind
 case build t parts =>
  split at h
  ·unfold ZiI at h
   grind
  ·grind
 case lookup t x y ck =>
  split at h
  ·unfold ZpT at h
   grind
  ·grind
 case call c =>
  split at h
  ·split at h
   ·unfold Zw4 at h
    grind
   grind
  ·unfold vMM at h
   grind
  ·unfold vMM at h
   grind
  ·unfold Zoc at h
   grind
  ·grind
theorem ZrT {op : Op} {g : Option Bool} {K : AV → AT → Prop} (h : pV P T l r τ op g a K) : ∃ v a', K v a' := by
 unfold pV at h
 split at h
 ·split at h
  ·unfold ZpQ at h
   grind
  ·exact ZvQ h
 ·unfold bsV at h
  repeat' split at h
  all_goals first | exact h.elim | exact ⟨_, _, h⟩
 ·exact ZvQ h
def Yl (r : Ren) (e : Nat) (K : AV → AT → Prop) (σ σ' : St) : Prop := ∃ v a', σ' = ⟨upd σ.s e (ren r v), σ.H⟩ ∧ K v a'
theorem ZqB (hT : TOk P T) (h : RG r l outs env τ σ) {c : Zcl} (hs : ZfN τ.s c) {g : Option Bool} (hg : ∀ b, g = some b → b = true) {e : Nat} {op : Op} {ty : TypeId} {ps : String} {af : Array Edge} {gd : Option (Nat × Bool)}
  (hx : ZbC env c op = true) (hen : e < n) {K : AV → AT → Prop} (hp : pV P T l r τ op g a K) : rOp P l n ⟨some e, op, ty, ps, af, gd⟩ (Yl r e K σ) σ := by
 have val : tV T τ.H op (ev τ.s) g a K → rOp P l n ⟨some e, op, ty, ps, af, gd⟩ (Yl r e K σ) σ = vOp P σ.H op (ev σ.s) (Zfe n (some e) (Yl r e K σ) σ) → rOp P l n ⟨some e, op, ty, ps, af, gd⟩ (Yl r e K σ) σ := fun h1 h2 => by
  rw [h2]
  exact ZfV (fun y ⟨v, a', e1, e2⟩ => ⟨hen, v, a', by rw [e1], e2⟩) (Zqd hT h hs hg hx h1)
 unfold pV at hp
 split at hp
 ·rename_i c
  split at hp
  ·rename_i f hcal
   obtain ⟨i, first, caps, x, a', e1, e2, e3⟩ := ZeF h hs hg hcal hx hp
   simp only [rOp, hcal, e1]
   exact e2.mono fun y H' ⟨h1, h2⟩ => by subst h1; subst h2; exact ⟨hen, x, a', rfl, e3⟩
  ·rename_i hnv
   refine val hp ?_
   cases hcal : c.callee with
   | value f => exact absurd hcal (hnv f)
   | invoke x m => simp only [tV, hcal] at hp
   | builtin b =>
    cases b <;> simp only [tV, hcal] at hp <;> simp only [rOp, hcal]
 ·rename_i t len parts
  have hx' : (Op.buildSlice t len parts).operands.toList.all (chk env c) = true := hx
  have e1 : (parts.toList.map fun p => (p.1, ev σ.s p.2)) = (parts.toList.map fun p => (p.1, ev τ.s p.2)).map fun p => (p.1, ren r p.2) := by
   rw [Yap]
   refine YV fun p hp => ?_
   simp only [Function.comp]
   rw [ZbY h hs hx' p.2 (by simp only [Op.operands, YaJ, Yq]; exact ⟨p, hp, rfl⟩)]
  unfold bsV at hp
  split at hp
  case h_2 => exact hp.elim
  rename_i i hi
  split at hp
  case h_2 => exact hp.elim
  rename_i e' sz he
  simp only [rOp, (hT _ _ hi).elm _ he]
  split at hp
  ·rename_i hsz
   have hsz := Yf hsz
   refine ⟨by omega, ?_⟩
   split at hp
   ·rename_i hps
    exact ⟨by rw [← Y5, hps]; rfl, hen, .e0, a, by simp [ren], hp⟩
   grind
  ·rename_i len' hsz
   have hsz := Yf hsz
   refine ⟨by omega, ?_⟩
   split at hp
   case h_2 => exact hp.elim
   rename_i j hj hlim
   split at hp
   case h_2 => exact hp.elim
   rename_i z hz
   split at hp
   case h_2 => exact hp.elim
   rename_i es hzl hlit
   split at hp
   case h_2 => exact hp.elim
   rename_i hes
   rw [Zem hlit] at e1
   rw [e1]
   simp only [(hT _ _ hj).zer _ hz, hlit]
   exact ⟨Yf hlim, Ya hzl, Ya hes, hen, .d (.list es), a, by simp [ren], hp⟩
  grind
 ·rename_i h5 h6
  refine val hp ?_
  cases op <;> simp only [tV] at hp <;> try exact hp.elim
  case call c => exact absurd rfl (h5 c)
  all_goals simp only [rOp]
theorem ZqC (hT : TOk P T) (h : RG r l outs env τ σ) {c : Zcl} (hs : ZfN τ.s c) {g : Option Bool} (hg : ∀ b, g = some b → b = true) {e : Nat} {op : Op} {ty : TypeId} {ps : String} {af : Array Edge} {gd : Option (Nat × Bool)}
  (hx : ZbC env c op = true) (hen : e < n) {K : AV → AT → Prop} (hp : pV P T l r τ op g a K) : ZkR P l n ⟨some e, op, ty, ps, af, gd⟩ (Yl r e K σ) σ := by
 have hr := ZqB (ty := ty) (ps := ps) (af := af) (gd := gd) hT h hs hg hx hen hp
 unfold pV at hp
 split at hp
 ·rename_i c
  split at hp
  ·rename_i f hcal
   obtain ⟨i, first, caps, x, a', e1, e2, e3⟩ := ZeF h hs hg hcal hx hp
   simp only [ZkR, hcal, e1]
   exact ⟨ren r x, e2, hen, x, a', rfl, e3⟩
  ·rename_i hnv
   cases hcal : c.callee with
   | value f => exact absurd hcal (hnv f)
   | _ => simp only [ZkR, hcal]; exact hr
 ·rename_i t len parts
  cases len with
  | zero => exact hr
  | succ len =>
   have hx' : (Op.buildSlice t (len + 1) parts).operands.toList.all (chk env c) = true := hx
   have e1 : (parts.toList.map fun p => (p.1, ev σ.s p.2)) = (parts.toList.map fun p => (p.1, ev τ.s p.2)).map fun p => (p.1, ren r p.2) := by
    rw [Yap]
    refine YV fun p hp => ?_
    simp only [Function.comp]
    rw [ZbY h hs hx' p.2 (by simp only [Op.operands, YaJ, Yq]; exact ⟨p, hp, rfl⟩)]
   unfold bsV at hp
   split at hp
   case h_2 => exact hp.elim
   rename_i i hi
   split at hp
   case h_2 => exact hp.elim
   rename_i e' sz he
   split at hp
   ·rename_i hn0; cases hn0
   ·rename_i len' hsz hn0
    cases hn0
    have hsz := Yf hsz
    split at hp
    case h_2 => exact hp.elim
    rename_i j hj hlim
    split at hp
    case h_2 => exact hp.elim
    rename_i z hz
    split at hp
    case h_2 => exact hp.elim
    rename_i es hzl hlit
    split at hp
    case h_2 => exact hp.elim
    rename_i hes
    rw [Zem hlit] at e1
    exact ⟨.d (.list es), ⟨e', sz, z, es, (hT _ _ hi).elm _ he, by omega, Yf hlim, (hT _ _ hj).zer _ hz, Ya hzl, by rw [e1]; exact hlit, Ya hes, rfl⟩, hen, .d (.list es), a, by simp [ren], hp⟩
   ·exact hp.elim
 ·rename_i h5 h6
  cases op <;> first | exact absurd rfl (h5 _) | exact absurd rfl (h6 _ _ _) | exact hr
theorem ZdL {d : Nat} {e : TypeId} {sz : Nat} {cells : List AV} {x : Nat → AV} {K K' : St → Prop} (hk : ∀ σ, K σ → K' σ) (h : ZhN l n d e sz cells x K σ) : ZhN l n d e sz cells x K' σ := ⟨h.1, hk _ h.2⟩
theorem ZlP {o : Oper} {K K' : St → Prop} (hk : ∀ σ, K σ → K' σ) (h : rOp P l n o K σ) : rOp P l n o K' σ := by
 have pk : ∀ x, Zfe n o.dst K σ x → Zfe n o.dst K' σ x := fun x h => by
  unfold Zfe at h ⊢
  grind
 unfold rOp at h ⊢
 split at h
 ·split at h
  ·exact ⟨h.1, ZdL hk h.2⟩
  grind
 ·split at h
  ·exact ⟨h.1, ZdL hk h.2⟩
  grind
 ·grind
 ·split at h
  ·refine ⟨h.1, ?_⟩
   replace h := h.2
   split at h
   ·grind
   ·refine ⟨h.1, ?_⟩
    replace h := h.2
    split at h
    ·refine ⟨h.1, ?_⟩
     replace h := h.2
     split at h
     ·grind
     ·split at h
      ·exact ZdL hk h
      grind
    grind
  grind
 ·split at h
  ·obtain ⟨h1, h2, h3, h4, h5, h⟩ := h
   refine ⟨h1, h2, h3, h4, h5, ?_⟩
   split at h
   ·exact ⟨h.1, ZdL hk h.2⟩
   grind
  grind
 ·split at h
  ·split at h
   ·exact h.mono fun r H' hp => by
     unfold Zwz at hp ⊢
     unfold Zfe at hp ⊢
     grind
   grind
  ·split at h
   ·refine ⟨h.1, ?_⟩
    replace h := h.2
    unfold Zub at h ⊢
    split at h
    ·obtain ⟨h1, h2, h3, h⟩ := h
     refine ⟨h1, h2, h3, ?_⟩
     split at h
     ·refine ⟨h.1, ?_⟩
      replace h := h.2
      split at h
      ·exact ⟨h.1, fun e => ⟨(h.2.1 e).1, hk _ (h.2.1 e).2⟩, fun e => ZdL hk (h.2.2 e)⟩
      ·grind
      grind
     grind
    grind
   grind
  ·exact ZfV pk h
 ·exact ZfV pk h
theorem Zer {o : Oper} {K K' : St → Prop} (hk : ∀ σ, K σ → K' σ) (h : ZkR P l n o K σ) : ZkR P l n o K' σ := by
 have pk : ∀ {x}, Zfe n o.dst K σ x → Zfe n o.dst K' σ x := fun {x} h => by
  unfold Zfe at h ⊢
  grind
 unfold ZkR at h ⊢
 split at h
 ·obtain ⟨v, h1, h2⟩ := h; exact ⟨v, h1, pk h2⟩
 ·split at h
  ·grind
  ·exact ZlP hk h
 ·exact ZlP hk h
theorem Zhh (h : RG r l outs env τ σ) {ds : List (Option Nat)} {i d : Nat} {b g : Bool} (hd : nth ds i = some (some d)) (hg : Zdh τ.s ((d, b) :: lk env d) = some g) : grd σ.s ds i b = some g := by
 rw [Za0] at hd
 have hc := ZbS hg
 unfold grd
 simp only [hd]
 by_cases hs : ZfN τ.s (lk env d)
 ·have e1 := (h.s d).1 hs
  have hb : ∃ t, τ.s d = .d (.bool t) := by
   cases hl : lk env d with
   | nil =>
    rw [hl] at hg
    simp only [Zdh] at hg
    grind
   | cons q q' =>
    rw [hl] at hg
    simp only [Zdh] at hg
    grind
  obtain ⟨t, ht⟩ := hb
  rw [e1, ht]
  simp only [ren, Ye]
  cases g with
  | true =>
   have := hc.1 rfl (d, b) (Yt ..)
   grind
  | false =>
   cases htb : t == b with
   | false => rfl
   | true =>
    exfalso
    have htb : t = b := by simpa using htb
    have : ZfN τ.s ((d, b) :: lk env d) := fun q hq => by
     rcases Yo.1 hq with rfl | hq
     ·grind
     ·exact hs q hq
    grind
 ·rw [(h.s d).2 hs]
  simp only [Ye]
  cases g with
  | false => rfl
  | true => exact absurd (fun q hq => hc.1 rfl q (List.mem_cons_of_mem _ hq)) hs
theorem Zcn (hr : RenOk r l outs) (hT : TOk P T) {ops : Array Oper} {K : St → Env → AT → Prop} {QQ : Exit → Act → World → Prop} (more : List Oper)
  (hK : ∀ τ' env' a' σ' act' w', K τ' env' a' → RG r l outs env' τ' σ' → R l n B σ' act' w' → wpList P ops QQ more act' w') :
  ∀ (rest : List Oper) (env : Env) (a : AT) (τ σ : St) (act : Act) (w : World), Zn9 P T l n r (ops.toList.map (·.dst)) rest env a K τ → RG r l outs env τ σ → R l n B σ act w → wpList P ops QQ (rest ++ more) act w
 | [], env, a, τ, σ, act, w, h, hG, hR => hK _ _ _ _ _ _ h hG hR
 | o :: rest, env, a, τ, σ, act, w, h, hG, hR => by
  unfold Zn9 at h
  split at h
  ·rename_i hg
   split at h
   ·rename_i hc hf
    refine ZcC (by simp [Region.wanted, hg]) (ZjC (B := B) hr hT hG hc hf h) hR fun σ' act' w' hKA hR' => ?_
    obtain ⟨σ'', ⟨τ', a', h1, h2⟩, h3⟩ := hKA
    exact Zcn hr hT more hK rest _ _ _ _ _ _ h1 h2 (h3 _ _ hR')
   grind
  ·rename_i i b hg
   split at h
   case h_2 => exact h.elim
   rename_i d e hd he
   split at h
   case h_2 => exact h.elim
   rename_i g hch hx hfr hen
   simp only [Yd] at hfr
   have hen := Yf hen
   have hgr := Zhh hG hd hch
   have hy : (yielded ops act.tmps i == some b) = g := by
    obtain ⟨s, H⟩ := σ
    obtain ⟨m, S, hO, hn, hdf, hS, hex⟩ := hR.un
    exact Zhs hS hgr
   cases g with
   | true =>
    have hs := (ZbS hch).1 rfl
    refine ZcC (by simp only [Region.wanted, hg]; exact hy) (σ := σ) (B := B) (l := l) (n := n) (KK := Yl r e (fun v a' => Zn9 P T l n r (ops.toList.map (·.dst)) rest ((e, (d, b) :: lk env d) :: env) a' K ⟨upd τ.s e v, τ.H⟩) σ) (Zcp ?_) hR fun σ' act' w' hY hR' => ?_
    ·obtain ⟨dst, op, ty, ps, af, gd⟩ := o
     simp only at he
     subst he
     exact ZqB hT hG hs (fun b' e' => by cases e'; rfl) hx (by omega) h
    ·obtain ⟨v, a', rfl, h1⟩ := hY
     exact Zcn hr hT more hK rest _ _ _ _ _ _ h1 (hG.put hfr.1 hfr.2 (fun _ => rfl) (fun hn => absurd hs hn)) hR'
   | false =>
    have hs : ¬ ZfN τ.s ((d, b) :: lk env d) := fun hs => by have := (ZbS hch).2 hs; cases this
    obtain ⟨v, a', h1⟩ := ZrT h
    show wpList P ops QQ (o :: (rest ++ more)) act w
    unfold wpList
    rw [if_neg (by simp only [Region.wanted, hg, hy]; decide), he]
    exact Zcn hr hT more hK rest _ _ _ _ _ _ h1 (hG.put hfr.1 hfr.2 (y := .tup []) (fun h => absurd h hs) (fun _ => rfl)) (R.undef hR (by omega))
theorem ZdB (hr : RenOk r l outs) (hT : TOk P T) {ds : List (Option Nat)} {K : St → Env → AT → Prop} :
  ∀ (rest : List Oper) (env : Env) (a : AT) (τ σ : St), rest.all (fun o => ZbB o || stB o) = true → ZfW P T l n r ds rest env a K τ → RG r l outs env τ σ → Zh7 P l n ds rest (fun σ' => ∃ τ' env' a', K τ' env' a' ∧ RG r l outs env' τ' σ') σ
 | [], env, a, τ, σ, _, h, hG => ⟨_, _, _, h, hG⟩
 | o :: rest, env, a, τ, σ, hq, h, hG => by
  simp only [YaA, Yd] at hq
  unfold ZfW at h
  unfold Zh7
  split at h
  ·rename_i hg
   simp only [hg]
   split at h
   case h_2 => exact h.elim
   rename_i hc hf
   by_cases hst : stB o = true
   ·obtain ⟨dst, op, ty, ps, af, gd⟩ := o
    cases op <;> simp only [stB] at hst <;> first | (cases hst; done) | skip
    rename_i t p x
    cases dst with
    | some d => cases hst
    | none =>
     unfold Zxl at h
     simp only at h
     unfold ZoS Zp7 Zp8 ZsL at h
     simp only at h hc
     split at h
     case h_2 => exact h.elim
     rename_i i hi hnf
     have hops : ∀ y ∈ (Op.store t p x).operands, ev σ.s y = ren r (ev τ.s y) := by
      unfold ZbC at hc
      exact ZbY hG Zag hc
     have hx := hops x (by simp [Op.operands])
     have hpp := hops p (by simp [Op.operands])
     cases hz : ZaW (ev τ.s x) with
     | none => rw [hz] at h; unfold Zhq at h; split at h <;> first | exact h.elim | (rename_i e; cases e)
     | some vs =>
      rw [hz] at h
      have hz' := ZbZ (r := r) hz (Zfb hnf)
      obtain ⟨k, g, off, e1, e2, e3, e4, e5, e6, e7, e8⟩ := Ze2 hr hG (hT _ _ hi) h
      obtain ⟨τ', a', h1, h2⟩ := e8
      simp only [ZkR, rOp, hpp, hx, hz', e1]
      exact ⟨e2, e3, e4, e5, e6, e7, ZdB hr hT rest _ _ _ _ hq.2 h1 h2⟩
   have hq0 : ZbB o = true := by
    grind
   replace hq : ZbB o = true ∧ _ := ⟨hq0, hq.2⟩
   obtain ⟨dst, op, ty, ps, af, gd⟩ := o
   have hd : ∃ d, dst = some d := by
    have := hq.1
    unfold ZbB ZaM at this
    rw [YC, Yd, Yd] at this
    rcases this with h | h
    ·exact YF.1 h.1
    ·exact YF.1 h.1
   obtain ⟨d, rfl⟩ := hd
   simp only at hc hf hg
   have hp : pV P T l r τ op none a (ZjH n d (fun τ' a' => ZfW P T l n r ds rest (ZcK env (some d)) a' K τ') τ) := by
    by_cases hbs : ∃ t len p, op = .buildSlice t (len + 1) p
    ·obtain ⟨t, len, p, rfl⟩ := hbs
     exact h
    ·have hq1 : ZaM ⟨some d, op, ty, ps, af, gd⟩ = true := Zgg hq.1 fun t len p e => hbs ⟨t, len, p, e⟩
     have h : ZoS P T l n r ⟨some d, op, ty, ps, af, gd⟩ a (fun τ' a' => ZfW P T l n r ds rest (ZcK env (some d)) a' K τ') τ := by
      unfold Zxl at h
      split at h
      ·rename_i e1 _; exact absurd ⟨_, _, _, e1⟩ hbs
      ·exact h
     have h := Zv6 hq1 (ZvB hq1 h)
     unfold Zp8 at h
     simp only at h
     have h : ZsL P T l n r ⟨some d, op, ty, ps, af, none⟩ a (fun τ' a' => ZfW P T l n r ds rest (ZcK env (some d)) a' K τ') τ := by
      subst hg
      split at h
      ·split at h
       ·rename_i hcal; simp [ZaM, hcal] at hq1
       ·grind
       ·exact h
      ·exact h
     unfold ZsL at h
     simp only at h
     split at h
     ·simp [ZaM] at hq1
     ·simp [ZaM] at hq1
     ·grind
     ·simp [ZaM] at hq1
     ·simp [ZaM] at hq1
     ·split at h
      ·rename_i hcal; simp [ZaM, hcal] at hq1
      ·exact h
     ·exact h
   have hex : ∃ v a', ZjH n d (fun τ' a' => ZfW P T l n r ds rest (ZcK env (some d)) a' K τ') τ v a' := ZrT hp
   have hdn : d < n := by
    obtain ⟨v, a', h1⟩ := hex
    unfold ZjH at h1
    split at h1
    ·rename_i hd; have hd := Yf hd; exact hd
    grind
   have := ZqC (ty := ty) (ps := ps) (af := af) (gd := gd) hT hG Zag (fun b e => by cases e) hc hdn hp
   refine Zer (fun σ' hY => ?_) this
   obtain ⟨v, a', rfl, h1⟩ := hY
   unfold ZjH at h1
   split at h1
   ·exact ZdB hr hT rest _ _ _ _ hq.2 h1 (hG.put0 hf rfl)
   grind
  ·rename_i i b hg
   have hq0 : ZbB o = true := by
    have := hq.1
    rw [YC] at this
    rcases this with h | h
    ·exact h
    ·exfalso
     obtain ⟨dst, op, ty, ps, af, gd⟩ := o
     simp only at hg
     subst hg
     cases op <;> cases dst <;> simp [stB] at h
   simp only [hg]
   split at h
   case h_2 => exact h.elim
   rename_i d e hd he
   split at h
   case h_2 => exact h.elim
   rename_i g hch hx hfr hen
   simp only [Yd] at hfr
   have hen := Yf hen
   rw [Zhh hG hd hch]
   refine ⟨fun hgt => ?_, fun hgf => ?_⟩
   ·subst hgt
    have hs := (ZbS hch).1 rfl
    obtain ⟨dst, op, ty, ps, af, gd⟩ := o
    simp only at he
    subst he
    refine Zer (fun σ' hY => ?_) (ZqC (ty := ty) (ps := ps) (af := af) (gd := gd) hT hG hs (fun b' e' => by cases e'; rfl) hx (by omega) h)
    obtain ⟨v, a', rfl, h1⟩ := hY
    exact ZdB hr hT rest _ _ _ _ hq.2 h1 (hG.put hfr.1 hfr.2 (fun _ => rfl) (fun hn => absurd hs hn))
   ·subst hgf
    have hs : ¬ ZfN τ.s ((d, b) :: lk env d) := fun hs => by have := (ZbS hch).2 hs; cases this
    obtain ⟨v, a', h1⟩ := ZrT h
    rw [he]
    exact ⟨hen, ZdB hr hT rest _ _ _ _ hq.2 h1 (hG.put hfr.1 hfr.2 (y := .tup []) (fun h => absurd h hs) (fun _ => rfl))⟩
end
end Go.Eng
