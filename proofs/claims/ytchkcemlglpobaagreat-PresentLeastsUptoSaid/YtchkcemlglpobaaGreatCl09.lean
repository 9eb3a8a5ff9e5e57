import Derived.Test.YtchkcemlglpobaaGreatCl08
import Derived.Test.YtchkcemlglpobaaGreatCl05
import Derived.Test.YtchkcemlglpobaaGreatCl00
namespace Go.Eng
set_option linter.all false
open Go Go.RowKit
def KA (r : Ren) (l n outs : Nat) (B : Base) (env : Env) (K : St → AT → Prop) (σ : St) : Prop := ∃ σ', Zjx r l outs env K σ' ∧ ∀ act w, R l n B σ act w → R l n B σ' act w
section
variable {P : Program} {T : Nat → Option TI} {r : Ren} {l n outs : Nat} {B : Base} {env : Env} {τ σ : St} {a : AT} {o : Oper} {K : St → AT → Prop}
theorem KA.of (h : Zjx r l outs env K σ) : KA r l n outs B env K σ := ⟨σ, h, fun _ _ h => h⟩
theorem Zgc {d : Nat} {e : TypeId} {sz : Nat} {cells : List AV} {x : Nat → AV} (h : ZjH l n d e sz cells x (Zjx r l outs env K) σ) : ZjH l n d e sz cells x (KA r l n outs B env K) σ := ⟨h.1, .of h.2⟩
theorem Zqq (hT : TOk P T) (h : RG r l outs env τ σ) {d : Nat} (hd : o.dst = some d) (hc : Zcj env [] o.op = true) (hf : fresh d env = true) (hp : tV T τ.H o.op (ev τ.s) none a (ZlC n d K τ))
  (hro : rOp P l n o (KA r l n outs B ((d, []) :: env) K) σ = vOp P σ.H o.op (ev σ.s) (ZfI n o.dst (KA r l n outs B ((d, []) :: env) K) σ)) : rOp P l n o (KA r l n outs B ((d, []) :: env) K) σ := by
 rw [hro, hd]
 refine Zhh (fun y hy => ?_) (ZuL hT h Zak (fun b e => by cases e) hc hp)
 obtain ⟨h1, h2⟩ := ZfB h hf hy
 exact ⟨h1, .of h2⟩
theorem ZfW {x : AV} {d : D} (h : Zeh x = some d) : ren r x = x := by
 cases x <;> simp only [Zeh] at h <;> first | (simp [ren]; done) | cases h
theorem Zf3 : ∀ {xs : List AV} {ds : List D}, Zdg xs = some ds → Zan r xs = xs
 | [], _, _ => by simp [Zan]
 | x :: xs, ds, h => by
  simp only [Zdg] at h
  split at h
  ·rename_i d ds' h1 h2
   rw [Zan, ZfW h1, Zf3 h2]
  ·cases h
theorem Zx8 {x : AV} {e : List D} (h : elD x = some e) : ren r x = x := by
 cases x with
 | agg xs => simp only [elD] at h; rw [ren, Zf3 h]
 | _ =>
  simp only [elD] at h
  split at h
  ·rename_i d hd; exact ZfW hd
  ·cases h
theorem Zfy {sz : Nat} : ∀ {ps : List (Nat × AV)} {i : Nat} {es : List (List D)}, Zmu sz i ps = some es → (ps.map fun p => (p.1, ren r p.2)) = ps
 | [], _, _, _ => rfl
 | (j, v) :: ps, i, es, h => by
  simp only [Zmu] at h
  split at h
  ·rename_i e es' h1 h2
   simp only [YE, Zx8 h1, Zfy h2]
  ·cases h
theorem Zjs (h : RG r l outs env τ σ) {sz c : Nat} {y : AV} {news : List AV} (ho : Zuf τ.H sz y = true) (hs : Zry sz (cellsOf τ.H y) y c news) : Zvp σ.H sz (ren r y) = some (c, Zan r news) ∧ (Zan r news).all AV.one = true := by
 obtain ⟨h1, h2⟩ := hs
 have hone : (Zan r news).all AV.one = true := by
  rw [Zcx, List.all_map]
  refine Yh.2 fun x hx => ?_
  have := Yh.1 h1 x hx
  cases x <;> first | (simp [Function.comp, ren, AV.one]; done) | cases this
 refine ⟨?_, hone⟩
 split at h2
 ·obtain ⟨rfl, rfl⟩ := h2; simp [ren, Zvp, Zan]
 ·rename_i es
  obtain ⟨h3, rfl, rfl⟩ := h2
  simp only [ren, Zvp]
  rw [if_pos (Yh.2 fun e he => by simpa using h3 e he), Zez]
 ·rename_i k g off m
  obtain ⟨rfl, h3, rfl⟩ := h2
  simp only [Zuf, Bool.and_eq_true] at ho
  obtain ⟨hl, hz⟩ := ho
  obtain ⟨g1, g2, g3, g4, g5⟩ := h.h.at hl
  have e : cellsOf τ.H (.ref k g off c) = (τ.H k).cells := by simp [cellsOf, hl]
  rw [e] at h3 ⊢
  simp only [ren, Zvp]
  rw [if_pos ⟨g1, g2, by rw [g4]; exact Ya hz, by rw [g5, ZaB]; exact h3⟩, g5, Zbj, ZbB]
 ·exact h2.elim
theorem Znm (hr : RenOk r l outs) (hT : TOk P T) (h : RG r l outs env τ σ) {d : Nat} {t : TypeId} {x y : AV} (hf : fresh d env = true) (hp : ZJz T r n d t x y a K τ) :
  ZBf P l n d t (ren r x) (ren r y) (KA r l n outs B ((d, []) :: env) K) σ := by
 unfold ZJz at hp
 split at hp
 case h_2 => exact hp.elim
 rename_i i hi
 split at hp
 case h_2 => exact hp.elim
 rename_i e sz he
 split at hp
 case h_2 => exact hp.elim
 rename_i j hj hsz hsrc
 have hsz := Yc hsz
 unfold ZBf
 rw [(hT _ _ hi).elm _ he]
 split at hp
 ·rename_i byt z c news q hb hz
  obtain ⟨h1, h2, h3⟩ := hp
  obtain ⟨e1, e2⟩ := Zjs h hsrc h1
  obtain ⟨b1, b2⟩ := (hT _ _ hj).byt _ hb
  have hlim : c * P.bytesOf e ≤ 140737488355328 := Y9 (Nat.mul_le_mul_left _ b1) h2
  refine ⟨by omega, b2, by rw [(hT _ _ hj).zer _ hz]; rfl, ?_⟩
  simp only [e1, ren]
  refine ⟨e2, hlim, fun hc => ?_, fun hc => ?_⟩
  ·subst hc
   have hd : d < n := by
    unfold ZvL at h3
    split at h3
    ·rename_i hd; have := Yc hd; omega
    ·exact h3.elim
   have hn := Zdv (x' := fun g => .ref (l + 1, d) g 0 0) hr h hf (fun g => by simp [ren, hr.own]) h3
   have hnil : Zan r news = [] := by
    have hl : news = [] := by
     obtain ⟨_, h1⟩ := h1
     split at h1
     ·exact h1.2
     ·obtain ⟨_, h4, h5⟩ := h1
      have : ‹List (List D)› = [] := YO h4.symm
      rw [this] at h5; simpa using h5
     ·obtain ⟨h4, _, h5⟩ := h1; rw [← h4] at h5; simpa using h5
     ·exact h1.elim
    rw [hl]; simp [Zan]
   rw [hnil] at hn
   refine ⟨hd, _, hn.2, fun act w hR => ?_⟩
   have := R.adopt (e := e) (sz := sz) hR (l + 1, d) rfl ((σ.H (l + 1, d)).g + 1) (YP _) (d := d) (by simp [upd])
   have e3 : upd (upd σ.s d .e0) d (.ref (l + 1, d) ((σ.H (l + 1, d)).g + 1) 0 0) = upd σ.s d (.ref (l + 1, d) ((σ.H (l + 1, d)).g + 1) 0 0) := by funext j; unfold upd; split <;> rfl
   simp only [e3] at this
   exact this
  ·exact Zgc (Zdv (x' := fun g => .ref (l + 1, d) g 0 c) hr h hf (fun g => by simp [ren, hr.own]) h3)
 ·rename_i byt z k q off c' c news C' n' q' hb hz
  split at hp
  case h_2 => exact hp.elim
  rename_i hl hs2 he2 hd
  obtain ⟨h1, ⟨h2, h3, h4, h5⟩, h6⟩ := hp
  obtain ⟨h6, hko, hlow⟩ := Zhc hr h (Za9 hl).2 h6
  obtain ⟨e1, e2⟩ := Zjs h hsrc h1
  obtain ⟨b1, b2⟩ := (hT _ _ hj).byt _ hb
  obtain ⟨g1, g2, g3, g4, g5⟩ := h.h.at hl
  have hd := Yc hd
  have hs2 := Ya hs2
  have he2 := ZxN he2
  refine ⟨by omega, b2, by rw [(hT _ _ hj).zer _ hz]; rfl, ?_⟩
  simp only [e1, ren]
  refine ⟨e2, g1, g2, by rw [g4, hs2], by rw [g3, he2], by rw [g5, ZaB]; exact h2, by rw [h4]; exact Y9 (Nat.mul_le_mul_left _ b1) h5, hlow, by omega, .of ⟨_, _, h6, ?_⟩⟩
  have h7 := h.put0 (v := .ref k (q + 1) 0 n') (y := .ref (r.κ k) (r.γ k + q + 1) 0 (c' + c)) hf (by simp [ren, h4, Yp])
  have h8 := RG.updH hr h7 k ⟨q + 1, true, e, sz, C'⟩ rfl hko
  have e3 : ZaZ r k ⟨q + 1, true, e, sz, C'⟩ = ⟨r.γ k + q + 1, true, e, sz, (σ.H (r.κ k)).cells.drop (off * sz) ++ Zan r news⟩ := by
   simp only [ZaZ, g5, Zbj, ← Zcr, h3, Yp]
  rw [e3] at h8
  exact h8
 ·exact hp.elim
theorem Zf1 (hr : RenOk r l outs) (h : RG r l outs env τ σ) {t : TypeId} {i : TI} (hi : TIok P t i) {x : AV} {vs : List AV} (hp : Ziy r n i x (some vs) a K τ) :
  ∃ k g off, ren r x = .ptr k g off ∧ g = (σ.H k).g ∧ (σ.H k).live = true ∧ (Zan r vs).length = P.cellsOf t ∧ Zan r vs ≠ [] ∧ off + (Zan r vs).length ≤ (σ.H k).cells.length ∧ (k.1 = l + 1 ∨ (Zan r vs).all (AV.low k.1) = true) ∧
   Zjx r l outs env K ⟨σ.s, updH σ.H k { σ.H k with cells := (σ.H k).cells.take off ++ Zan r vs ++ (σ.H k).cells.drop (off + (Zan r vs).length) }⟩ := by
 unfold Ziy at hp
 split at hp
 case h_2 => exact hp.elim
 rename_i k q off vs' heq
 cases heq
 split at hp
 case h_2 => exact hp.elim
 rename_i hl hv1 hv2
 have hv1 := Ya hv1
 have hv2 := Yc hv2
 obtain ⟨g1, g2, g3, g4, g5⟩ := h.h.at hl
 obtain ⟨q1, q2⟩ := Za9 hl
 have fin : ∀ C' r', StS (τ.H k).cells off vs C' → wrK r k vs (K ⟨τ.s, updH τ.H k ⟨q, true, (τ.H k).e, (τ.H k).sz, C'⟩⟩ r') → _ := fun C' r' hs hK => by
  obtain ⟨s1, s2⟩ := hs
  obtain ⟨hK, hko, hlow⟩ := Zhc hr h (Za9 hl).2 hK
  refine (⟨r.κ k, r.γ k + q, off, by simp [ren], g1, g2, by rw [ZaB, hi.siz, hv1], by intro e; have := congrArg List.length e; rw [ZaB, Yaf] at this; omega, by rw [g5, ZaB, ZaB]; exact s1, ?_, _, _, hK, ?_⟩ :
   ∃ k' g off', ren r (.ptr k q off) = .ptr k' g off' ∧ g = (σ.H k').g ∧ (σ.H k').live = true ∧ (Zan r vs).length = P.cellsOf t ∧ Zan r vs ≠ [] ∧ off' + (Zan r vs).length ≤ (σ.H k').cells.length ∧ (k'.1 = l + 1 ∨ (Zan r vs).all (AV.low k'.1) = true) ∧
   Zjx r l outs env K ⟨σ.s, updH σ.H k' { σ.H k' with cells := (σ.H k').cells.take off' ++ Zan r vs ++ (σ.H k').cells.drop (off' + (Zan r vs).length) }⟩)
  ·exact hlow
  ·have h8 := RG.updH hr h k ⟨q, true, (τ.H k).e, (τ.H k).sz, C'⟩ rfl hko
   have e3 : ZaZ r k ⟨q, true, (τ.H k).e, (τ.H k).sz, C'⟩ = { σ.H (r.κ k) with cells := (σ.H (r.κ k)).cells.take off ++ Zan r vs ++ (σ.H (r.κ k)).cells.drop (off + (Zan r vs).length) } := by
    simp only [ZaZ, g5, ZaB, ZbB, Zbj, ← Zcr, s2, g1, g3, g4, ← g2]
   rw [e3] at h8
   exact h8
 split at hp
 ·split at hp
  ·rename_i hb; exact fin _ _ ⟨Yc hb, rfl⟩ hp
  ·exact hp.elim
 ·exact fin _ _ hp.1 hp.2
 ·exact hp.elim
theorem Zlb (hr : RenOk r l outs) (hT : TOk P T) (h : RG r l outs env τ σ) (hc : Zcj env [] o.op = true) (hf : ZdR env o.dst = true) (hp : ZzF P T l n r o a K τ) : rOp P l n o (KA r l n outs B (ZdT env o.dst) K) σ := by
 obtain ⟨dst, op, ty, ps, af, gd⟩ := o
 have ops : ∀ {op : Op}, Zcj env [] op = true → (∀ c x y, op ≠ .pick c x y) → ∀ x ∈ op.operands, ev σ.s x = ren r (ev τ.s x) := fun {op} hc hne => by
  unfold Zcj at hc
  split at hc
  ·exact absurd rfl (hne _ _ _)
  ·exact ZcF h Zak hc
 unfold ZzF at hp
 simp only at hc hf hp ⊢
 split at hp
 ·rename_i t
  split at hp
  case h_2 => exact hp.elim
  rename_i d i hi
  split at hp
  case h_2 => exact hp.elim
  rename_i z zs hz
  have hfl := ZcQ (r := r) ((hT _ _ hi).flt _ hz)
  have hn := Zdv (x' := fun g => .ptr (l + 1, d) g 0) hr h hf (fun g => by simp [ren, hr.own]) hp
  rw [hfl] at hn
  simp only [rOp, (hT _ _ hi).zer _ hz]
  exact ⟨by simp, Zgc hn⟩
 ·rename_i t x
  split at hp
  case h_2 => exact hp.elim
  rename_i d z zs hz hnf
  have hx := ops hc (fun _ _ _ e => by cases e) x (by simp [Op.operands])
  have hn := Zdv (x' := fun g => .ptr (l + 1, d) g 0) hr h hf (fun g => by simp [ren, hr.own]) hp
  have hz' := ZcI (r := r) hz (ZfE hnf)
  simp only [rOp, hx, hz']
  refine ⟨Zsw (by simp), ?_⟩
  rw [ZaB]
  exact Zgc hn
 ·rename_i t p x
  split at hp
  case h_2 => exact hp.elim
  rename_i i hi hnf
  have hx := ops hc (fun _ _ _ e => by cases e) x (by simp [Op.operands])
  have hpp := ops hc (fun _ _ _ e => by cases e) p (by simp [Op.operands])
  cases hz : Zbh (ev τ.s x) with
  | none => rw [hz] at hp; unfold Ziy at hp; split at hp <;> first | exact hp.elim | (rename_i e; cases e)
  | some vs =>
   rw [hz] at hp
   have hz' := ZcI (r := r) hz (ZfE hnf)
   obtain ⟨k, g, off, e1, e2, e3, e4, e5, e6, e7, e8⟩ := Zf1 hr h (hT _ _ hi) hp
   simp only [rOp, hpp, hx, hz', e1]
   exact ⟨e2, e3, e4, e5, e6, e7, .of e8⟩
 ·rename_i t len parts
  split at hp
  case h_2 => exact hp.elim
  rename_i d i hi
  split at hp
  case h_2 => exact hp.elim
  rename_i e sz he
  simp only [rOp, (hT _ _ hi).elm _ he]
  split at hp
  ·rename_i hsz
   have hsz := Yc hsz
   refine ⟨by omega, ?_⟩
   split at hp
   ·rename_i hps
    obtain ⟨h1, h2⟩ := ZfB h hf (y := .e0) ⟨.e0, a, by simp [ren], hp⟩
    exact ⟨by rw [← YQ, hps]; rfl, h1, .of h2⟩
   ·exact hp.elim
  ·rename_i len' hsz
   have hsz := Yc hsz
   refine ⟨by omega, ?_⟩
   split at hp
   case h_2 => exact hp.elim
   rename_i j hj hlim
   split at hp
   case h_2 => exact hp.elim
   rename_i z hz
   split at hp
   case h_2 => exact hp.elim
   rename_i es hzl hlit
   split at hp
   case h_2 => exact hp.elim
   rename_i hes
   have e1 : (parts.toList.map fun p => (p.1, ev σ.s p.2)) = parts.toList.map fun p => (p.1, ev τ.s p.2) := by
    have : (parts.toList.map fun p => (p.1, ev σ.s p.2)) = (parts.toList.map fun p => (p.1, ev τ.s p.2)).map fun p => (p.1, ren r p.2) := by
     rw [Yam]
     refine YR fun p hp => ?_
     simp only [Function.comp]
     rw [ops hc (fun _ _ _ e => by cases e) p.2 (by simp only [Op.operands, Yav, Yy]; exact ⟨p, hp, rfl⟩)]
    rw [this, Zfy hlit]
   rw [e1]
   simp only [(hT _ _ hj).zer _ hz, hlit]
   obtain ⟨h1, h2⟩ := ZfB h hf (y := .d (.list es)) ⟨.d (.list es), a, by simp [ren], hp⟩
   exact ⟨Yc hlim, Ya hzl, Ya hes, h1, .of h2⟩
  ·exact hp.elim
 ·rename_i t x y
  split at hp
  case h_2 => exact hp.elim
  rename_i d i k1 c k2 c' m C b hi hx0 hy0
  have hx := ops hc (fun _ _ _ e => by cases e) x (by simp [Op.operands])
  have hy := ops hc (fun _ _ _ e => by cases e) y (by simp [Op.operands])
  rw [hx0] at hx
  rw [hy0] at hy
  split at hp
  case h_2 => exact hp.elim
  rename_i e sz he
  split at hp
  case h_2 => exact hp.elim
  rename_i j hj hsz
  split at hp
  case h_2 => exact hp.elim
  rename_i z byt hz hbyt
  split at hp
  case h_2 => exact hp.elim
  rename_i hzl
  obtain ⟨⟨m1, m2, m3, m4⟩, hp⟩ := hp
  have hzl := Ya hzl
  have hsz := Yc hsz
  have hb := (hT _ _ hj).byt _ hbyt
  have hfz := (hT _ _ hj).flt _ hz
  have hflC : C.all AV.flat = true := by
   subst m4
   refine Yh.2 fun q hq => ?_
   obtain ⟨z', hz', hq'⟩ := YaG.1 hq
   rw [(Yax.1 hz').2] at hq'
   exact Yh.1 hfz q hq'
  have hfl := ZcQ (r := r) hflC
  have hn := Zdv (x' := fun g => .ref (l + 1, d) g 0 m) hr h hf (fun g => by simp [ren, hr.own]) hp
  rw [hfl] at hn
  simp only [rOp, (hT _ _ hi).elm _ he, hx, hy, ren, (hT _ _ hj).zer _ hz]
  subst m1
  have hbb : (P.bytesOf e : Int) * c' ≤ (byt : Int) * c' := YaM (by omega) (by omega)
  refine ⟨by omega, m2, by omega, hb.2, by omega, hzl, ?_⟩
  simp only [YaX, m4]
  exact Zgc hn
 ·rename_i c
  split at hp
  ·rename_i hcal
   split at hp
   case h_2 => exact hp.elim
   rename_i d x y t t' ha ht
   split at hp
   case h_2 => exact hp.elim
   rename_i htt
   have htt := Ya htt
   subst htt
   have h2 : c.argTypes = #[t, t] := YS (by simpa using ht)
   have hx := ops hc (fun _ _ _ e => by cases e) x (by simp only [Op.operands, Call.operands, Yau]; exact .inr (by rw [← YaL, ha]; simp))
   have hy := ops hc (fun _ _ _ e => by cases e) y (by simp only [Op.operands, Call.operands, Yau]; exact .inr (by rw [← YaL, ha]; simp))
   simp only [rOp, hcal, ha, ht]
   refine ⟨by rw [h2]; rfl, ?_⟩
   rw [hx, hy]
   exact Znm hr hT h hf hp
  ·rename_i hna
   split at hp
   case h_2 => exact hp.elim
   rename_i d
   unfold pV at hp
   simp only at hp
   split at hp
   ·rename_i f hcal
    obtain ⟨i, first, caps, x, a', e1, e2, e3⟩ := Zgg h Zak (fun b e => by cases e) hcal hc hp
    simp only [rOp, hcal, e1]
    refine e2.mono fun y H' ⟨h1, h2⟩ => ?_
    subst h1; subst h2
    obtain ⟨h1, h2⟩ := ZfB h hf (y := ren r x) ⟨x, a', rfl, e3⟩
    exact ⟨h1, .of h2⟩
   ·rename_i hnv
    refine Zqq (o := ⟨some d, .call c, ty, ps, af, gd⟩) hT h rfl hc hf hp ?_
    simp only [rOp]
 ·rename_i h1 h2 h3 h4 h5 h6
  split at hp
  case h_2 => exact hp.elim
  rename_i d
  have hp' : tV T τ.H op (ev τ.s) none a (ZlC n d K τ) := by
   unfold pV at hp
   split at hp
   ·exact absurd rfl (h6 _)
   ·exact absurd rfl (h4 _ _ _)
   ·exact hp
  refine Zqq (o := ⟨some d, op, ty, ps, af, gd⟩) hT h rfl hc hf hp' ?_
  simp only [rOp]
theorem Zpi {d : Option Nat} {v y : AV} {H' : Hp} (hf : ZdR env d = true) {τ' : St} (h : RG r l outs env ⟨τ.s, τ'.H⟩ ⟨σ.s, H'⟩) (hy : y = ren r v) (hk : ZGE n K τ.s τ'.H v a d) :
  ZfI n d (KA r l n outs B (ZdT env d) K) ⟨σ.s, H'⟩ y := by
 cases d with
 | none => exact .of ⟨_, _, hk, h⟩
 | some d =>
  simp only [ZGE] at hk
  split at hk
  ·rename_i hd; exact ⟨Yc hd, .of ⟨_, _, hk, h.put0 hf hy⟩⟩
  ·exact hk.elim
theorem ZhG (hr : RenOk r l outs) (hT : TOk P T) (h : RG r l outs env τ σ) (hc : Zcj env [] o.op = true) (hf : ZdR env o.dst = true) (hp : ZuB P T l n r o a K τ) : AOp P l n B o (KA r l n outs B (ZdT env o.dst) K) σ := by
 have ops : ∀ {op : Op}, Zcj env [] op = true → (∀ c x y, op ≠ .pick c x y) → ∀ x ∈ op.operands, ev σ.s x = ren r (ev τ.s x) := fun {op} hc hne => by
  unfold Zcj at hc
  split at hc
  ·exact absurd rfl (hne _ _ _)
  ·exact ZcF h Zak hc
 unfold ZuB at hp
 split at hp
 case h_2 => exact Zdp (Zlb hr hT h hc hf hp)
 rename_i c ho
 split at hp
 ·rename_i hcal
  split at hp
  case h_2 => exact hp.elim
  rename_i x y t t' ha ht
  have ho' : o.op = .call ⟨.builtin .copy, #[x, y], #[t, t']⟩ := by
   rw [ho]
   have e1 : c.args = #[x, y] := YS (by simpa using ha)
   have e2 : c.argTypes = #[t, t'] := YS (by simpa using ht)
   cases c; simp only at hcal e1 e2; subst hcal; subst e1; subst e2; rfl
  rw [ho'] at hc
  have hx := ops hc (fun _ _ _ e => by cases e) x (by simp [Op.operands, Call.operands])
  have hy := ops hc (fun _ _ _ e => by cases e) y (by simp [Op.operands, Call.operands])
  unfold ZDO at hp
  split at hp
  case h_2 => exact hp.elim
  rename_i i i' hi hi'
  split at hp
  case h_2 => exact hp.elim
  rename_i e sz e' sz' he he'
  split at hp
  case h_2 => exact hp.elim
  rename_i j q1 q2 hj hsz hsrc
  split at hp
  case h_2 => exact hp.elim
  rename_i z k q off cn cnt news C' b hz hxv
  split at hp
  case h_2 => exact hp.elim
  rename_i hl hs2
  obtain ⟨h1, h2, h3, h4⟩ := hp
  obtain ⟨h4, hko, hlow⟩ := Zhc hr h (Za9 hl).2 h4
  have q1 := Ya q1
  have q2 := Ya q2
  subst q1; subst q2
  have hs2 := Ya hs2
  have hsz := Yc hsz
  obtain ⟨g1, g2, g3, g4, g5⟩ := h.h.at hl
  obtain ⟨e1, e2⟩ := Zjs h hsrc h1
  rw [hxv] at hx
  obtain ⟨s1, s2⟩ := h3
  obtain ⟨ss, sH⟩ := σ
  refine ZsT (k := r.κ k) (g := r.γ k + q) (off := off) (cn := cn) (cnt := cnt) (news := Zan r news) ho' (by rw [hx]; simp [ren]) ((hT _ _ hi).elm _ he) ((hT _ _ hi').elm _ he') (by rw [(hT _ _ hj).zer _ hz]; rfl) (by omega) g1 g2 (by rw [g4, hs2]) (by rw [hy]; exact e1) h2
   (by rw [g5, ZaB, ZaB]; exact s1) hlow ?_
  have h8 := RG.updH hr h k ⟨q, true, (τ.H k).e, (τ.H k).sz, C'⟩ rfl hko
  have e3 : ZaZ r k ⟨q, true, (τ.H k).e, (τ.H k).sz, C'⟩ = { sH (r.κ k) with cells := (sH (r.κ k)).cells.take (off * sz) ++ Zan r news ++ (sH (r.κ k)).cells.drop (off * sz + (Zan r news).length) } := by
   simp only at g1 g2 g3 g4 g5
   simp only [ZaZ, g5, ZaB, ZbB, Zbj, ← Zcr, s2, g1, g3, g4, ← g2]
  simp only at e3
  rw [e3] at h8
  refine Zpi (v := .d (.int .i64 cnt)) (a := b) (τ' := ⟨τ.s, updH τ.H k ⟨q, true, (τ.H k).e, (τ.H k).sz, C'⟩⟩) hf h8 (by simp [ren]) h4
 ·rename_i hcal
  split at hp
  case h_2 => exact hp.elim
  rename_i x t ha ht hd
  have ho' : o.op = .call ⟨.builtin .clear, #[x], #[t]⟩ := by
   rw [ho]
   have e1 : c.args = #[x] := YS (by simpa using ha)
   have e2 : c.argTypes = #[t] := YS (by simpa using ht)
   cases c; simp only at hcal e1 e2; subst hcal; subst e1; subst e2; rfl
  rw [ho'] at hc
  have hx := ops hc (fun _ _ _ e => by cases e) x (by simp [Op.operands, Call.operands])
  unfold Zv6 at hp
  split at hp
  case h_2 => exact hp.elim
  rename_i i hi
  split at hp
  case h_2 => exact hp.elim
  rename_i e sz he
  split at hp
  case h_2 => exact hp.elim
  rename_i j hj hsz
  split at hp
  case h_2 => exact hp.elim
  rename_i z k q off cn C' b hz hxv
  split at hp
  case h_2 => exact hp.elim
  rename_i hl hs2 hzl
  obtain ⟨⟨h1, h2⟩, h4⟩ := hp
  obtain ⟨h4, hko, hlow⟩ := Zhc hr h (Za9 hl).2 h4
  have hs2 := Ya hs2
  have hsz := Yc hsz
  have hzl := Ya hzl
  obtain ⟨g1, g2, g3, g4, g5⟩ := h.h.at hl
  have hfz := ZcQ (r := r) ((hT _ _ hj).flt _ hz)
  rw [hfz] at hlow
  rw [hxv] at hx
  obtain ⟨ss, sH⟩ := σ
  refine ZoU (k := r.κ k) (g := r.γ k + q) (off := off) (cn := cn) ho' hd (by rw [hx]; simp [ren]) ((hT _ _ hi).elm _ he) ((hT _ _ hj).zer _ hz) hzl (by omega) g1 g2 (by rw [g4, hs2]) (by rw [g5, ZaB]; exact h1) hlow ?_
  have h8 := RG.updH hr h k ⟨q, true, (τ.H k).e, (τ.H k).sz, C'⟩ rfl hko
  have hrep : Zan r (List.replicate cn z).flatten = (List.replicate cn z).flatten := ZcQ (by
   refine Yh.2 fun q hq => ?_
   obtain ⟨z', hz', hq'⟩ := YaG.1 hq
   rw [(Yax.1 hz').2] at hq'
   exact Yh.1 ((hT _ _ hj).flt _ hz) q hq')
  have e3 : ZaZ r k ⟨q, true, (τ.H k).e, (τ.H k).sz, C'⟩ = { sH (r.κ k) with cells := (sH (r.κ k)).cells.take (off * sz) ++ (List.replicate cn z).flatten ++ (sH (r.κ k)).cells.drop ((off + cn) * sz) } := by
   simp only at g1 g2 g3 g4 g5
   rw [← h2]
   simp only [ZaZ, g5, Zcr, ZbB, Zbj, hrep, g1, g3, g4, ← g2]
  simp only at e3
  rw [e3] at h8
  exact .of ⟨_, _, h4, by rw [hd]; exact h8⟩
 ·exact Zdp (Zlb hr hT h hc hf hp)
theorem ZEh {place : Nat → Option (Nat × Nat)} : ∀ (ps : List (Nat × AV)) (z cs : List AV), (∀ p ∈ ps, ZuC p.2 = true) → ZcP place z ps = some cs → ZcP place (Zan r z) (ps.map fun p => (p.1, ren r p.2)) = some (Zan r cs)
 | [], z, cs, _, h => by
  simp only [ZcP, Ye] at h
  subst h
  simp [ZcP]
 | (f, v) :: ps, z, cs, hn, h => by
  simp only [ZcP] at h
  split at h
  ·rename_i off size vs hp hv
   split at h
   ·cases h
   ·rename_i h1
    have hv' := ZcI (r := r) hv (ZfE (hn (f, v) (Yw ..)))
    simp only [YE, ZcP, hp, hv', ZaB]
    rw [if_neg h1]
    have := ZEh ps _ cs (fun p hp => hn p (Yq _ hp)) h
    rw [← this]
    simp only [Zcr, ZbB, Zbj]
  ·cases h
theorem ZGh (hq : ZaU o = true) (hp : ZvV P T l n r o a K τ) : ZuB P T l n r o a K τ := by
 unfold ZvV at hp
 split at hp
 ·rename_i ho; simp [ZaU, ho] at hq
 ·exact hp
theorem Zll (hr : RenOk r l outs) (hT : TOk P T) (h : RG r l outs env τ σ) (hc : Zcj env [] o.op = true) (hf : ZdR env o.dst = true) (hp : ZvV P T l n r o a K τ) : AOp P l n B o (KA r l n outs B (ZdT env o.dst) K) σ := by
 unfold ZvV at hp
 split at hp
 case h_2 => exact ZhG hr hT h hc hf hp
 rename_i t len parts ho
 split at hp
 case h_2 => exact ZhG hr hT h hc hf hp
 case h_3 => exact ZhG hr hT h hc hf hp
 rename_i b
 have ops : ∀ x ∈ o.op.operands, ev σ.s x = ren r (ev τ.s x) := by
  unfold Zcj at hc
  split at hc
  ·rename_i e; rw [ho] at e; cases e
  ·exact ZcF h Zak hc
 unfold ZuT at hp
 split at hp
 case h_2 => exact hp.elim
 rename_i d i hd hi
 split at hp
 case h_2 => exact hp.elim
 rename_i e sz he
 split at hp
 case h_2 => exact hp.elim
 rename_i j hj hsz hlim
 split at hp
 case h_2 => exact hp.elim
 rename_i z hz
 split at hp
 case h_2 => exact hp.elim
 rename_i cs hzl hfill hfl
 split at hp
 case h_2 => exact hp.elim
 rename_i hcs
 have e1 : (parts.toList.map fun p => (p.1, ev σ.s p.2)) = (parts.toList.map fun p => (p.1, ev τ.s p.2)).map fun p => (p.1, ren r p.2) := by
  rw [Yam]
  refine YR fun p hp => ?_
  rw [ops p.2 (by rw [ho]; simp only [Op.operands, Yav, Yy]; exact ⟨p, hp, rfl⟩)]
  rfl
 have hd' : o.dst = some d := hd
 rw [hd'] at hf ⊢
 have hn := Zdv (x' := fun g => .ref (l + 1, d) g 0 (len + 1)) hr h hf (fun g => by simp [ren, hr.own]) hp
 obtain ⟨s, H⟩ := σ
 exact Zem ho hd' ((hT _ _ hi).elm _ he) (by have := Yc hsz; omega) (Yc hlim) ((hT _ _ hj).zer _ hz) (Ya hzl) (by
  rw [e1]
  have := ZEh (r := r) _ _ _ (fun p hp => Yh.1 hfl p hp) hfill
  rw [ZcQ (r := r) (z := (List.replicate (len + 1) z).flatten) (Yh.2 fun x hx => by
   obtain ⟨y, hy, hx⟩ := YaG.1 hx
   rw [List.eq_of_mem_replicate hy] at hx
   exact Yh.1 hcs x hx)] at this
  exact this) (Zgc hn)
theorem ZCn (hq : ZaU o = true) (hp : Zs5 P T l n r o a K τ) : ZvV P T l n r o a K τ := by
 unfold Zs5 at hp
 split at hp
 case h_8 c ho =>
  split at hp
  ·rename_i hc; simp [ZaU, ho, hc] at hq
  ·exact hp
 case h_9 => exact hp
 all_goals rename_i ho
 ·simp [ZaU, ho] at hq
 ·unfold pMs at hp
  split at hp
  ·rename_i hd _ _ _; simp [ZaU, hd] at hq
  ·exact hp.elim
 ·unfold pMs at hp
  split at hp
  ·rename_i hd _ _ _; simp [ZaU, hd] at hq
  ·exact hp.elim
 ·simp [ZaU, ho] at hq
 ·simp [ZaU, ho] at hq
 ·simp [ZaU, ho] at hq
 ·simp [ZaU, ho] at hq
theorem ZtG {q : Bool} {x : AV} {ds : List D} (h : Zzm q x = some ds) : ren r x = x := by
 cases q with
 | true =>
  cases x <;> simp only [Zzm] at h <;> try (cases h; done)
  case agg xs => simp only [ren, Zf3 h]
 | false =>
  have h : (Zeh x).map (fun d => [d]) = some ds := by cases x <;> exact h
  obtain ⟨d, h1, _⟩ := YT.1 h
  exact ZfW h1
theorem ZeY (hr : RenOk r l outs) (h : RG r l outs env τ σ) {K : St → AT → Prop} {d : Nat} (hf : fresh d env = true) {e : EK} {x x' : Nat → AV} (hx : ∀ g, x' (r.γ (1, d) + g) = ren r (x g)) (hn : Zqd n d e x K τ a) :
  ZGx l n d e x' (KA r l n outs B ((d, []) :: env) K) σ := by
 unfold Zqd at hn
 split at hn
 ·rename_i hd
  refine ⟨Yc hd, .of ⟨_, _, hn, ?_⟩⟩
  have h1 := RG.updH hr h (1, d) ⟨(τ.H (1, d)).g + 1, true, e, 0, []⟩ rfl (.inl rfl)
  have h2 := h1.put0 hf (v := x ((τ.H (1, d)).g + 1)) (y := x' ((σ.H (l + 1, d)).g + 1)) (by rw [h.g, Yp]; exact hx _)
  have e1 : ZaZ r (1, d) ⟨(τ.H (1, d)).g + 1, true, e, 0, []⟩ = ⟨(σ.H (l + 1, d)).g + 1, true, e, 0, []⟩ := by simp only [ZaZ, Zan, h.g, Yp]
  rw [e1, hr.own] at h2
  exact h2
 ·exact hn.elim
theorem Zk0 (hr : RenOk r l outs) (hT : TOk P T) (h : RG r l outs env τ σ) (hc : Zcj env [] o.op = true) (hf : ZdR env o.dst = true) (hp : Zs5 P T l n r o a K τ) : AOp P l n B o (KA r l n outs B (ZdT env o.dst) K) σ := by
 have ops : (∀ c x y, o.op ≠ .pick c x y) → ∀ x ∈ o.op.operands, ev σ.s x = ren r (ev τ.s x) := fun hne => by
  unfold Zcj at hc
  split at hc
  ·rename_i e; exact absurd e (hne _ _ _)
  ·exact ZcF h Zak hc
 have st : ∀ {t x y z} (ho : o.op = .mapUpdate t x y z ∨ o.op = .insert t x y z) (hx : ev σ.s x = ren r (ev τ.s x)) (hy : ev σ.s y = ren r (ev τ.s y)) (hz : ev σ.s z = ren r (ev τ.s z)) (hp : pMs T r o.dst t (ev τ.s x) (ev τ.s y) (ev τ.s z) a K τ), AOp P l n B o (KA r l n outs B (ZdT env o.dst) K) σ := by
  intro t x y z ho hx hy hz hp
  unfold pMs at hp
  split at hp
  case h_2 => exact hp.elim
  rename_i i k g s hd hi hxv hyv
  split at hp
  case h_2 => exact hp.elim
  rename_i q z0 q' es hmp hl he
  split at hp
  case h_2 => exact hp.elim
  rename_i ds es' b _ _ _
  obtain ⟨h1, h2⟩ := hp
  have hv : Zzm q (ev τ.s z) = some ds := by assumption
  have hq : bqB q q' = true := by assumption
  have hq := ZoE hq
  subst hq
  obtain ⟨h2, hko, _⟩ := Zhc hr h (Za9 hl).2 h2
  obtain ⟨g1, g2, g3, g4, g5⟩ := h.h.at hl
  rw [hxv] at hx
  rw [hyv] at hy
  rw [ZtG hv] at hz
  obtain ⟨ss, sH⟩ := σ
  refine Zi3 (sk := s) (k := r.κ k) (g := r.γ k + g) (es := es) ho hd ((hT _ _ hi).mp _ hmp) (by rw [hx]; simp [ren]) g1 g2 (by rw [g3]; exact he) (by rw [hy]; simp [ren]) (by rw [hz]; exact hv) ?_
  have h8 := RG.updH hr h k ⟨g, true, .m q es', (τ.H k).sz, (τ.H k).cells⟩ rfl hko
  have e3 : ZaZ r k ⟨g, true, .m q es', (τ.H k).sz, (τ.H k).cells⟩ = { sH (r.κ k) with e := .m q (Zh9 s ds es) } := by
   simp only at g1 g2 g3 g4 g5
   rw [show Zh9 s ds es = es' from h1]
   simp only [ZaZ, g1, g4, ← g5, ← g2]
  simp only at e3
  rw [e3] at h8
  rw [hd]
  exact .of ⟨_, _, h2, h8⟩
 unfold Zs5 at hp
 split at hp
 case h_9 => exact Zll hr hT h hc hf hp
 case h_8 c ho =>
  split at hp
  case h_2 => exact Zll hr hT h hc hf hp
  rename_i hcal
  split at hp
  case h_2 => exact hp.elim
  rename_i x y t t' ha ht
  have ho' : o.op = .call ⟨.builtin .delete, #[x, y], #[t, t']⟩ := by
   rw [ho]
   have e1 : c.args = #[x, y] := YS (by simpa using ha)
   have e2 : c.argTypes = #[t, t'] := YS (by simpa using ht)
   cases c; simp only at hcal e1 e2; subst hcal; subst e1; subst e2; rfl
  have ops := ops (by rw [ho']; intro _ _ _ e; cases e)
  rw [ho'] at ops
  have hx := ops x (by simp [Op.operands, Call.operands])
  have hy := ops y (by simp [Op.operands, Call.operands])
  unfold pMd at hp
  split at hp
  case h_2 => exact hp.elim
  rename_i i k g s hd hi hxv hyv
  split at hp
  case h_2 => exact hp.elim
  rename_i q z0 q' es hmp hl he
  split at hp
  case h_2 => exact hp.elim
  rename_i es' b _
  obtain ⟨h1, h2⟩ := hp
  have hq : bqB q q' = true := by assumption
  have hq := ZoE hq
  subst hq
  obtain ⟨h2, hko, _⟩ := Zhc hr h (Za9 hl).2 h2
  obtain ⟨g1, g2, g3, g4, g5⟩ := h.h.at hl
  rw [hxv] at hx
  rw [hyv] at hy
  obtain ⟨ss, sH⟩ := σ
  refine Zms (sk := s) (k := r.κ k) (g := r.γ k + g) (es := es) ho' hd ((hT _ _ hi).mp _ hmp) (by rw [hx]; simp [ren]) g1 g2 (by rw [g3]; exact he) (by rw [hy]; simp [ren]) ?_
  have h8 := RG.updH hr h k ⟨g, true, .m q es', (τ.H k).sz, (τ.H k).cells⟩ rfl hko
  have e3 : ZaZ r k ⟨g, true, .m q es', (τ.H k).sz, (τ.H k).cells⟩ = { sH (r.κ k) with e := .m q (Zjk s es) } := by
   simp only at g1 g2 g3 g4 g5
   rw [show Zjk s es = es' from h1]
   simp only [ZaZ, g1, g4, ← g5, ← g2]
  simp only at e3
  rw [e3] at h8
  rw [hd]
  exact .of ⟨_, _, h2, h8⟩
 ·rename_i t rs ho
  split at hp
  case h_2 => exact hp.elim
  rename_i d i hd hi hres
  split at hp
  case h_2 => exact hp.elim
  rename_i q z hmp
  rw [hd] at hf ⊢
  have hn := ZeY (B := B) (x' := fun g => .mp (l + 1, d) g) hr h hf (fun g => by simp [ren, hr.own]) hp
  obtain ⟨ss, sH⟩ := σ
  obtain ⟨kt, et, hu, _, _, _⟩ := Zgu ((hT _ _ hi).mp _ hmp)
  refine ZjO ho hd ⟨kt, et, hu⟩ (fun x hx => ?_) hn
  subst hx
  have hxx := ops (by rw [ho]; intro _ _ _ e; cases e) x (by rw [ho]; simp [Op.operands])
  simp only [ZKf] at hres
  split at hres
  ·rename_i k n' he; exact ⟨k, n', by rw [hxx, he]; simp [ren]⟩
  ·cases hres
 ·rename_i t x y z ho
  have ops := ops (by rw [ho]; intro _ _ _ e; cases e)
  rw [ho] at ops
  exact st (.inl ho) (ops x (by simp [Op.operands])) (ops y (by simp [Op.operands])) (ops z (by simp [Op.operands])) hp
 ·rename_i t x y z ho
  have ops := ops (by rw [ho]; intro _ _ _ e; cases e)
  rw [ho] at ops
  exact st (.inr ho) (ops x (by simp [Op.operands])) (ops y (by simp [Op.operands])) (ops z (by simp [Op.operands])) hp
 ·rename_i t x ho
  split at hp
  ·rename_i d i q es hd hi hxv
   split at hp
   case h_2 => exact hp.elim
   rename_i z hmp
   rw [hd] at hf ⊢
   have hn := ZeY (B := B) (x' := fun g => .ptr (l + 1, d) g 0) hr h hf (fun g => by simp [ren, hr.own]) hp
   obtain ⟨ss, sH⟩ := σ
   obtain ⟨kt, et, hu, _, _, _⟩ := Zgu ((hT _ _ hi).mp _ hmp)
   have hxx := ops (by rw [ho]; intro _ _ _ e; cases e) x (by rw [ho]; simp [Op.operands])
   exact ZpR ho hd ⟨kt, et, hu⟩ (by rw [hxx, hxv]; simp [ren]) hn
  ·rename_i d i z hd hi hxv
   split at hp
   case h_2 => exact hp.elim
   rename_i hkin
   rw [hd] at hf ⊢
   have hn := ZeY (B := B) (x' := fun g => .ptr (l + 1, d) g 0) hr h hf (fun g => by simp [ren, hr.own]) hp
   obtain ⟨ss, sH⟩ := σ
   have hu := ZdE ((hT _ _ hi).kin.trans (Ya hkin))
   have hxx := ops (by rw [ho]; intro _ _ _ e; cases e) x (by rw [ho]; simp [Op.operands])
   exact Zml ho hd hu (by rw [hxx, hxv]; simp [ren]) hn
  ·exact hp.elim
 ·rename_i x ho
  split at hp
  case h_2 => exact hp.elim
  rename_i d k g hd hxv
  split at hp
  case h_2 => exact hp.elim
  rename_i q rest cur hk1 hl he
  have hxx := ops (by rw [ho]; intro _ _ _ e; cases e) x (by rw [ho]; simp [Op.operands])
  rw [hxv] at hxx
  obtain ⟨g1, g2, g3, g4, g5⟩ := h.h.at hl
  rw [hd] at hf ⊢
  unfold pNx at hp
  split at hp
  case h_2 => exact hp.elim
  rename_i a0 f hdn
  obtain ⟨hp0, hp1⟩ := hp
  obtain ⟨ss, sH⟩ := σ
  refine Zr0 (k := r.κ k) (g := r.γ k + g) (rest := rest) (cur := cur) ho hd (by rw [hxx]; simp [ren]) g1 g2 (by rw [g3]; exact he) (Yc hdn) (fun h0 => .of ⟨_, _, hp0 h0, h.put0 hf (by simp [ren, Zan])⟩) (fun i e hi => ?_)
  have hlt := (List.getElem?_eq_some_iff.1 hi).1
  have hpi := hp1 i hlt
  split at hpi
  case h_2 => exact hpi.elim
  rename_i s ds es b hfi
  obtain ⟨⟨k1, k2⟩, k3⟩ := hpi
  rw [hi] at k1
  cases k1
  have h8 := RG.updH hr h k ⟨g, true, .i q es (some (.str s :: ds)), (τ.H k).sz, (τ.H k).cells⟩ rfl (.inl (Ya hk1))
  have e3 : ZaZ r k ⟨g, true, .i q es (some (.str s :: ds)), (τ.H k).sz, (τ.H k).cells⟩ = { sH (r.κ k) with e := .i q (rest.eraseIdx i) (some (.str s :: ds)) } := by
   simp only at g1 g2 g3 g4 g5
   rw [k2]
   simp only [ZaZ, g1, g4, ← g5, ← g2]
  simp only at e3
  rw [e3] at h8
  exact .of ⟨_, _, k3, h8.put0 hf (by simp only [nxV, ren, Zan, Zhv])⟩
 ·rename_i x ho
  split at hp
  case h_2 => exact hp.elim
  rename_i d k g hd hxv
  split at hp
  case h_2 => exact hp.elim
  rename_i z p hk1 hl he
  have hxx := ops (by rw [ho]; intro _ _ _ e; cases e) x (by rw [ho]; simp [Op.operands])
  rw [hxv] at hxx
  obtain ⟨g1, g2, g3, g4, g5⟩ := h.h.at hl
  rw [hd] at hf ⊢
  unfold pNs at hp
  split at hp
  case h_2 => exact hp.elim
  rename_i a1 a0 hdn
  obtain ⟨hp1, hp0⟩ := hp
  obtain ⟨ss, sH⟩ := σ
  refine ZoV (k := r.κ k) (g := r.γ k + g) (z := z) (p := p) ho hd (by rw [hxx]; simp [ren]) g1 g2 (by rw [g3]; exact he) (Yc hdn) (fun h0 => .of ⟨_, _, hp0 (decide_eq_false h0), h.put0 hf (by simp [ren, Zan])⟩) (fun h1 => ?_)
  have h8 := RG.updH hr h k ⟨g, true, .s z (p + dcW z p), (τ.H k).sz, (τ.H k).cells⟩ rfl (.inl (Ya hk1))
  have e3 : ZaZ r k ⟨g, true, .s z (p + dcW z p), (τ.H k).sz, (τ.H k).cells⟩ = { sH (r.κ k) with e := .s z (p + dcW z p) } := by
   simp only at g1 g2 g3 g4 g5
   simp only [ZaZ, g1, g4, ← g5, ← g2]
  simp only at e3
  rw [e3] at h8
  exact .of ⟨_, _, hp1 (decide_eq_true h1), h8.put0 hf (by simp only [ren, Zan])⟩
 ·rename_i x ho
  split at hp
  case h_2 => exact hp.elim
  rename_i d k g hd hxv
  split at hp
  case h_2 => exact hp.elim
  rename_i q rest s ds hk1 hl he hdn
  have hxx := ops (by rw [ho]; intro _ _ _ e; cases e) x (by rw [ho]; simp [Op.operands])
  rw [hxv] at hxx
  obtain ⟨g1, g2, g3, g4, g5⟩ := h.h.at hl
  rw [hd] at hf ⊢
  obtain ⟨ss, sH⟩ := σ
  refine ZpD (k := r.κ k) (g := r.γ k + g) (rest := rest) ho hd (by rw [hxx]; simp [ren]) g1 g2 (by rw [g3]; exact he) (Yc hdn) ?_
  have h8 := RG.updH hr h k ⟨g, true, .i q rest none, (τ.H k).sz, (τ.H k).cells⟩ rfl (.inl (Ya hk1))
  have e3 : ZaZ r k ⟨g, true, .i q rest none, (τ.H k).sz, (τ.H k).cells⟩ = { sH (r.κ k) with e := .i q rest none } := by
   simp only at g1 g2 g3 g4 g5
   simp only [ZaZ, g1, g4, ← g5, ← g2]
  simp only at e3
  rw [e3] at h8
  exact .of ⟨_, _, hp, h8.put0 hf (by simp only [ren, Zan, Zhv])⟩
end
end Go.Eng
namespace Go.Eng
set_option linter.all false
open Go Go.RowKit
section
variable {P : Program} {T : Nat → Option TI} {r : Ren} {l n outs : Nat} {B : Base} {env : Env} {τ σ : St} {a : AT} {o : Oper}
theorem ZD3 {H : Hp} {op : Op} {ρ : Operand → AV} {g : Option Bool} {K : AV → AT → Prop} (h : tV T H op ρ g a K) : ∃ v a', K v a' := by
 have fin : ∀ {v a'}, K v a' → ∃ v a', K v a' := fun h => ⟨_, _, h⟩
 cases op <;> simp only [tV] at h <;> try exact h.elim
 case move x => exact fin h
 case assign x => exact fin h
 case pick c x y => split at h <;> first | exact fin h | exact h.elim
 case load t x =>
  split at h
  ·unfold ZlB at h
   repeat' split at h
   all_goals first | exact h.elim | exact fin h | exact fin h.2
  ·grind
 case fieldAddr t x f =>
  split at h
  ·unfold Zea at h
   grind
  ·grind
 case field t x f =>
  split at h
  ·unfold ZkF at h
   grind
  ·grind
 case indexAddr t x j =>
  split at h
  ·unfold Zec at h
   grind
  ·grind
 case index t x j =>
  split at h
  ·unfold ZkT at h
   grind
  ·grind
 case extract x j =>
  repeat' split at h
  all_goals first | exact h.elim | exact fin h
 case makeInterface t x =>
  repeat' split at h
  all_goals first | exact h.elim | exact fin h
 case typeAssert x u t ok =>
  repeat' split at h
  all_goals first | exact h.elim | exact fin h
 case binOp o t x y u =>
  split at h
  ·unfold ZG0 at h
   split at h
   ·split at h
    ·unfold ZGL at h
     grind
    grind
   ·unfold ZGs at h
    grind
   ·grind
   ·grind
   ·split at h
    ·have nl : ∀ {neg : Bool} {x : AV}, ZBi H neg x a K → ∃ v a', K v a' := fun {neg x} h => by
      unfold ZBi at h
      repeat' split at h
      all_goals first | exact h.elim | exact fin (h true) | exact fin (h neg (fun _ => rfl))
     grind
    grind
   grind
  ·grind
 case unOp o t x =>
  unfold tUn at h
  repeat' split at h
  all_goals first | exact h.elim | exact fin h | exact fin h.2
 case nilCheck x =>
  split at h
  ·grind
  ·grind
  ·grind
 case convert s d x =>
  split at h
  ·unfold ZsQ at h
   grind
  ·grind
 case makeFunc fn first caps => split at h <;> first | exact h.elim | exact fin h
 case slice t x lo hi mx =>
  split at h
  ·unfold Zky at h
   grind
  ·grind
 case build t parts =>
  split at h
  ·unfold Zlw at h
   grind
  ·grind
 case lookup t x y ck =>
  split at h
  ·unfold Zud at h
   grind
  ·grind
 case call c =>
  split at h
  ·split at h
   ·unfold ZG5 at h
    grind
   grind
  ·unfold vMM at h
   grind
  ·unfold vMM at h
   grind
  ·unfold ZrK at h
   grind
  ·grind
theorem ZyZ {op : Op} {g : Option Bool} {K : AV → AT → Prop} (h : pV P T l r τ op g a K) : ∃ v a', K v a' := by
 unfold pV at h
 split at h
 ·split at h
  ·unfold ZsS at h
   grind
  ·exact ZD3 h
 ·unfold bsV at h
  repeat' split at h
  all_goals first | exact h.elim | exact ⟨_, _, h⟩
 ·exact ZD3 h
def Yl (r : Ren) (e : Nat) (K : AV → AT → Prop) (σ σ' : St) : Prop := ∃ v a', σ' = ⟨upd σ.s e (ren r v), σ.H⟩ ∧ K v a'
theorem Zve (hT : TOk P T) (h : RG r l outs env τ σ) {c : Zdj} (hs : ZgV τ.s c) {g : Option Bool} (hg : ∀ b, g = some b → b = true) {e : Nat} {op : Op} {ty : TypeId} {ps : String} {af : Array Edge} {gd : Option (Nat × Bool)}
  (hx : Zcj env c op = true) (hen : e < n) {K : AV → AT → Prop} (hp : pV P T l r τ op g a K) : rOp P l n ⟨some e, op, ty, ps, af, gd⟩ (Yl r e K σ) σ := by
 have val : tV T τ.H op (ev τ.s) g a K → rOp P l n ⟨some e, op, ty, ps, af, gd⟩ (Yl r e K σ) σ = vOp P σ.H op (ev σ.s) (ZfI n (some e) (Yl r e K σ) σ) → rOp P l n ⟨some e, op, ty, ps, af, gd⟩ (Yl r e K σ) σ := fun h1 h2 => by
  rw [h2]
  exact Zhh (fun y ⟨v, a', e1, e2⟩ => ⟨hen, v, a', by rw [e1], e2⟩) (ZuL hT h hs hg hx h1)
 unfold pV at hp
 split at hp
 ·rename_i c
  split at hp
  ·rename_i f hcal
   obtain ⟨i, first, caps, x, a', e1, e2, e3⟩ := Zgg h hs hg hcal hx hp
   simp only [rOp, hcal, e1]
   exact e2.mono fun y H' ⟨h1, h2⟩ => by subst h1; subst h2; exact ⟨hen, x, a', rfl, e3⟩
  ·rename_i hnv
   refine val hp ?_
   cases hcal : c.callee with
   | value f => exact absurd hcal (hnv f)
   | invoke x m => simp only [tV, hcal] at hp
   | builtin b =>
    cases b <;> simp only [tV, hcal] at hp <;> simp only [rOp, hcal]
 ·rename_i t len parts
  have hx' : (Op.buildSlice t len parts).operands.toList.all (chk env c) = true := hx
  have e1 : (parts.toList.map fun p => (p.1, ev σ.s p.2)) = (parts.toList.map fun p => (p.1, ev τ.s p.2)).map fun p => (p.1, ren r p.2) := by
   rw [Yam]
   refine YR fun p hp => ?_
   simp only [Function.comp]
   rw [ZcF h hs hx' p.2 (by simp only [Op.operands, Yav, Yy]; exact ⟨p, hp, rfl⟩)]
  unfold bsV at hp
  split at hp
  case h_2 => exact hp.elim
  rename_i i hi
  split at hp
  case h_2 => exact hp.elim
  rename_i e' sz he
  simp only [rOp, (hT _ _ hi).elm _ he]
  split at hp
  ·rename_i hsz
   have hsz := Yc hsz
   refine ⟨by omega, ?_⟩
   split at hp
   ·rename_i hps
    exact ⟨by rw [← YQ, hps]; rfl, hen, .e0, a, by simp [ren], hp⟩
   grind
  ·rename_i len' hsz
   have hsz := Yc hsz
   refine ⟨by omega, ?_⟩
   split at hp
   case h_2 => exact hp.elim
   rename_i j hj hlim
   split at hp
   case h_2 => exact hp.elim
   rename_i z hz
   split at hp
   case h_2 => exact hp.elim
   rename_i es hzl hlit
   split at hp
   case h_2 => exact hp.elim
   rename_i hes
   rw [Zfy hlit] at e1
   rw [e1]
   simp only [(hT _ _ hj).zer _ hz, hlit]
   exact ⟨Yc hlim, Ya hzl, Ya hes, hen, .d (.list es), a, by simp [ren], hp⟩
  grind
 ·rename_i h5 h6
  refine val hp ?_
  cases op <;> simp only [tV] at hp <;> try exact hp.elim
  case call c => exact absurd rfl (h5 c)
  all_goals simp only [rOp]
theorem Zwf (hT : TOk P T) (h : RG r l outs env τ σ) {c : Zdj} (hs : ZgV τ.s c) {g : Option Bool} (hg : ∀ b, g = some b → b = true) {e : Nat} {op : Op} {ty : TypeId} {ps : String} {af : Array Edge} {gd : Option (Nat × Bool)}
  (hx : Zcj env c op = true) (hen : e < n) {K : AV → AT → Prop} (hp : pV P T l r τ op g a K) : Zmw P l n ⟨some e, op, ty, ps, af, gd⟩ (Yl r e K σ) σ := by
 have hr := Zve (ty := ty) (ps := ps) (af := af) (gd := gd) hT h hs hg hx hen hp
 unfold pV at hp
 split at hp
 ·rename_i c
  split at hp
  ·rename_i f hcal
   obtain ⟨i, first, caps, x, a', e1, e2, e3⟩ := Zgg h hs hg hcal hx hp
   simp only [Zmw, hcal, e1]
   exact ⟨ren r x, e2, hen, x, a', rfl, e3⟩
  ·rename_i hnv
   cases hcal : c.callee with
   | value f => exact absurd hcal (hnv f)
   | _ => simp only [Zmw, hcal]; exact hr
 ·rename_i t len parts
  cases len with
  | zero => exact hr
  | succ len =>
   have hx' : (Op.buildSlice t (len + 1) parts).operands.toList.all (chk env c) = true := hx
   have e1 : (parts.toList.map fun p => (p.1, ev σ.s p.2)) = (parts.toList.map fun p => (p.1, ev τ.s p.2)).map fun p => (p.1, ren r p.2) := by
    rw [Yam]
    refine YR fun p hp => ?_
    simp only [Function.comp]
    rw [ZcF h hs hx' p.2 (by simp only [Op.operands, Yav, Yy]; exact ⟨p, hp, rfl⟩)]
   unfold bsV at hp
   split at hp
   case h_2 => exact hp.elim
   rename_i i hi
   split at hp
   case h_2 => exact hp.elim
   rename_i e' sz he
   split at hp
   ·rename_i hn0; cases hn0
   ·rename_i len' hsz hn0
    cases hn0
    have hsz := Yc hsz
    split at hp
    case h_2 => exact hp.elim
    rename_i j hj hlim
    split at hp
    case h_2 => exact hp.elim
    rename_i z hz
    split at hp
    case h_2 => exact hp.elim
    rename_i es hzl hlit
    split at hp
    case h_2 => exact hp.elim
    rename_i hes
    rw [Zfy hlit] at e1
    exact ⟨.d (.list es), ⟨e', sz, z, es, (hT _ _ hi).elm _ he, by omega, Yc hlim, (hT _ _ hj).zer _ hz, Ya hzl, by rw [e1]; exact hlit, Ya hes, rfl⟩, hen, .d (.list es), a, by simp [ren], hp⟩
   ·exact hp.elim
 ·rename_i h5 h6
  cases op <;> first | exact absurd rfl (h5 _) | exact absurd rfl (h6 _ _ _) | exact hr
theorem ZeA {d : Nat} {e : TypeId} {sz : Nat} {cells : List AV} {x : Nat → AV} {K K' : St → Prop} (hk : ∀ σ, K σ → K' σ) (h : ZjH l n d e sz cells x K σ) : ZjH l n d e sz cells x K' σ := ⟨h.1, hk _ h.2⟩
theorem ZnX {o : Oper} {K K' : St → Prop} (hk : ∀ σ, K σ → K' σ) (h : rOp P l n o K σ) : rOp P l n o K' σ := by
 have pk : ∀ x, ZfI n o.dst K σ x → ZfI n o.dst K' σ x := fun x h => by
  unfold ZfI at h ⊢
  grind
 unfold rOp at h ⊢
 split at h
 ·split at h
  ·exact ⟨h.1, ZeA hk h.2⟩
  grind
 ·split at h
  ·exact ⟨h.1, ZeA hk h.2⟩
  grind
 ·grind
 ·split at h
  ·refine ⟨h.1, ?_⟩
   replace h := h.2
   split at h
   ·grind
   ·refine ⟨h.1, ?_⟩
    replace h := h.2
    split at h
    ·refine ⟨h.1, ?_⟩
     replace h := h.2
     split at h
     ·grind
     ·split at h
      ·exact ZeA hk h
      grind
    grind
  grind
 ·split at h
  ·obtain ⟨h1, h2, h3, h4, h5, h⟩ := h
   refine ⟨h1, h2, h3, h4, h5, ?_⟩
   split at h
   ·exact ⟨h.1, ZeA hk h.2⟩
   grind
  grind
 ·split at h
  ·split at h
   ·exact h.mono fun r H' hp => by
     unfold ZCA at hp ⊢
     unfold ZfI at hp ⊢
     grind
   grind
  ·split at h
   ·refine ⟨h.1, ?_⟩
    replace h := h.2
    unfold ZBf at h ⊢
    split at h
    ·obtain ⟨h1, h2, h3, h⟩ := h
     refine ⟨h1, h2, h3, ?_⟩
     split at h
     ·refine ⟨h.1, ?_⟩
      replace h := h.2
      split at h
      ·exact ⟨h.1, fun e => ⟨(h.2.1 e).1, hk _ (h.2.1 e).2⟩, fun e => ZeA hk (h.2.2 e)⟩
      ·grind
      grind
     grind
    grind
   grind
  ·exact Zhh pk h
 ·exact Zhh pk h
theorem Zfr {o : Oper} {K K' : St → Prop} (hk : ∀ σ, K σ → K' σ) (h : Zmw P l n o K σ) : Zmw P l n o K' σ := by
 have pk : ∀ {x}, ZfI n o.dst K σ x → ZfI n o.dst K' σ x := fun {x} h => by
  unfold ZfI at h ⊢
  grind
 unfold Zmw at h ⊢
 split at h
 ·obtain ⟨v, h1, h2⟩ := h; exact ⟨v, h1, pk h2⟩
 ·split at h
  ·grind
  ·exact ZnX hk h
 ·exact ZnX hk h
theorem Zif (h : RG r l outs env τ σ) {ds : List (Option Nat)} {i d : Nat} {b g : Bool} (hd : nth ds i = some (some d)) (hg : Zej τ.s ((d, b) :: lk env d) = some g) : grd σ.s ds i b = some g := by
 rw [Zby] at hd
 have hc := ZcE hg
 unfold grd
 simp only [hd]
 by_cases hs : ZgV τ.s (lk env d)
 ·have e1 := (h.s d).1 hs
  have hb : ∃ t, τ.s d = .d (.bool t) := by
   cases hl : lk env d with
   | nil =>
    rw [hl] at hg
    simp only [Zej] at hg
    grind
   | cons q q' =>
    rw [hl] at hg
    simp only [Zej] at hg
    grind
  obtain ⟨t, ht⟩ := hb
  rw [e1, ht]
  simp only [ren, Ye]
  cases g with
  | true =>
   have := hc.1 rfl (d, b) (Yw ..)
   grind
  | false =>
   cases htb : t == b with
   | false => rfl
   | true =>
    exfalso
    have htb : t = b := by simpa using htb
    have : ZgV τ.s ((d, b) :: lk env d) := fun q hq => by
     rcases Ys.1 hq with rfl | hq
     ·grind
     ·exact hs q hq
    grind
 ·rw [(h.s d).2 hs]
  simp only [Ye]
  cases g with
  | false => rfl
  | true => exact absurd (fun q hq => hc.1 rfl q (Yq _ hq)) hs
theorem Zdw (hr : RenOk r l outs) (hT : TOk P T) {ops : Array Oper} {K : St → Env → AT → Prop} {QQ : Exit → Act → World → Prop} (more : List Oper)
  (hK : ∀ τ' env' a' σ' act' w', K τ' env' a' → RG r l outs env' τ' σ' → R l n B σ' act' w' → wpList P ops QQ more act' w') :
  ∀ (rest : List Oper) (env : Env) (a : AT) (τ σ : St) (act : Act) (w : World), ZrH P T l n r (ops.toList.map (·.dst)) rest env a K τ → RG r l outs env τ σ → R l n B σ act w → wpList P ops QQ (rest ++ more) act w
 | [], env, a, τ, σ, act, w, h, hG, hR => hK _ _ _ _ _ _ h hG hR
 | o :: rest, env, a, τ, σ, act, w, h, hG, hR => by
  unfold ZrH at h
  split at h
  ·rename_i hg
   split at h
   ·rename_i hc hf
    refine ZdF (by simp [Region.wanted, hg]) (Zk0 (B := B) hr hT hG hc hf h) hR fun σ' act' w' hKA hR' => ?_
    obtain ⟨σ'', ⟨τ', a', h1, h2⟩, h3⟩ := hKA
    exact Zdw hr hT more hK rest _ _ _ _ _ _ h1 h2 (h3 _ _ hR')
   grind
  ·rename_i i b hg
   split at h
   case h_2 => exact h.elim
   rename_i d e hd he
   split at h
   case h_2 => exact h.elim
   rename_i g hch hx hfr hen
   simp only [Bool.and_eq_true] at hfr
   have hen := Yc hen
   have hgr := Zif hG hd hch
   have hy : (yielded ops act.tmps i == some b) = g := by
    obtain ⟨s, H⟩ := σ
    obtain ⟨m, S, hO, hn, hdf, hS, hex⟩ := hR.un
    exact ZiD hS hgr
   cases g with
   | true =>
    have hs := (ZcE hch).1 rfl
    refine ZdF (by simp only [Region.wanted, hg]; exact hy) (σ := σ) (B := B) (l := l) (n := n) (KK := Yl r e (fun v a' => ZrH P T l n r (ops.toList.map (·.dst)) rest ((e, (d, b) :: lk env d) :: env) a' K ⟨upd τ.s e v, τ.H⟩) σ) (Zdp ?_) hR fun σ' act' w' hY hR' => ?_
    ·obtain ⟨dst, op, ty, ps, af, gd⟩ := o
     simp only at he
     subst he
     exact Zve hT hG hs (fun b' e' => by cases e'; rfl) hx (by omega) h
    ·obtain ⟨v, a', rfl, h1⟩ := hY
     exact Zdw hr hT more hK rest _ _ _ _ _ _ h1 (hG.put hfr.1 hfr.2 (fun _ => rfl) (fun hn => absurd hs hn)) hR'
   | false =>
    have hs : ¬ ZgV τ.s ((d, b) :: lk env d) := fun hs => by have := (ZcE hch).2 hs; cases this
    obtain ⟨v, a', h1⟩ := ZyZ h
    show wpList P ops QQ (o :: (rest ++ more)) act w
    unfold wpList
    rw [if_neg (by simp only [Region.wanted, hg, hy]; decide), he]
    exact Zdw hr hT more hK rest _ _ _ _ _ _ h1 (hG.put hfr.1 hfr.2 (y := .tup []) (fun h => absurd h hs) (fun _ => rfl)) (R.undef hR (by omega))
theorem Zd8 (hr : RenOk r l outs) (hT : TOk P T) {ds : List (Option Nat)} {K : St → Env → AT → Prop} :
  ∀ (rest : List Oper) (env : Env) (a : AT) (τ σ : St), rest.all (fun o => Zb9 o || stB o) = true → Zgy P T l n r ds rest env a K τ → RG r l outs env τ σ → Zjq P l n ds rest (fun σ' => ∃ τ' env' a', K τ' env' a' ∧ RG r l outs env' τ' σ') σ
 | [], env, a, τ, σ, _, h, hG => ⟨_, _, _, h, hG⟩
 | o :: rest, env, a, τ, σ, hq, h, hG => by
  simp only [Yaj, Bool.and_eq_true] at hq
  unfold Zgy at h
  unfold Zjq
  split at h
  ·rename_i hg
   simp only [hg]
   split at h
   case h_2 => exact h.elim
   rename_i hc hf
   by_cases hst : stB o = true
   ·obtain ⟨dst, op, ty, ps, af, gd⟩ := o
    cases op <;> simp only [stB] at hst <;> first | (cases hst; done) | skip
    rename_i t p x
    cases dst with
    | some d => cases hst
    | none =>
     unfold ZJK at h
     simp only at h
     unfold Zs5 ZvV ZuB ZzF at h
     simp only at h hc
     split at h
     case h_2 => exact h.elim
     rename_i i hi hnf
     have hops : ∀ y ∈ (Op.store t p x).operands, ev σ.s y = ren r (ev τ.s y) := by
      unfold Zcj at hc
      exact ZcF hG Zak hc
     have hx := hops x (by simp [Op.operands])
     have hpp := hops p (by simp [Op.operands])
     cases hz : Zbh (ev τ.s x) with
     | none => rw [hz] at h; unfold Ziy at h; split at h <;> first | exact h.elim | (rename_i e; cases e)
     | some vs =>
      rw [hz] at h
      have hz' := ZcI (r := r) hz (ZfE hnf)
      obtain ⟨k, g, off, e1, e2, e3, e4, e5, e6, e7, e8⟩ := Zf1 hr hG (hT _ _ hi) h
      obtain ⟨τ', a', h1, h2⟩ := e8
      simp only [Zmw, rOp, hpp, hx, hz', e1]
      exact ⟨e2, e3, e4, e5, e6, e7, Zd8 hr hT rest _ _ _ _ hq.2 h1 h2⟩
   have hq0 : Zb9 o = true := by
    grind
   replace hq : Zb9 o = true ∧ _ := ⟨hq0, hq.2⟩
   obtain ⟨dst, op, ty, ps, af, gd⟩ := o
   have hd : ∃ d, dst = some d := by
    have := hq.1
    unfold Zb9 ZaU at this
    rw [Bool.or_eq_true, Bool.and_eq_true, Bool.and_eq_true] at this
    rcases this with h | h
    ·exact YI.1 h.1
    ·exact YI.1 h.1
   obtain ⟨d, rfl⟩ := hd
   simp only at hc hf hg
   have hp : pV P T l r τ op none a (ZlC n d (fun τ' a' => Zgy P T l n r ds rest (ZdT env (some d)) a' K τ') τ) := by
    by_cases hbs : ∃ t len p, op = .buildSlice t (len + 1) p
    ·obtain ⟨t, len, p, rfl⟩ := hbs
     exact h
    ·have hq1 : ZaU ⟨some d, op, ty, ps, af, gd⟩ = true := Zhq hq.1 fun t len p e => hbs ⟨t, len, p, e⟩
     have h : Zs5 P T l n r ⟨some d, op, ty, ps, af, gd⟩ a (fun τ' a' => Zgy P T l n r ds rest (ZdT env (some d)) a' K τ') τ := by
      unfold ZJK at h
      split at h
      ·rename_i e1 _; exact absurd ⟨_, _, _, e1⟩ hbs
      ·exact h
     have h := ZGh hq1 (ZCn hq1 h)
     unfold ZuB at h
     simp only at h
     have h : ZzF P T l n r ⟨some d, op, ty, ps, af, none⟩ a (fun τ' a' => Zgy P T l n r ds rest (ZdT env (some d)) a' K τ') τ := by
      subst hg
      split at h
      ·split at h
       ·rename_i hcal; simp [ZaU, hcal] at hq1
       ·grind
       ·exact h
      ·exact h
     unfold ZzF at h
     simp only at h
     split at h
     ·simp [ZaU] at hq1
     ·simp [ZaU] at hq1
     ·grind
     ·simp [ZaU] at hq1
     ·simp [ZaU] at hq1
     ·split at h
      ·rename_i hcal; simp [ZaU, hcal] at hq1
      ·exact h
     ·exact h
   have hex : ∃ v a', ZlC n d (fun τ' a' => Zgy P T l n r ds rest (ZdT env (some d)) a' K τ') τ v a' := ZyZ hp
   have hdn : d < n := by
    obtain ⟨v, a', h1⟩ := hex
    unfold ZlC at h1
    split at h1
    ·rename_i hd; have hd := Yc hd; exact hd
    grind
   have := Zwf (ty := ty) (ps := ps) (af := af) (gd := gd) hT hG Zak (fun b e => by cases e) hc hdn hp
   refine Zfr (fun σ' hY => ?_) this
   obtain ⟨v, a', rfl, h1⟩ := hY
   unfold ZlC at h1
   split at h1
   ·exact Zd8 hr hT rest _ _ _ _ hq.2 h1 (hG.put0 hf rfl)
   grind
  ·rename_i i b hg
   have hq0 : Zb9 o = true := by
    have := hq.1
    rw [Bool.or_eq_true] at this
    rcases this with h | h
    ·exact h
    ·exfalso
     obtain ⟨dst, op, ty, ps, af, gd⟩ := o
     simp only at hg
     subst hg
     cases op <;> cases dst <;> simp [stB] at h
   simp only [hg]
   split at h
   case h_2 => exact h.elim
   rename_i d e hd he
   split at h
   case h_2 => exact h.elim
   rename_i g hch hx hfr hen
   simp only [Bool.and_eq_true] at hfr
   have hen := Yc hen
   rw [Zif hG hd hch]
   refine ⟨fun hgt => ?_, fun hgf => ?_⟩
   ·subst hgt
    have hs := (ZcE hch).1 rfl
    obtain ⟨dst, op, ty, ps, af, gd⟩ := o
    simp only at he
    subst he
    refine Zfr (fun σ' hY => ?_) (Zwf (ty := ty) (ps := ps) (af := af) (gd := gd) hT hG hs (fun b' e' => by cases e'; rfl) hx (by omega) h)
    obtain ⟨v, a', rfl, h1⟩ := hY
    exact Zd8 hr hT rest _ _ _ _ hq.2 h1 (hG.put hfr.1 hfr.2 (fun _ => rfl) (fun hn => absurd hs hn))
   ·subst hgf
    have hs : ¬ ZgV τ.s ((d, b) :: lk env d) := fun hs => by have := (ZcE hch).2 hs; cases this
    obtain ⟨v, a', h1⟩ := ZyZ h
    rw [he]
    exact ⟨hen, Zd8 hr hT rest _ _ _ _ hq.2 h1 (hG.put hfr.1 hfr.2 (y := .tup []) (fun h => absurd h hs) (fun _ => rfl))⟩
end
end Go.Eng
