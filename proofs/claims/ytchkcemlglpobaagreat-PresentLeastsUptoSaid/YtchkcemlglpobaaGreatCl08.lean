import Derived.Test.YtchkcemlglpobaaGreatCl07
import Derived.Test.YtchkcemlglpobaaGreatCl00
namespace Go.Eng
set_option linter.all false
open Go Go.RowKit
def Zd0 (cs : List AV) : Prop := ∀ x ∈ cs, (match x with | .d _ => true | _ => false) = true
section
variable {P : Program} {l n : Nat} {B : Base} {H H' : Hp} {m m' : Mu} {S S' : Nat → Prop} {w w' : World} {s : Nat → AV} {a : Act} {K : St → Prop} {o : Oper}
theorem Ok.lay (hO : Ok (l + 1) H m S w) {k : Key} (hk : k.1 ≤ l + 1) (hl : (H k).live = true) {off : Nat} {vs : List AV} {cs : Array Value} (hr : ZaE w S H m (l + 1) vs cs) (hpos : 0 < vs.length)
  (hoff : off + vs.length ≤ (H k).cells.length) (hlow : k.1 = l + 1 ∨ vs.all (AV.low k.1) = true) :
  (m k).cap ≠ 0 ∧ ∃ C : Array Value, w.heap[(m k).b]? = some (.cells C (H k).e.ty (0, 0)) ∧ (m k).o + off + cs.toList.length ≤ C.size ∧ (∀ v ∈ cs.toList, v.oneCell' = true) ∧
   Ok (l + 1) (updH H k { H k with cells := (H k).cells.take off ++ vs ++ (H k).cells.drop (off + vs.length) }) m S (w.setRow (m k).b (C.toList.take ((m k).o + off) ++ cs.toList ++ C.toList.drop ((m k).o + off + cs.toList.length)).toArray) ∧
   Ext (l + 1) H m S w (updH H k { H k with cells := (H k).cells.take off ++ vs ++ (H k).cells.drop (off + vs.length) }) m S (w.setRow (m k).b (C.toList.take ((m k).o + off) ++ cs.toList ++ C.toList.drop ((m k).o + off + cs.toList.length)).toArray) := by
 have hcap : (m k).cap ≠ 0 := fun e => by have := hO.empty k hk hl e; rw [this, Yaf] at hoff; omega
 obtain ⟨C, h1, h2, h3, h4⟩ := hO.blk k hk hl hcap
 have hvl : cs.toList.length = vs.length := by simp [hr.1]
 have hone : ∀ v ∈ cs.toList, v.oneCell' = true := by
  intro v hv
  obtain ⟨i, hi⟩ := YF.1 hv
  rw [Yi] at hi
  have hlt : i < vs.length := by
   rw [hr.1]
   rcases Yo i cs.size with h | h
   ·exact h
   ·rw [YL h] at hi; cases hi
  exact (hr.2 i _ v (Yb hlt) hi).1
 have hle : (m k).o + off + cs.toList.length ≤ C.size := by rw [hvl]; omega
 have hw := hO.write k hk hl hcap ((H k).cells.take off ++ vs ++ (H k).cells.drop (off + vs.length))
   (C.toList.take ((m k).o + off) ++ cs.toList ++ C.toList.drop ((m k).o + off + cs.toList.length)).toArray
   (by simp [hvl]; omega) (by simp; omega)
   (w.setRow (m k).b (C.toList.take ((m k).o + off) ++ cs.toList ++ C.toList.drop ((m k).o + off + cs.toList.length)).toArray)
   (fun b => by
    by_cases e : b = (m k).b
    ·subst e; rw [if_pos rfl]; exact setRow_heap w _ C _ _ _ h1
    ·rw [if_neg e]; exact setRow_other w _ _ _ e)
   (by simp) rfl rfl rfl (fun i y v hi hv => by
    have hv : (C.toList.take ((m k).o + off) ++ cs.toList ++ C.toList.drop ((m k).o + off + cs.toList.length))[(m k).o + i]? = some v := by simpa using hv
    rw [hvl] at hv
    have hCl : C.toList.length = C.size := by simp
    have hT : (C.toList.take ((m k).o + off)).length = (m k).o + off := by rw [YU, hCl]; omega
    have hT2 : ((H k).cells.take off).length = off := by rw [YU]; omega
    rcases Yo i off with h | h
    ·rw [YW, Yg (by rw [hT2]; omega), YM, if_pos h] at hi
     rw [YW, Yg (by rw [hT]; omega), YM, if_pos (by omega), Yi] at hv
     exact h4 i y v hi hv
    ·rcases Yo i (off + vs.length) with h' | h'
     ·rw [Yg (by rw [Yr, hT2]; omega), Yk (by rw [hT2]; omega), hT2] at hi
      rw [Yg (by rw [Yr, hT, hvl]; omega), Yk (by rw [hT]; omega), hT, Yi] at hv
      rw [show (m k).o + i - ((m k).o + off) = i - off from by omega] at hv
      obtain ⟨q1, q2⟩ := hr.2 _ y v hi hv
      refine ⟨q1, ?_⟩
      rcases hlow with e | e
      ·rw [e]; exact q2
      ·exact q2.low (Yh.1 e y (Yj hi))
     ·rw [Yk (by rw [Yr, hT2]; omega), YK, Yr, hT2] at hi
      rw [Yk (by rw [Yr, hT, hvl]; omega), YK, Yi, Yr, hT, hvl] at hv
      rw [show off + vs.length + (i - (off + vs.length)) = i from by omega] at hi
      rw [show (m k).o + off + vs.length + ((m k).o + i - ((m k).o + off + vs.length)) = (m k).o + i from by omega] at hv
      exact h4 i y v hi hv)
 exact ⟨hcap, C, h1, hle, hone, hw.1, hw.2⟩
theorem Zxo (C : List AV) (off : Nat) : C.take off ++ [] ++ C.drop (off + ([] : List AV).length) = C := by simp
theorem ZhE (H : Hp) (k : Key) (b : Blk) (h : b = H k) : updH H k b = H := by funext q; unfold updH; split <;> simp_all
theorem ZsT {x y : Operand} {t t' e : TypeId} {k : Key} {g off cn sz cnt : Nat} {news : List AV} (ho : o.op = .call ⟨.builtin .copy, #[x, y], #[t, t']⟩) (hx : ev s x = .ref k g off cn) (he : elm P t = some (e, sz)) (he' : elm P t' = some (e, sz)) (hi : (zer P e).isSome = true)
  (hsz : sz ≠ 0) (hg : g = (H k).g) (hl : (H k).live = true) (hs : (H k).sz = sz) (hsrc : Zvp H sz (ev s y) = some (cnt, news)) (hle : cnt ≤ cn) (hoff : off * sz + news.length ≤ (H k).cells.length)
  (hlow : k.1 = l + 1 ∨ news.all (AV.low k.1) = true) (hK : ZfI n o.dst K ⟨s, updH H k { H k with cells := (H k).cells.take (off * sz) ++ news ++ (H k).cells.drop (off * sz + news.length) }⟩ (.d (.int .i64 cnt))) : AOp P l n B o K ⟨s, H⟩ := by
 intro a w hR Q
 obtain ⟨m, S, hO, hn, hdf, hS, hex⟩ := hR.un
 obtain ⟨hu, hse⟩ := ZbZ he
 obtain ⟨hu', _⟩ := ZbZ he'
 obtain ⟨z, hz⟩ := YI.1 hi
 obtain ⟨it, zv, hit, hz0, hzr, _⟩ := Zc1 (w := w) (S := S) (H := H) (m := m) (l := l + 1) hz
 have hits : it.size = sz := by rw [← hse]; simp [Program.cellsOf, hit]
 obtain ⟨C, hsc, hcr, hnl⟩ := Zg8 hu' hsz hsrc hO (Zbi hS y)
 have hp := Zbi hS x
 rw [hx] at hp
 generalize hpv : a.eval x = pv at hp
 have fin : ∀ (w' : World) (H' : Hp), Ok (l + 1) H' m S w' → Ext (l + 1) H m S w H' m S w' → ZfI n o.dst K ⟨s, H'⟩ (.d (.int .i64 cnt)) → (Builtin.copy_ #[t, t'] o.type #[pv, a.eval y]).run P w = .ok (goInt cnt) w' →
   o.wp P a w (fun a' w' => ∃ σ', K σ' ∧ R l n B σ' a' w') Q := fun w' H' k1 k2 hk hrun => by
  have hrun' : (execOp a.eval o).run P w = .ok (.value (goInt cnt)) w' := by
   simp [execOp, ho, resolve, invoke, Go.builtin, hpv, hrun]
  unfold ZfI at hk
  refine Zau hrun' ?_
  cases hd : o.dst with
  | none =>
   rw [hd] at hk
   exact ⟨_, hk, R.keep k1 hn hdf hS hex k2⟩
  | some d =>
   rw [hd] at hk
   exact ⟨_, hk.2, R.step k1 hn hdf hS hex k2 hk.1 (.d _ _ (.int _ _))⟩
 cases hp with
 | refD k g off cn v hk hg' hd' h1 => rw [hd' hg] at hl; cases hl
 | refL k off cn oa hk hl' hn' ha =>
  have hmin : Nat.min cnt cn = cnt := Yaq hle
  rcases YaU news.length with h0 | hpos
  ·have hn0 : news = [] := YO h0
   have hC0 : C = #[] := Yaa (by rw [← hcr.1, h0])
   have hcnt : cnt = 0 := by
    rw [h0] at hnl
    rcases Nat.mul_eq_zero.1 hnl.symm with h | h
    ·exact h
    grind
   subst hn0
   rw [Zxo, ZhE H k _ rfl] at hK
   refine fin w H hO (Ext.refl _ _ _ _ _) hK ?_
   have h2 := hsc.cells
   rw [hC0] at h2
   have h3 := hsc.len w
   cases oa <;> simp [Builtin.copy_, run_underlying hu, h3, sizeOf, typeInfo, hit, hits, hmin, h2, storeCells]
  ·obtain ⟨hcap, C0, b1, b2, b3, k1, k2⟩ := hO.lay hk hl hcr hpos hoff hlow
   have hc1 : 0 < cnt := by
    grind
   have hoa := ha (by omega)
   subst hoa
   refine fin _ _ k1 k2 hK ?_
   have hst := run_storeCells_at (P := P) (m k).b ((m k).o + off * sz) (H k).e.ty C.toList 0 C0 w b1 (by omega) b3
   simp only [Yae] at hst
   have h2 := hsc.cells
   have h3 := hsc.len w
   rw [hs]
   simp [Builtin.copy_, run_underlying hu, h3, sizeOf, typeInfo, hit, hits, hmin, h2, hst]
theorem ZoU {x : Operand} {t e : TypeId} {k : Key} {g off cn sz : Nat} {z : List AV} (ho : o.op = .call ⟨.builtin .clear, #[x], #[t]⟩) (hd : o.dst = none) (hx : ev s x = .ref k g off cn) (he : elm P t = some (e, sz)) (hz : zer P e = some z) (hzl : z.length = sz)
  (hsz : sz ≠ 0) (hg : g = (H k).g) (hl : (H k).live = true) (hs : (H k).sz = sz) (hoff : (off + cn) * sz ≤ (H k).cells.length) (hlow : k.1 = l + 1 ∨ z.all (AV.low k.1) = true)
  (hK : K ⟨s, updH H k { H k with cells := (H k).cells.take (off * sz) ++ (List.replicate cn z).flatten ++ (H k).cells.drop ((off + cn) * sz) }⟩) : AOp P l n B o K ⟨s, H⟩ := by
 intro a w hR Q
 obtain ⟨m, S, hO, hn, hdf, hS, hex⟩ := hR.un
 obtain ⟨hu, hse⟩ := ZbZ he
 have hzne : z ≠ [] := by rintro rfl; simp at hzl; omega
 obtain ⟨it, zv, hit, hz0, hzr, _⟩ := Zc1 (w := w) (S := S) (H := H) (m := m) (l := l + 1) hz
 have hp := Zbi hS x
 rw [hx] at hp
 generalize hpv : a.eval x = pv at hp
 have fin : ∀ (w' : World) (H' : Hp), Ok (l + 1) H' m S w' → Ext (l + 1) H m S w H' m S w' → K ⟨s, H'⟩ → (Builtin.clear_ #[t] o.type #[pv]).run P w = .ok (.tuple #[]) w' →
   o.wp P a w (fun a' w' => ∃ σ', K σ' ∧ R l n B σ' a' w') Q := fun w' H' k1 k2 hk hrun => by
  have hrun' : (execOp a.eval o).run P w = .ok (.value (.tuple #[])) w' := by
   simp [execOp, ho, resolve, invoke, Go.builtin, hpv, hrun]
  refine Zau hrun' ?_
  rw [hd]
  exact ⟨_, hk, R.keep k1 hn hdf hS hex k2⟩
 cases hp with
 | refD k g off cn v hk hg' hd' h1 => rw [hd' hg] at hl; cases hl
 | refL k off cn oa hk hl' hn' ha =>
  rcases YaU cn with h0 | hpos
  ·subst h0
   have e1 : (H k).cells.take (off * sz) ++ (List.replicate 0 z).flatten ++ (H k).cells.drop ((off + 0) * sz) = (H k).cells := by simp
   rw [e1, ZhE H k _ rfl] at hK
   refine fin w H hO (Ext.refl _ _ _ _ _) hK ?_
   cases oa <;> simp [Builtin.clear_, run_underlying hu]
  ·obtain ⟨g1, g2⟩ := Zn7 hzne hzr cn cn (Yd _)
   have hfl : ((List.replicate cn z).flatten).length = cn * sz := by simp [hzl]
   have hzz : zv.cells.size = z.length := hzr.1.symm
   have hr : ZaE w S H m (l + 1) (List.replicate cn z).flatten (Builtin.zeroCells zv.cells cn) := by
    have e : Builtin.zeroCells zv.cells cn = madeCells zv.cells (cn * z.length) := by unfold Builtin.zeroCells madeCells; rw [hzz]
    rw [e]
    exact ⟨by rw [g1, hfl, hzl], g2⟩
   have hposz : 0 < cn * sz := Ybe hpos (by omega)
   rw [YB] at hoff
   obtain ⟨hcap, C0, b1, b2, b3, k1, k2⟩ := hO.lay hk hl hr (by rw [hfl]; exact hposz) (by rw [hfl]; exact hoff) (hlow.imp id fun h => by
    refine Yh.2 fun q hq => ?_
    obtain ⟨z', hz', hq'⟩ := YaG.1 hq
    rw [(Yax.1 hz').2] at hq'
    exact Yh.1 h q hq')
   have hoa := ha (by omega)
   subst hoa
   rw [hfl, ← YB] at k1 k2
   refine fin _ _ k1 k2 hK ?_
   have hst := run_storeCells_at (P := P) (m k).b ((m k).o + off * sz) (H k).e.ty (Builtin.zeroCells zv.cells cn).toList 0 C0 w b1 (by omega) b3
   simp only [Yae] at hst
   rw [hs]
   obtain ⟨cn', rfl⟩ : ∃ c, cn = c + 1 := ⟨cn - 1, by omega⟩
   simp [Builtin.clear_, run_underlying hu, zeroValue, typeInfo, hit, hz0, hst]
theorem ZgS {L L' : Nat} {k : Key} {off c : Nat} {es : List (List D)} (hO : Ok (l + 1) H m S w) (hk : k.1 ≤ l + 1) (hl : (H k).live = true) (h1 : es.length = c) (h2 : (H k).sz ≠ 0) (h3 : ∀ e ∈ es, e.length = (H k).sz)
  (h4 : (off + c) * (H k).sz ≤ (H k).cells.length) (h5 : ((H k).cells.drop (off * (H k).sz)).take (c * (H k).sz) = es.flatten.map .d) {v : Value} (hx : RepA w S H m L (.ref k (H k).g off c) v) :
  RepA w (fun b => S b ∨ (b = (m k).b ∧ (m k).cap ≠ 0)) H' m' L' (.d (.list es)) v := by
 generalize hg : (H k).g = g at hx
 cases hx with
 | refD _ _ _ _ _ hk' hg' hd h1 => rw [hd hg.symm] at hl; cases hl
 | refL _ _ _ oa hk' hl' hcap ha =>
  by_cases hn0 : c = 0
  ·subst hn0
   have : es = [] := YO h1
   subst this
   cases oa with
   | none =>
    have e : (m k).cap - off = 0 := by
     rcases Yo off (m k).cap with h | h
     ·have := ha h; cases this
     ·omega
    rw [e]
    exact .d _ _ .nil
   | some ad => exact .d _ _ (.list [] ad 0 _ (fun _ _ => .bool true) (fun h => absurd rfl h) (Y4 _) (fun _ h => by cases h) (fun i j e x h => by simp at h) (fun i j e x h => by simp at h))
  ·have hoa := ha (by omega)
   subst hoa
   obtain ⟨hcp, C, g1, g2, g3, g4⟩ := hO.row (k := k) hk hl (by
    intro e
    rw [e, YB] at h4
    have := Ybe (show 0 < c by omega) (show 0 < (H k).sz by omega)
    simp at h4
    omega)
   have cel : ∀ (i j : Nat) (e : List D) (d : D), es[i]? = some e → e[j]? = some d → ∃ u, C[(m k).o + ((off + i) * (H k).sz + j)]? = some u ∧ RepD w S d u := by
    intro i j e d hi hj
    have hil : i < c := by
     rw [← h1]
     rcases Yo i es.length with h | h
     ·exact h
     ·rw [Yx h] at hi; cases hi
    have hjl : j < (H k).sz := by
     rw [← h3 e (Yj hi)]
     rcases Yo j e.length with h | h
     ·exact h
     ·rw [Yx h] at hj; cases hj
    have e1 := ZjW es h3 i j e d hi hj
    have hlt : i * (H k).sz + j < c * (H k).sz := by
     have : (i + 1) * (H k).sz ≤ c * (H k).sz := YJ _ hil
     rw [YB] at this
     omega
    have e2 : (H k).cells[(off + i) * (H k).sz + j]? = some (.d d) := by
     have := congrArg (fun l => l[i * (H k).sz + j]?) h5
     simp only [YM, if_pos hlt, YK, Yv, e1, YC] at this
     rw [← this, YB, Yp]
    obtain ⟨u, q1, _, q3⟩ := g4 _ _ e2
    cases q3 with
    | d _ _ hd => exact ⟨u, q1, hd⟩
   have := RepD.list (w := w) (S := fun b => S b ∨ (b = (m k).b ∧ (m k).cap ≠ 0)) es ⟨(m k).b, (m k).o + off * (H k).sz, none⟩ (H k).sz ((m k).cap - off) (fun i j => (C[(m k).o + ((off + i) * (H k).sz + j)]?).getD undef)
    (fun _ => .inr ⟨rfl, hcp⟩) (by omega) h3
    (fun i j e d hi hj => by
     obtain ⟨v, e1, _⟩ := cel i j e d hi hj
     rw [Addr.add_lit, Zc5 g1]
     rw [show (m k).o + off * (H k).sz + (i * (H k).sz + j) = (m k).o + ((off + i) * (H k).sz + j) from by rw [YB]; omega, e1]
     rfl)
    (fun i j e d hi hj => by
     obtain ⟨v, e1, e2⟩ := cel i j e d hi hj
     rw [e1]
     exact e2.mono (fun _ h => .inl h) (fun _ _ => rfl))
   rw [h1] at this
   exact .d _ _ this
def Zv9 : List (Nat × List (List D)) → (Nat → AV) → Nat → AV
 | [], s => s
 | (j, es) :: r, s => Zv9 r (upd s j (.d (.list es)))
def ZtY : List (Key × Nat × List (List D)) → Hp → Hp
 | [], H => H
 | (k, i, es) :: r, H => ZtY r (updH H k ⟨(H k).g, (H k).live, (H k).e, (H k).sz, (H k).cells.set i (.d (.list es))⟩)
theorem ZgQ {L : Nat} : ∀ (js : List (Nat × List (List D))) {s : Nat → AV}, Zdf L s H m S a w → (∀ p ∈ js, RepA w S H m L (.d (.list p.2)) (a.tmps.getD p.1 undef)) → Zdf L (Zv9 js s) H m S a w
 | [], s, h, _ => h
 | (j, es) :: r, s, h, hp => ZgQ r (fun i => by
   simp only [upd]
   by_cases hi : i = j
   ·subst hi; rw [if_pos rfl]; exact hp (i, es) (Yw ..)
   ·rw [if_neg hi]; exact h i) (fun p hq => hp p (Yq _ hq))
theorem Ok.cell {L : Nat} (h : Ok L H m S w) (k : Key) (hk : k.1 ≤ L) (hl : (H k).live = true) (i : Nat) (x : AV) (hx : ∀ C : Array Value, w.heap[(m k).b]? = some (.cells C (H k).e.ty (0, 0)) → ∀ v, C[(m k).o + i]? = some v → (H k).cells[i]? ≠ none → RepA w S H m k.1 x v) :
  Ok L (updH H k ⟨(H k).g, (H k).live, (H k).e, (H k).sz, (H k).cells.set i x⟩) m S w ∧ Ext L H m S w (updH H k ⟨(H k).g, (H k).live, (H k).e, (H k).sz, (H k).cells.set i x⟩) m S w := by
 by_cases hcap : (m k).cap = 0
 ·have hc := h.empty k hk hl hcap
  have e : (⟨(H k).g, (H k).live, (H k).e, (H k).sz, (H k).cells.set i x⟩ : Blk) = H k := by rw [hc]; simp; rw [← hc]
  rw [e, ZhE H k _ rfl]
  exact ⟨h, Ext.refl _ _ _ _ _⟩
 ·obtain ⟨C, h1, h2, h3, h4⟩ := h.blk k hk hl hcap
  have := h.write k hk hl hcap ((H k).cells.set i x) C h2 (by simpa using h3) w (fun b => by split <;> simp_all) rfl rfl rfl rfl (fun j y v hj hv => by
   rw [YaW] at hj
   split at hj
   ·rename_i hij
    subst hij
    split at hj
    ·rename_i hlt
     simp only [Ye] at hj
     subst hj
     exact ⟨(h4 i _ v (Yb hlt) hv).1, hx C h1 v hv (by rw [Yb hlt]; simp)⟩
    ·cases hj
   ·exact h4 j y v hj hv)
  exact this
theorem ZqB {L : Nat} : ∀ (cs : List (Key × Nat × List (List D))) {H : Hp}, Ok L H m S w → (∀ p ∈ cs, p.1.1 ≤ L ∧ (H p.1).live = true ∧ ∀ C : Array Value, w.heap[(m p.1).b]? = some (.cells C (H p.1).e.ty (0, 0)) → ∀ v, C[(m p.1).o + p.2.1]? = some v → (H p.1).cells[p.2.1]? ≠ none → ∀ H' L', RepA w S H' m L' (.d (.list p.2.2)) v) →
  Ok L (ZtY cs H) m S w ∧ Ext L H m S w (ZtY cs H) m S w
 | [], H, h, _ => ⟨h, Ext.refl _ _ _ _ _⟩
 | (k, i, es) :: r, H, h, hp => by
  obtain ⟨p1, p2, p3⟩ := hp _ (Yw ..)
  obtain ⟨h1, h2⟩ := h.cell k p1 p2 i (.d (.list es)) (fun C hb v hv hc => p3 C hb v hv hc _ _)
  obtain ⟨h3, h4⟩ := ZqB r h1 (fun p hq => by
   obtain ⟨q1, q2, q3⟩ := hp p (Yq _ hq)
   by_cases e : p.1 = k
   ·rw [e] at q1 q2 q3 ⊢
    rw [Zab]
    grind
   ·rw [Zac _ _ e]; exact ⟨q1, q2, q3⟩)
  exact ⟨h3, h2.trans h4⟩
theorem R.freeze {act : Act} (h : R l n B ⟨s, H⟩ act w) {k : Key} (hk : k.1 ≤ l + 1) (hl : (H k).live = true) (hz : (H k).sz ≠ 0) (js : List (Nat × List (List D))) (cs : List (Key × Nat × List (List D)))
  (hjs : ∀ p ∈ js, ∃ off c, s p.1 = .ref k (H k).g off c ∧ p.2.length = c ∧ (∀ e ∈ p.2, e.length = (H k).sz) ∧ (off + c) * (H k).sz ≤ (H k).cells.length ∧ ((H k).cells.drop (off * (H k).sz)).take (c * (H k).sz) = p.2.flatten.map .d)
  (hcs : ∀ p ∈ cs, p.1 ≠ k ∧ p.1.1 ≤ l + 1 ∧ (H p.1).live = true ∧ ∃ off c, (H p.1).cells[p.2.1]? = some (.ref k (H k).g off c) ∧ p.2.2.length = c ∧ (∀ e ∈ p.2.2, e.length = (H k).sz) ∧ (off + c) * (H k).sz ≤ (H k).cells.length ∧
   ((H k).cells.drop (off * (H k).sz)).take (c * (H k).sz) = p.2.2.flatten.map .d) : R l n B ⟨Zv9 js s, ZtY cs (updH H k { H k with live := false })⟩ act w := by
 obtain ⟨m, S, hO, hn, hdf, hS, hex⟩ := h.un
 obtain ⟨k1, k2⟩ := hO.kill k hk hl
 have hS1 := hS.ext k2
 have hS2 := ZgQ js hS1 (fun p hp => by
  obtain ⟨off, c, e1, e2, e3, e4, e5⟩ := hjs p hp
  have hx := hS p.1
  rw [e1] at hx
  exact ZgS hO hk hl e2 hz e3 e4 e5 hx)
 obtain ⟨k3, k4⟩ := ZqB cs k1 (fun p hp => by
  obtain ⟨e0, e1, e2, off, c, f1, f2, f3, f4, f5⟩ := hcs p hp
  rw [Zac _ _ e0]
  refine ⟨e1, e2, fun C hb v hv _ H' L' => ?_⟩
  have hcap : (m p.1).cap ≠ 0 := fun e => by
   have := hO.empty p.1 e1 e2 e
   grind
  obtain ⟨C', b1, b2, b3, b4⟩ := hO.blk p.1 e1 e2 hcap
  rw [b1] at hb
  cases hb
  exact ZgS hO hk hl f2 hz f3 f4 f5 (b4 _ _ v f1 hv).2)
 exact ⟨m, _, k3, hn, hdf, hS2.ext k4, (hex.trans (k2.mono (by omega))).trans (k4.mono (by omega))⟩
def mvA (k k' : Key) (g g' : Nat) : AV → AV
 | .ref q h off c => match Nat.beq q.1 k.1 && Nat.beq q.2 k.2 && Nat.beq h g with | true => .ref k' g' off c | false => .ref q h off c
 | .mp q h => match Nat.beq q.1 k.1 && Nat.beq q.2 k.2 && Nat.beq h g with | true => .mp k' g' | false => .mp q h
 | x => x
theorem Zn8 {k k' q : Key} {g g' h : Nat} : mvA k k' g g' (.mp q h) = if q = k ∧ h = g then .mp k' g' else .mp q h := by
 obtain ⟨q1, q2⟩ := q
 obtain ⟨k1, k2⟩ := k
 simp only [mvA]
 split
 ·rename_i he
  simp only [Bool.and_eq_true] at he
  have a1 := Ya he.1.1
  have a2 := Ya he.1.2
  have a3 := Ya he.2
  grind
 ·rename_i he
  rw [if_neg]
  rintro ⟨h1, h2⟩
  cases h1
  simp [h2] at he
theorem ZjL {k k' q : Key} {g g' h off c : Nat} : mvA k k' g g' (.ref q h off c) = if q = k ∧ h = g then .ref k' g' off c else .ref q h off c := by
 obtain ⟨q1, q2⟩ := q
 obtain ⟨k1, k2⟩ := k
 simp only [mvA]
 split
 ·rename_i he
  simp only [Bool.and_eq_true] at he
  have a1 := Ya he.1.1
  have a2 := Ya he.1.2
  have a3 := Ya he.2
  grind
 ·rename_i he
  rw [if_neg]
  rintro ⟨h1, h2⟩
  cases h1
  simp [h2] at he
theorem R.handout {act : Act} (h : R l n B ⟨s, H⟩ act w) {k k' : Key} (hk : k.1 = l + 1) (hk' : k'.1 ≤ l) (hl : (H k).live = true) (hflat : Zd0 (H k).cells) {s' : Nat → AV}
  (hs : ∀ j, s' j = s j ∨ (∃ off c, s j = .ref k (H k).g off c ∧ s' j = .ref k' ((H k').g + 1) off c) ∨ (s j = .mp k (H k).g ∧ s' j = .mp k' ((H k').g + 1))) : R l n B ⟨s', updH (updH H k { H k with live := false }) k' { H k with g := (H k').g + 1 }⟩ act w := by
 obtain ⟨m, S, hO, hn, hdf, hS, hex⟩ := h.un
 have hne : k ≠ k' := by rintro rfl; omega
 let H2 := updH (updH H k { H k with live := false }) k' { H k with g := (H k').g + 1 }
 let m2 := ZcK m k' (m k)
 have e1 : H2 k' = { H k with g := (H k').g + 1 } := Zab _ _ _
 have e2 : H2 k = { H k with live := false } := by show updH _ _ _ _ = _; rw [Zac _ _ hne, Zab]
 have e3 : ∀ q, q ≠ k → q ≠ k' → H2 q = H q := fun q h1 h2 => by show updH _ _ _ _ = _; rw [Zac _ _ h2, Zac _ _ h1]
 have f1 : m2 k' = m k := Zae _ _ _
 have f2 : ∀ q, q ≠ k' → m2 q = m q := fun q h => Zal _ _ h
 have hext : Ext (l + 1) H m S w H2 m2 S w := by
  refine ⟨fun _ h => h, fun _ _ => rfl, fun q hq => ?_, fun q hq hg hl' => ?_, rfl, rfl, rfl, Yd _⟩
  ·by_cases h1 : q = k'
   ·grind
   ·by_cases h2 : q = k
    ·grind
    grind
  ·by_cases h1 : q = k'
   ·grind
   ·by_cases h2 : q = k
    ·grind
    grind
 have src : ∀ q : Key, (H2 q).live = true → (q = k' ∧ True) ∨ (q ≠ k ∧ q ≠ k' ∧ (H q).live = true) := fun q hq => by
  by_cases h1 : q = k'
  ·grind
  ·by_cases h2 : q = k
   ·grind
   grind
 have hO2 : Ok (l + 1) H2 m2 S w := by
  refine ⟨hO.sub, fun q hq hl' hz => ?_, fun q hq hl' hz => ?_, fun q q' hq hq' hl' hl'' hz hz' heq => ?_, fun q hq hl' hz => ?_, ⟨fun q hq hl' => ?_, fun q hq hl' he => ?_, fun q q' hq hq' hl' hl'' he he' heq => ?_⟩⟩
  ·rcases src q hl' with ⟨rfl, _⟩ | ⟨h1, h2, h3⟩
   ·rw [f1] at hz; rw [e1]; exact hO.empty k (by omega) hl hz
   ·rw [f2 q h2] at hz; rw [e3 q h1 h2]; exact hO.empty q hq h3 hz
  ·rcases src q hl' with ⟨rfl, _⟩ | ⟨h1, h2, h3⟩
   ·rw [f1] at hz ⊢; exact hO.fresh k (by omega) hl hz
   ·rw [f2 q h2] at hz ⊢; exact hO.fresh q hq h3 hz
  ·rcases src q hl' with ⟨rfl, _⟩ | ⟨h1, h2, h3⟩ <;> rcases src q' hl'' with ⟨rfl, _⟩ | ⟨h1', h2', h3'⟩
   ·rfl
   ·rw [f1] at hz heq; rw [f2 q' h2'] at hz' heq
    exact absurd (hO.inj k q' (by omega) hq' hl h3' hz hz' heq) (Ne.symm h1')
   ·rw [f1] at hz' heq; rw [f2 q h2] at hz heq
    exact absurd (hO.inj q k hq (by omega) h3 hl hz hz' heq) h1
   ·rw [f2 q h2] at hz heq; rw [f2 q' h2'] at hz' heq
    exact hO.inj q q' hq hq' h3 h3' hz hz' heq
  ·rcases src q hl' with ⟨rfl, _⟩ | ⟨h1, h2, h3⟩
   ·rw [f1] at hz
    obtain ⟨C, b1, b2, b3, b4⟩ := hO.blk k (by omega) hl hz
    rw [e1, f1]
    refine ⟨C, b1, b2, b3, fun i x v hi hv => ⟨(b4 i x v hi hv).1, ?_⟩⟩
    have hx := (b4 i x v hi hv).2
    have hf := hflat x (Yj hi)
    cases x with
    | d x => cases hx with | d _ _ hd => exact .d _ _ hd
    | _ => cases hf
   ·rw [f2 q h2] at hz
    obtain ⟨C, b1, b2, b3, b4⟩ := hO.blk q hq h3 hz
    rw [e3 q h1 h2, f2 q h2]
    exact ⟨C, b1, b2, b3, fun i x v hi hv => ⟨(b4 i x v hi hv).1, (b4 i x v hi hv).2.ext hext hq⟩⟩
  ·rcases src q hl' with ⟨rfl, _⟩ | ⟨h1, h2, h3⟩
   ·rw [f1, e1]; exact hO.mp.o k (by omega) hl
   ·rw [f2 q h2, e3 q h1 h2]; exact hO.mp.o q hq h3
  ·rcases src q hl' with ⟨rfl, _⟩ | ⟨h1, h2, h3⟩
   ·rw [f1]; rw [e1] at he; exact hO.mp.c k (by omega) hl he
   ·rw [f2 q h2]; rw [e3 q h1 h2] at he; exact hO.mp.c q hq h3 he
  ·rcases src q hl' with ⟨rfl, _⟩ | ⟨h1, h2, h3⟩ <;> rcases src q' hl'' with ⟨rfl, _⟩ | ⟨h1', h2', h3'⟩
   ·rfl
   ·rw [f1, f2 q' h2'] at heq; rw [e1] at he; rw [e3 q' h1' h2'] at he'
    exact absurd (hO.mp.i k q' (by omega) hq' hl h3' he he' heq) (Ne.symm h1')
   ·rw [f1, f2 q h2] at heq; rw [e1] at he'; rw [e3 q h1 h2] at he
    exact absurd (hO.mp.i q k hq (by omega) h3 hl he he' heq) h1
   ·rw [f2 q h2, f2 q' h2'] at heq; rw [e3 q h1 h2] at he; rw [e3 q' h1' h2'] at he'
    exact hO.mp.i q q' hq hq' h3 h3' he he' heq
 refine ⟨m2, S, hO2, hn, hdf, fun i => ?_, hex.trans (hext.mono (by omega))⟩
 show RepA w S H2 m2 (l + 1) (s' i) _
 have hx := hS i
 generalize act.tmps.getD i Go.undef = v at hx ⊢
 rcases hs i with e | ⟨off, c, e, e'⟩ | ⟨e, e'⟩
 ·rw [e]; exact hx.ext hext (Yd _)
 rotate_left
 ·rw [e']
  rw [e] at hx
  obtain ⟨_, rfl⟩ := ZfU hx rfl hl
  have := RepA.mpL (w := w) (S := S) (H := H2) (m := m2) (l := l + 1) k' (by omega) (by rw [e1]; exact hl)
  grind
 ·rw [e']
  rw [e] at hx
  generalize hg : (H k).g = g at hx
  cases hx with
  | refD _ _ _ _ _ hq hg' hd h1 => rw [hd hg.symm] at hl; cases hl
  | refL _ _ _ oa hq hl' hcap ha =>
   have := RepA.refL (w := w) (S := S) (H := H2) (m := m2) (l := l + 1) k' off c oa (by omega) (by rw [e1]; exact hl) (by rw [f1]; exact hcap) (fun h => by rw [f1] at h ⊢; rw [e1]; exact ha h)
   grind
theorem Ok.rekey (hO : Ok (l + 1) H m S w) {k k' : Key} (hk : k.1 ≤ l + 1) (hk' : k'.1 ≤ l + 1) (hne : k ≠ k') (hl : (H k).live = true) (hflat : Zd0 (H k).cells) :
  Ok (l + 1) (updH (updH H k { H k with live := false }) k' { H k with g := (H k').g + 1 }) (ZcK m k' (m k)) S w ∧ Ext (l + 1) H m S w (updH (updH H k { H k with live := false }) k' { H k with g := (H k').g + 1 }) (ZcK m k' (m k)) S w := by
 let H2 := updH (updH H k { H k with live := false }) k' { H k with g := (H k').g + 1 }
 let m2 := ZcK m k' (m k)
 have e1 : H2 k' = { H k with g := (H k').g + 1 } := Zab _ _ _
 have e2 : H2 k = { H k with live := false } := by show updH _ _ _ _ = _; rw [Zac _ _ hne, Zab]
 have e3 : ∀ q, q ≠ k → q ≠ k' → H2 q = H q := fun q h1 h2 => by show updH _ _ _ _ = _; rw [Zac _ _ h2, Zac _ _ h1]
 have f1 : m2 k' = m k := Zae _ _ _
 have f2 : ∀ q, q ≠ k' → m2 q = m q := fun q h => Zal _ _ h
 have hext : Ext (l + 1) H m S w H2 m2 S w := by
  refine ⟨fun _ h => h, fun _ _ => rfl, fun q hq => ?_, fun q hq hg hl' => ?_, rfl, rfl, rfl, Yd _⟩
  ·by_cases h1 : q = k'
   ·grind
   ·by_cases h2 : q = k
    ·grind
    grind
  ·by_cases h1 : q = k'
   ·grind
   ·by_cases h2 : q = k
    ·grind
    grind
 have src : ∀ q : Key, (H2 q).live = true → (q = k' ∧ True) ∨ (q ≠ k ∧ q ≠ k' ∧ (H q).live = true) := fun q hq => by
  by_cases h1 : q = k'
  ·grind
  ·by_cases h2 : q = k
   ·grind
   grind
 have hO2 : Ok (l + 1) H2 m2 S w := by
  refine ⟨hO.sub, fun q hq hl' hz => ?_, fun q hq hl' hz => ?_, fun q q' hq hq' hl' hl'' hz hz' heq => ?_, fun q hq hl' hz => ?_, ⟨fun q hq hl' => ?_, fun q hq hl' he => ?_, fun q q' hq hq' hl' hl'' he he' heq => ?_⟩⟩
  ·rcases src q hl' with ⟨rfl, _⟩ | ⟨h1, h2, h3⟩
   ·rw [f1] at hz; rw [e1]; exact hO.empty k (by omega) hl hz
   ·rw [f2 q h2] at hz; rw [e3 q h1 h2]; exact hO.empty q hq h3 hz
  ·rcases src q hl' with ⟨rfl, _⟩ | ⟨h1, h2, h3⟩
   ·rw [f1] at hz ⊢; exact hO.fresh k (by omega) hl hz
   ·rw [f2 q h2] at hz ⊢; exact hO.fresh q hq h3 hz
  ·rcases src q hl' with ⟨rfl, _⟩ | ⟨h1, h2, h3⟩ <;> rcases src q' hl'' with ⟨rfl, _⟩ | ⟨h1', h2', h3'⟩
   ·rfl
   ·rw [f1] at hz heq; rw [f2 q' h2'] at hz' heq
    exact absurd (hO.inj k q' (by omega) hq' hl h3' hz hz' heq) (Ne.symm h1')
   ·rw [f1] at hz' heq; rw [f2 q h2] at hz heq
    exact absurd (hO.inj q k hq (by omega) h3 hl hz hz' heq) h1
   ·rw [f2 q h2] at hz heq; rw [f2 q' h2'] at hz' heq
    exact hO.inj q q' hq hq' h3 h3' hz hz' heq
  ·rcases src q hl' with ⟨rfl, _⟩ | ⟨h1, h2, h3⟩
   ·rw [f1] at hz
    obtain ⟨C, b1, b2, b3, b4⟩ := hO.blk k (by omega) hl hz
    rw [e1, f1]
    refine ⟨C, b1, b2, b3, fun i x v hi hv => ⟨(b4 i x v hi hv).1, ?_⟩⟩
    have hx := (b4 i x v hi hv).2
    have hf := hflat x (Yj hi)
    cases x with
    | d x => cases hx with | d _ _ hd => exact .d _ _ hd
    | _ => cases hf
   ·rw [f2 q h2] at hz
    obtain ⟨C, b1, b2, b3, b4⟩ := hO.blk q hq h3 hz
    rw [e3 q h1 h2, f2 q h2]
    exact ⟨C, b1, b2, b3, fun i x v hi hv => ⟨(b4 i x v hi hv).1, (b4 i x v hi hv).2.ext hext hq⟩⟩
  ·rcases src q hl' with ⟨rfl, _⟩ | ⟨h1, h2, h3⟩
   ·rw [f1, e1]; exact hO.mp.o k (by omega) hl
   ·rw [f2 q h2, e3 q h1 h2]; exact hO.mp.o q hq h3
  ·rcases src q hl' with ⟨rfl, _⟩ | ⟨h1, h2, h3⟩
   ·rw [f1]; rw [e1] at he; exact hO.mp.c k (by omega) hl he
   ·rw [f2 q h2]; rw [e3 q h1 h2] at he; exact hO.mp.c q hq h3 he
  ·rcases src q hl' with ⟨rfl, _⟩ | ⟨h1, h2, h3⟩ <;> rcases src q' hl'' with ⟨rfl, _⟩ | ⟨h1', h2', h3'⟩
   ·rfl
   ·rw [f1, f2 q' h2'] at heq; rw [e1] at he; rw [e3 q' h1' h2'] at he'
    exact absurd (hO.mp.i k q' (by omega) hq' hl h3' he he' heq) (Ne.symm h1')
   ·rw [f1, f2 q h2] at heq; rw [e1] at he'; rw [e3 q h1 h2] at he
    exact absurd (hO.mp.i q k hq (by omega) h3 hl he he' heq) h1
   ·rw [f2 q h2, f2 q' h2'] at heq; rw [e3 q h1 h2] at he; rw [e3 q' h1' h2'] at he'
    exact hO.mp.i q q' hq hq' h3 h3' he he' heq
 exact ⟨hO2, hext⟩
theorem R.rename {act : Act} (h : R l n B ⟨s, H⟩ act w) {k k' q : Key} (hk : k.1 = l + 1) (hk' : k'.1 ≤ l + 1) (hq : q.1 = l + 1) (hne : k ≠ k') (hqk : q ≠ k) (hqk' : q ≠ k') (hl : (H k).live = true) (hlq : (H q).live = true) (hflat : Zd0 (H k).cells)
  {i off c : Nat} (hc : (H q).cells[i]? = some (.ref k (H k).g off c)) {s' : Nat → AV}
  (hs : ∀ j, s' j = s j ∨ (∃ off c, s j = .ref k (H k).g off c ∧ s' j = .ref k' ((H k').g + 1) off c) ∨ (s j = .mp k (H k).g ∧ s' j = .mp k' ((H k').g + 1))) :
  R l n B ⟨s', updH (updH (updH H k { H k with live := false }) k' { H k with g := (H k').g + 1 }) q ⟨(H q).g, true, (H q).e, (H q).sz, (H q).cells.set i (.ref k' ((H k').g + 1) off c)⟩⟩ act w := by
 obtain ⟨m, S, hO, hn, hdf, hS, hex⟩ := h.un
 obtain ⟨hO2, hext⟩ := hO.rekey (by omega) (by omega) hne hl hflat
 have e1 : (updH (updH H k { H k with live := false }) k' { H k with g := (H k').g + 1 }) k' = { H k with g := (H k').g + 1 } := Zab _ _ _
 have e3 : (updH (updH H k { H k with live := false }) k' { H k with g := (H k').g + 1 }) q = H q := by rw [Zac _ _ hqk', Zac _ _ hqk]
 have f1 : ZcK m k' (m k) k' = m k := Zae _ _ _
 have f2 : ZcK m k' (m k) q = m q := Zal _ _ hqk'
 have ref : ∀ {L off c v}, L ≤ l + 1 → RepA w S H m L (.ref k (H k).g off c) v → RepA w S (updH (updH H k { H k with live := false }) k' { H k with g := (H k').g + 1 }) (ZcK m k' (m k)) (l + 1) (.ref k' ((H k').g + 1) off c) v := fun {L off c v} hL hx => by
  generalize hg : (H k).g = g at hx
  cases hx with
  | refD _ _ _ _ _ hq hg' hd h1 => rw [hd hg.symm] at hl; cases hl
  | refL _ _ _ oa hq hl' hcap ha =>
   have := RepA.refL (w := w) (S := S) (H := updH (updH H k { H k with live := false }) k' { H k with g := (H k').g + 1 }) (m := ZcK m k' (m k)) (l := l + 1) k' off c oa (by omega) (by rw [e1]; exact hl) (by rw [f1]; exact hcap) (fun h => by rw [f1] at h ⊢; rw [e1]; exact ha h)
   grind
 obtain ⟨hO3, hext3⟩ := hO2.cell q (by omega) (by rw [e3]; exact hlq) i (.ref k' ((H k').g + 1) off c) (fun C hC v hv _ => by
  have hcap : (m q).cap ≠ 0 := fun e => by
   have := hO.empty q (by omega) hlq e
   rw [this] at hc; simp at hc
  obtain ⟨C', b1, b2, b3, b4⟩ := hO.blk q (by omega) hlq hcap
  rw [f2, e3, b1] at hC
  cases hC
  rw [f2] at hv
  have := ref (by omega) (b4 i _ v hc hv).2
  rw [hq]; exact this)
 rw [e3] at hO3 hext3
 rw [hlq] at hO3 hext3
 refine ⟨ZcK m k' (m k), S, hO3, hn, hdf, fun i => ?_, (hex.trans (hext.mono (by omega))).trans (hext3.mono (by omega))⟩
 show RepA w S _ _ (l + 1) (s' i) _
 have hx := hS i
 generalize act.tmps.getD i Go.undef = v at hx ⊢
 rcases hs i with e | ⟨off, c, e, e'⟩ | ⟨e, e'⟩
 ·rw [e]; exact (hx.ext hext (Yd _)).ext hext3 (Yd _)
 ·rw [e'] ; rw [e] at hx
  exact (ref (Yd _) hx).ext hext3 (Yd _)
 ·rw [e']; rw [e] at hx
  obtain ⟨_, rfl⟩ := ZfU hx rfl hl
  have := RepA.mpL (w := w) (S := S) (H := updH (updH H k { H k with live := false }) k' { H k with g := (H k').g + 1 }) (m := ZcK m k' (m k)) (l := l + 1) k' (by omega) (by rw [e1]; exact hl)
  rw [f1, e1] at this
  exact this.ext hext3 (Yd _)
theorem R.trim {act : Act} (h : R l n B ⟨s, H⟩ act w) {k : Key} (hk : k.1 ≤ l + 1) (hl : (H k).live = true) (c : Nat) : R l n B ⟨s, updH H k ⟨(H k).g, (H k).live, (H k).e, (H k).sz, (H k).cells.take c⟩⟩ act w := by
 obtain ⟨m, S, hO, hn, hdf, hS, hex⟩ := h.un
 have key : Ok (l + 1) (updH H k ⟨(H k).g, (H k).live, (H k).e, (H k).sz, (H k).cells.take c⟩) m S w ∧ Ext (l + 1) H m S w (updH H k ⟨(H k).g, (H k).live, (H k).e, (H k).sz, (H k).cells.take c⟩) m S w := by
  by_cases hcap : (m k).cap = 0
  ·have hc := hO.empty k hk hl hcap
   have e : (⟨(H k).g, (H k).live, (H k).e, (H k).sz, (H k).cells.take c⟩ : Blk) = H k := by rw [hc]; simp; rw [← hc]
   rw [e, ZhE H k _ rfl]
   exact ⟨hO, Ext.refl _ _ _ _ _⟩
  ·obtain ⟨C, h1, h2, h3, h4⟩ := hO.blk k hk hl hcap
   exact hO.write k hk hl hcap ((H k).cells.take c) C h2 (by rw [YU]; omega) w (fun b => by split <;> simp_all) rfl rfl rfl rfl (fun j y v hj hv => by
    rw [YM] at hj
    split at hj
    ·exact h4 j y v hj hv
    ·cases hj)
 exact ⟨m, S, key.1, hn, hdf, hS.ext key.2, hex.trans (key.2.mono (by omega))⟩
theorem R.rebase {act : Act} (h : R l n B ⟨s, H⟩ act w) {k : Key} (hk : k.1 ≤ l + 1) (hl : (H k).live = true) {j off c : Nat} (hj : s j = .ref k (H k).g off c) (hlen : off * (H k).sz ≤ (H k).cells.length) :
  R l n B ⟨upd s j (.ref k ((H k).g + 1) 0 c), updH H k ⟨(H k).g + 1, true, .t (H k).e.ty, (H k).sz, (H k).cells.drop (off * (H k).sz)⟩⟩ act w := by
 obtain ⟨m, S, hO, hn, hdf, hS, hex⟩ := h.un
 have hx := hS j
 rw [hj] at hx
 generalize hv : act.tmps.getD j Go.undef = v at hx
 generalize hg : (H k).g = g at hx
 cases hx with
 | refD _ _ _ _ _ hq hg' hd h1 => rw [hd hg.symm] at hl; cases hl
 | refL _ _ _ oa hq hl' hcap ha =>
  have fin : ∀ (M : MB), M.cap = (m k).cap - off → (M.cap ≠ 0 → M.b = (m k).b ∧ M.o = (m k).o + off * (H k).sz) → (Ok (l + 1) (updH H k ⟨(H k).g + 1, true, .t (H k).e.ty, (H k).sz, (H k).cells.drop (off * (H k).sz)⟩) (ZcK m k M) S w ∧ Ext (l + 1) H m S w (updH H k ⟨(H k).g + 1, true, .t (H k).e.ty, (H k).sz, (H k).cells.drop (off * (H k).sz)⟩) (ZcK m k M) S w) →
    R l n B ⟨upd s j (.ref k ((H k).g + 1) 0 c), updH H k ⟨(H k).g + 1, true, .t (H k).e.ty, (H k).sz, (H k).cells.drop (off * (H k).sz)⟩⟩ act w := fun M hM hM2 hk2 => by
   refine ⟨_, S, hk2.1, hn, hdf, fun i => ?_, hex.trans (hk2.2.mono (by omega))⟩
   show RepA w S _ _ (l + 1) (upd s j (.ref k ((H k).g + 1) 0 c) i) _
   by_cases hi : i = j
   ·subst hi
    rw [hv]
    have := RepA.refL (w := w) (S := S) (H := updH H k ⟨(H k).g + 1, true, .t (H k).e.ty, (H k).sz, (H k).cells.drop (off * (H k).sz)⟩) (m := ZcK m k M) (l := l + 1) k 0 c oa hk (by rw [Zab]) (by rw [Zae, hM]; omega) (fun ho => by
     rw [Zae] at ho ⊢
     rw [Zab]
     obtain ⟨e1, e2⟩ := hM2 (by omega)
     rw [ha (by omega), e1, e2]; simp)
    rw [Zab, Zae, hM] at this
    simpa [upd] using this
   ·simp only [upd, if_neg hi]
    exact (hS i).ext hk2.2 (Yd _)
  by_cases hz : (m k).cap - off = 0
  ·have hd : (H k).cells.drop (off * (H k).sz) = [] := by
    refine List.drop_of_length_le ?_
    by_cases hc0 : (m k).cap = 0
    ·rw [hO.empty k hk hl hc0]; simp
    ·obtain ⟨C, b1, b2, b3, b4⟩ := hO.blk k hk hl hc0
     rw [show off = (m k).cap from by omega]; exact b3
   refine fin ⟨0, 0, 0⟩ (by rw [hz]) (fun e => absurd rfl e) ?_
   rw [hd]
   exact hO.overEmpty k hk ((H k).g + 1) (H k).e.ty (H k).sz (YP _) ⟨0, 0, 0⟩ rfl
  ·obtain ⟨C, b1, b2, b3, b4⟩ := hO.blk k hk hl (by omega)
   have hmul : off * (H k).sz + ((m k).cap - off) * (H k).sz = (m k).cap * (H k).sz := by rw [← YB]; congr 1; omega
   refine fin ⟨(m k).b, (m k).o + off * (H k).sz, (m k).cap - off⟩ rfl (fun _ => ⟨rfl, rfl⟩) ?_
   refine hO.over k hk ⟨(H k).g + 1, true, .t (H k).e.ty, (H k).sz, (H k).cells.drop (off * (H k).sz)⟩ ⟨(m k).b, (m k).o + off * (H k).sz, (m k).cap - off⟩ (YP _) rfl hz C w (fun i => ?_) (.inr ⟨rfl, hl, by omega⟩)
    (by rw [b2]; simp only; omega) (by simp only [Yad]; omega) (fun i x u hi hu => ?_) (Yd _) rfl rfl rfl
   ·split
    ·rename_i e; rw [e, b1]; rfl
    ·rfl
   ·rw [YK] at hi
    exact b4 _ x u hi (by rw [← Yp]; exact hu)
theorem R.adoptC {act : Act} {e : TypeId} {sz i : Nat} (h : R l n B ⟨s, H⟩ act w) {k kp : Key} (hk : k.1 = l + 1) (hkp : kp.1 = l + 1) (hne : kp ≠ k) (hlp : (H kp).live = true) (hc : (H kp).cells[i]? = some .e0) :
  R l n B ⟨s, updH (updH H k ⟨(H k).g + 1, true, e, sz, []⟩) kp ⟨(H kp).g, (H kp).live, (H kp).e, (H kp).sz, (H kp).cells.set i (.ref k ((H k).g + 1) 0 0)⟩⟩ act w := by
 obtain ⟨m, S, hO, hn, hdf, hS, hex⟩ := h.un
 obtain ⟨k1, k2⟩ := hO.overEmpty k (by omega) ((H k).g + 1) e sz (YP _) ⟨0, 0, 0⟩ rfl
 have hp : updH H k ⟨(H k).g + 1, true, e, sz, []⟩ kp = H kp := Zac _ _ hne
 have hm : ZcK m k ⟨0, 0, 0⟩ kp = m kp := Zal _ _ hne
 obtain ⟨k3, k4⟩ := k1.cell kp (by omega) (by rw [hp]; exact hlp) i (.ref k ((H k).g + 1) 0 0) (fun C hb v hv _ => by
  rw [hm] at hb hv
  rw [hp] at hb
  have hcap : (m kp).cap ≠ 0 := fun e => by
   have := hO.empty kp (by omega) hlp e
   rw [this] at hc
   simp at hc
  obtain ⟨C', b1, b2, b3, b4⟩ := hO.blk kp (by omega) hlp hcap
  rw [b1] at hb
  cases hb
  have hr := (b4 _ _ v hc hv).2
  cases hr with
  | e0 oa =>
   have := RepA.refL (w := w) (S := S) (H := updH H k ⟨(H k).g + 1, true, e, sz, []⟩) (m := ZcK m k ⟨0, 0, 0⟩) (l := kp.1) k 0 0 oa (by omega) (by rw [Zab]) (by rw [Zae]; simp) (fun h => by rw [Zae] at h; simp at h)
   rw [Zab, Zae] at this
   exact this)
 rw [hp] at k3 k4
 exact ⟨_, S, k3, hn, hdf, (hS.ext k2).ext k4, (hex.trans (k2.mono (by omega))).trans (k4.mono (by omega))⟩
theorem Ok.killO {L : Nat} (h : Ok L H m S w) (k : Key) (hk : k.1 ≤ L) (hl : (H k).live = true) (hO : (H k).e.isO = true) :
  Ok L (updH H k { H k with live := false }) m (fun b => S b ∨ b = (m k).b) w ∧ Ext L H m S w (updH H k { H k with live := false }) m (fun b => S b ∨ b = (m k).b) w := by
 obtain ⟨o0, p1, p2⟩ := (h.mp.o k hk hl).at hO
 have hext : Ext L H m S w (updH H k { H k with live := false }) m (fun b => S b ∨ b = (m k).b) w := by
  refine ⟨fun _ h => .inl h, fun _ _ => rfl, fun q hq => ?_, fun q hq hg hl' => ?_, rfl, rfl, rfl, Yd _⟩
  ·by_cases e : q = k
   ·subst e; rw [Zab]; exact Yd _
   ·rw [Zac _ _ e]; exact Yd _
  ·by_cases e : q = k
   ·subst e; rw [Zab] at hl'; cases hl'
   ·rw [Zac _ _ e] at hl' ⊢; exact ⟨hl', rfl, rfl⟩
 have hne : ∀ q : Key, (updH H k { H k with live := false } q).live = true → q ≠ k ∧ (H q).live = true ∧ updH H k { H k with live := false } q = H q := fun q hq => by
  by_cases e : q = k
  ·subst e; rw [Zab] at hq; cases hq
  ·rw [Zac _ _ e] at hq; exact ⟨e, hq, Zac _ _ e⟩
 refine ⟨⟨fun b hb => ?_, fun q hq hl' hz => ?_, fun q hq hl' hz => ?_, fun q q' hq hq' hl' hl'' hz hz' heq => ?_, fun q hq hl' hz => ?_,
  ⟨fun q hq hl' => ?_, fun q hq hl' he => ?_, fun q q' hq hq' hl' hl'' he he' heq => ?_⟩⟩, hext⟩
 ·rcases hb with hb | rfl
  ·exact h.sub b hb
  grind
 ·obtain ⟨e, h1, h2⟩ := hne q hl'
  rw [h2]; exact h.empty q hq h1 hz
 ·obtain ⟨e, h1, h2⟩ := hne q hl'
  rintro (hs | hb)
  ·exact h.fresh q hq h1 hz hs
  ·obtain ⟨C, c1, _⟩ := h.blk q hq h1 hz
   rw [hb, p1] at c1; cases c1; cases p2
 ·obtain ⟨e, h1, h2⟩ := hne q hl'
  obtain ⟨e', h1', h2'⟩ := hne q' hl''
  exact h.inj q q' hq hq' h1 h1' hz hz' heq
 ·obtain ⟨e, h1, h2⟩ := hne q hl'
  rw [h2]
  obtain ⟨C, hb, hs, hle, hx⟩ := h.blk q hq h1 hz
  exact ⟨C, hb, hs, hle, fun i x v hi hv => ⟨(hx i x v hi hv).1, (hx i x v hi hv).2.ext hext hq⟩⟩
 ·obtain ⟨e, h1, h2⟩ := hne q hl'
  rw [h2]
  exact (h.mp.o q hq h1).mono (fun _ h => .inl h) (fun _ _ => rfl) (fun _ => rfl)
 ·obtain ⟨e, h1, h2⟩ := hne q hl'
  rw [h2] at he
  refine ⟨(h.mp.c q hq h1 he).1, ?_⟩
  rintro (hs | hb)
  ·exact (h.mp.c q hq h1 he).2 hs
  ·exact e (h.mp.i q k hq hk h1 hl he hO hb)
 ·obtain ⟨e, h1, h2⟩ := hne q hl'
  obtain ⟨e', h1', h2'⟩ := hne q' hl''
  rw [h2] at he; rw [h2'] at he'
  exact h.mp.i q q' hq hq' h1 h1' he he' heq
def ZkN (x : AV) : List Nat → (Nat → AV) → Nat → AV
 | [], s => s
 | j :: r, s => ZkN x r (upd s j x)
theorem Zgl (x : AV) : ∀ (js : List Nat) (s : Nat → AV) (i : Nat), ZkN x js s i = if i ∈ js then x else s i
 | [], s, i => by simp [ZkN]
 | j :: r, s, i => by
  rw [ZkN, Zgl x r]
  by_cases h1 : i ∈ r
  ·grind
  ·rw [if_neg h1]
   by_cases h2 : i = j
   ·subst h2; simp [upd]
   ·rw [if_neg (by simp [h1, h2])]; simp [upd, h2]
theorem R.freezeM {act : Act} (h : R l n B ⟨s, H⟩ act w) {k : Key} {q : Bool} {es : List (List D)} (hk : k.1 ≤ l + 1) (hl : (H k).live = true) (he : (H k).e = .m q es) (js : List Nat) (hjs : ∀ j ∈ js, s j = .mp k (H k).g) :
  R l n B ⟨ZkN (.d (.map q es)) js s, updH H k { H k with live := false }⟩ act w := by
 obtain ⟨m, S, hO, hn, hdf, hS, hex⟩ := h.un
 have hIs : (H k).e.isO = true := by rw [he]; rfl
 obtain ⟨k1, k2⟩ := hO.killO k hk hl hIs
 refine ⟨m, _, k1, hn, hdf, fun i => ?_, hex.trans (k2.mono (by omega))⟩
 show RepA w _ _ m (l + 1) (ZkN (.d (.map q es)) js s i) _
 rw [Zgl]
 by_cases hi : i ∈ js
 ·rw [if_pos hi]
  have hx := hS i
  rw [show s i = .mp k (H k).g from hjs i hi] at hx
  obtain ⟨_, e2⟩ := ZfU hx rfl hl
  rw [e2]
  have ho := hO.mp.o k hk hl
  rw [he] at ho
  obtain ⟨ents, clock, h1, h2⟩ := ho
  exact .d _ _ (.ofM (.inr rfl) h1 (h2.mono (fun _ h => .inl h) (fun _ _ => rfl)))
 ·rw [if_neg hi]; exact (hS i).ext k2 (Yd _)
theorem R.freezeB {act : Act} (h : R l n B ⟨s, H⟩ act w) {k : Key} {ds : List D} (hk : k.1 ≤ l + 1) (hl : (H k).live = true) (hc : (H k).cells = ds.map .d) (hne : ds ≠ []) (js : List Nat) (hjs : ∀ j ∈ js, s j = .ptr k (H k).g 0) :
  R l n B ⟨ZkN (.iptr ds 0) js s, updH H k { H k with live := false }⟩ act w := by
 obtain ⟨m, S, hO, hn, hdf, hS, hex⟩ := h.un
 obtain ⟨k1, k2⟩ := hO.kill k hk hl
 have hcap : (m k).cap ≠ 0 := fun e => by
  have := hO.empty k hk hl e
  rw [hc] at this
  exact hne (YaP.1 this)
 obtain ⟨C, b1, b2, b3, b4⟩ := hO.blk k hk hl hcap
 refine ⟨m, _, k1, hn, hdf, fun i => ?_, hex.trans (k2.mono (by omega))⟩
 show RepA w _ _ m (l + 1) (ZkN (.iptr ds 0) js s i) _
 rw [Zgl]
 by_cases hi : i ∈ js
 ·rw [if_pos hi]
  have hx := hS i
  rw [show s i = .ptr k (H k).g 0 from hjs i hi] at hx
  generalize act.tmps.getD i Go.undef = v at hx
  generalize hg : (H k).g = g at hx
  cases hx with
  | ptrD _ _ _ _ _ _ hd _ => rw [hd hg.symm] at hl; cases hl
  | ptrL _ _ _ _ =>
   have hlen : ds.length ≤ (m k).cap * (H k).sz := by rw [hc, Yu] at b3; exact b3
   have := RepA.iptr (w := w) (S := fun b => S b ∨ (b = (m k).b ∧ (m k).cap ≠ 0)) (H := updH H k { H k with live := false }) (m := m) (l := l + 1) ds 0 ⟨(m k).b, (m k).o, none⟩ (fun j => (C[(m k).o + j]?).getD Go.undef) (.inr ⟨rfl, hcap⟩)
    (fun j x hj => by
     have hlt : j < ds.length := (List.getElem?_eq_some_iff.1 hj).1
     rw [Addr.add_lit, Zc5 b1, Yf (by omega)]; rfl)
    (fun j x hj => by
     have hlt : j < ds.length := (List.getElem?_eq_some_iff.1 hj).1
     have hcj : C[(m k).o + j]? = some (C[(m k).o + j]'(by omega)) := Yf (by omega)
     obtain ⟨_, g2⟩ := b4 j (.d x) _ (by rw [hc, Yv, hj]; rfl) hcj
     rw [hcj]
     cases g2.ext k2 hk with | d _ _ hd => exact hd)
   exact this
 ·rw [if_neg hi]; exact (hS i).ext k2 (Yd _)
end
end Go.Eng
