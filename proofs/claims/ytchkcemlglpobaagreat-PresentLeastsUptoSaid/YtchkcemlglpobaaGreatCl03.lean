import Derived.Test.YtchkcemlglpobaaGreatCl02
import Derived.Laws.MakeOwn
import Derived.KernelRfl
import Derived.Test.YtchkcemlglpobaaGreatCl00
namespace Go.Eng
set_option linter.all false
open Go Go.RowKit
section
variable {P : Program} {l n : Nat} {B : Base} {H H' : Hp} {m m' : Mu} {S S' : Nat → Prop} {w w' : World} {s : Nat → AV} {a : Act} {K : St → Prop} {o : Oper}
theorem Ztq {news : List AV} {C : Array Value} (h : ZaE w S H m l news C) : ∀ u ∈ C.toList, u.oneCell' = true := by
 intro v hv
 obtain ⟨i, hi⟩ := YF.1 hv
 rw [Yi] at hi
 have hlt : i < news.length := by
  rw [h.1]
  grind
 exact (h.2 i _ v (Yb hlt) hi).1
theorem Zg8 {t e : TypeId} {sz : Nat} (hu : P.underlying t = some (.slice e)) (hsz : sz ≠ 0) {y : AV} {v : Value} {c : Nat} {news : List AV} (h : Zvp H sz y = some (c, news)) (hO : Ok (l + 1) H m S w) (hy : RepA w S H m (l + 1) y v) :
  ∃ C : Array Value, Src P sz t v c C.toList w ∧ ZaE w S H m (l + 1) news C ∧ news.length = c * sz := by
 unfold Zvp at h
 split at h
 ·simp only [Ye, Y7] at h
  obtain ⟨rfl, rfl⟩ := h
  cases hy with
  | e0 oa =>
   refine ⟨#[], ?_, ⟨rfl, fun i x v hi => by simp at hi⟩, by simp⟩
   cases oa with
   | none => exact Src.ofNil w hu 0
   | some ad => exact Src.ofSlice w hu ad 0 0 [] (by simp) (fun j u h => by simp at h) (fun u h => by cases h)
 ·rename_i es
  split at h
  ·rename_i hall
   simp only [Ye, Y7] at h
   obtain ⟨rfl, rfl⟩ := h
   have hal : ∀ e ∈ es, e.length = sz := fun e he => by simpa using Yh.1 hall e he
   have hfl : es.flatten.length = es.length * sz := by
    clear hall hy
    induction es with
    | nil => simp
    | cons e es ih =>
     rw [Yab, Yr, ih (fun e he => hal e (Yq _ he)), hal e (Yw ..), YZ, YB]
     omega
   cases hy with
   | d _ _ hd =>
    cases hd with
    | nil => exact ⟨#[], Src.ofNil w hu 0, ⟨rfl, fun i x v hi => by simp at hi⟩, by simp⟩
    | list es ad sz' cap cc hb hcap hsz' hcc hrr =>
     have hat : ∀ (q : Nat) (x : D), es.flatten[q]? = some x → ∃ e, es[q / sz]? = some e ∧ e[q % sz]? = some x := by
      clear hall hcc hrr hb hcap hsz' hfl
      induction es with
      | nil => intro q x h; simp at h
      | cons e es ih =>
       intro q x h
       have he : e.length = sz := hal e (Yw ..)
       rw [Yab] at h
       rcases Yo q sz with hq | hq
       ·rw [Yg (by omega)] at h
        exact ⟨e, by rw [Nat.div_eq_of_lt hq]; rfl, by rw [Nat.mod_eq_of_lt hq]; exact h⟩
       ·rw [Yk (by omega), he] at h
        obtain ⟨e', h1, h2⟩ := ih (fun e he => hal e (Yq _ he)) (q - sz) x h
        refine ⟨e', ?_, ?_⟩
        ·rw [Nat.div_eq_sub_div (by omega) hq]; simpa using h1
        ·rw [Nat.mod_eq_sub_mod hq]; exact h2
     have hcell : ∀ (q : Nat) (x : D), es.flatten[q]? = some x → w.cell? (ad.add q) = some (cc (q / sz) (q % sz)) ∧ RepD w S x (cc (q / sz) (q % sz)) := by
      intro q x h
      obtain ⟨e, h1, h2⟩ := hat q x h
      have e1 : sz' = sz := by rw [← hsz' e (Yj h1), hal e (Yj h1)]
      have := hcc _ _ _ _ h1 h2
      rw [e1, Nat.mul_comm (q / sz) sz, Nat.div_add_mod] at this
      exact ⟨this, hrr _ _ _ _ h1 h2⟩
     refine ⟨((List.range (es.length * sz)).map fun q => cc (q / sz) (q % sz)).toArray, ?_, ⟨by rw [Yu, hfl]; simp, fun i x v hi hv => ?_⟩, by rw [Yu, hfl]⟩
     ·refine Src.ofSlice w hu ad es.length cap _ (by simp) (fun j u hj => ?_) (fun u hu' => ?_)
      ·have hj : ((List.range (es.length * sz)).map fun q => cc (q / sz) (q % sz))[j]? = some u := by simpa using hj
       have hlt : j < es.length * sz := by
        rcases Yo j (es.length * sz) with h | h
        ·exact h
        ·rw [Yx (by simpa using h)] at hj; cases hj
       rw [Yb (by simpa using hlt)] at hj
       simp only [Ya3, YaT, Ye] at hj
       subst hj
       exact (hcell j _ (Yb (by omega))).1
      ·obtain ⟨j, hj⟩ := YF.1 hu'
       have hj : ((List.range (es.length * sz)).map fun q => cc (q / sz) (q % sz))[j]? = some u := by simpa using hj
       have hlt : j < es.length * sz := by
        rcases Yo j (es.length * sz) with h | h
        ·exact h
        ·rw [Yx (by simpa using h)] at hj; cases hj
       rw [Yb (by simpa using hlt)] at hj
       simp only [Ya3, YaT, Ye] at hj
       subst hj
       exact (hcell j _ (Yb (by omega))).2.one
     ·have hv : ((List.range (es.length * sz)).map fun q => cc (q / sz) (q % sz))[i]? = some v := by simpa using hv
      have hlt : i < es.length * sz := by
       rcases Yo i (es.length * sz) with h | h
       ·exact h
       ·rw [Yx (by simpa using h)] at hv; cases hv
      rw [Yb (by simpa using hlt)] at hv
      simp only [Ya3, YaT, Ye] at hv
      subst hv
      rw [Yv, Yb (by omega)] at hi
      simp only [YC, Ye] at hi
      subst hi
      have := hcell i _ (Yb (by omega))
      exact ⟨this.2.one, .d _ _ this.2⟩
  ·cases h
 ·rename_i k g off n'
  split at h
  ·rename_i hc
   obtain ⟨hg, hl, hs, hle⟩ := hc
   simp only [Ye, Y7] at h
   obtain ⟨rfl, rfl⟩ := h
   cases hy with
   | refD k g off n v hk hg' hd h1 => rw [hd hg] at hl; cases hl
   | refL k off n' oa hk hl' hn ha =>
    by_cases hz : n' = 0
    ·subst hz
     refine ⟨#[], ?_, ⟨by simp, fun i x v hi => by simp at hi⟩, by simp⟩
     cases oa with
     | none => exact Src.ofNil w hu _
     | some ad => exact Src.ofSlice w hu ad 0 _ [] (by simp) (fun j u h => by simp at h) (fun u h => by cases h)
    ·have hoa := ha (by omega)
     subst hoa
     have hpos : 0 < n' * sz := Ybe (by omega) (by omega)
     obtain ⟨hcap, C, h1, h2, h3, h4⟩ := hO.row hk hl (by
      intro e
      rw [e, YB] at hle
      simp at hle
      omega)
     rw [YB] at hle
     have hCr : ZaE w S H m (l + 1) (((H k).cells.drop (off * sz)).take (n' * sz)) (C.extract ((m k).o + off * sz) ((m k).o + off * sz + n' * sz)) := by
      refine ⟨by simp; omega, fun i x v hi hv => ?_⟩
      rw [Y1] at hv
      split at hv
      ·rename_i hlt
       rw [YM] at hi
       split at hi
       ·rw [YK] at hi
        obtain ⟨v', e1, e2, e3⟩ := h4 _ x hi
        rw [Yp, e1] at hv
        simp only [Ye] at hv
        subst hv
        exact ⟨e2, e3⟩
       ·cases hi
      ·cases hv
     refine ⟨_, ?_, hCr, by simp; omega⟩
     refine Src.ofSlice w hu _ n' _ _ (by simp; omega) (fun j u hj => ?_) (Ztq hCr)
     rw [Yi, Y1] at hj
     split at hj
     ·rw [Addr.add_lit, Zc5 h1, ← hj, hs]
     ·cases hj
  ·cases h
 ·cases h
theorem Zh3 (t tx ty e : TypeId) (i : TypeInfo) (ht : P.underlying t = some (.slice e)) (hi : P.info? e = some i) (b off sLen sCap : Nat) (x : Value) (c : Nat) (news : List Value) (hs : Src P i.size tx x c news w)
  (hroom : sLen + c ≤ sCap) (C : Array Value) (hb : w.heap[b]? = some (.cells C e (0, 0))) (hle : off + sLen * i.size + news.length ≤ C.size) :
  (Builtin.append_ #[t, tx] ty #[.slice (some ⟨b, off, none⟩) sLen sCap, x]).run P w =
   .ok (.slice (some ⟨b, off, none⟩) (sLen + c) sCap) (w.setRow b (C.toList.take (off + sLen * i.size) ++ news ++ C.toList.drop (off + sLen * i.size + news.length)).toArray) := by
 have hst := run_storeCells_at (P := P) b (off + sLen * i.size) e news 0 C w hb (by omega) hs.one
 simp only [Yae] at hst
 rcases hs.kind with ⟨e', hk⟩ | hk <;> simp [Builtin.append_, run_underlying ht, run_underlying hk, sizeOf, typeInfo, hi, hs.len, hroom, hs.cells, Addr.add_lit, hst]
theorem Ok.overEmpty (h : Ok l H m S w) (k : Key) (hk : k.1 ≤ l) (g : Nat) (e : TypeId) (sz : Nat) (hg : (H k).g < g) (M : MB) (hM : M.cap = 0) :
  Ok l (updH H k ⟨g, true, e, sz, []⟩) (ZcK m k M) S w ∧ Ext l H m S w (updH H k ⟨g, true, e, sz, []⟩) (ZcK m k M) S w := by
 have hext : Ext l H m S w (updH H k ⟨g, true, e, sz, []⟩) (ZcK m k M) S w := by
  refine ⟨fun _ h => h, fun _ _ => rfl, fun q hq => ?_, fun q hq hgq hl => ?_, rfl, rfl, rfl, Yd _⟩
  ·by_cases e : q = k
   ·subst e; rw [Zab]; simp only; omega
   ·rw [Zac _ _ e]; exact Yd _
  ·by_cases e : q = k
   ·subst e; rw [Zab] at hgq; simp only at hgq; omega
   ·rw [Zac _ _ e] at hl ⊢; rw [Zal _ _ e]; exact ⟨hl, rfl, rfl⟩
 have hne : ∀ q : Key, (ZcK m k M q).cap ≠ 0 → q ≠ k := by
  rintro q hq rfl
  rw [Zae] at hq
  grind
 refine ⟨⟨h.sub, fun q hq hl hz => ?_, fun q hq hl hz => ?_, fun q q' hq hq' hl hl' hz hz' heq => ?_, fun q hq hl hz => ?_, h.mp.upd (Yd _) k _ rfl (fun q e => Zal _ _ e) (fun _ h => h) (fun _ h => .inl h) (fun _ _ => rfl) (fun _ _ h _ => h)⟩, hext⟩
 ·by_cases e : q = k
  ·subst e; rw [Zab]
  ·rw [Zac _ _ e] at hl ⊢; rw [Zal _ _ e] at hz; exact h.empty q hq hl hz
 ·have e := hne q hz
  rw [Zac _ _ e] at hl; rw [Zal _ _ e] at hz ⊢; exact h.fresh q hq hl hz
 ·have e := hne q hz
  have e' := hne q' hz'
  rw [Zal _ _ e, Zal _ _ e'] at heq
  rw [Zac _ _ e] at hl
  rw [Zac _ _ e'] at hl'
  rw [Zal _ _ e] at hz
  rw [Zal _ _ e'] at hz'
  exact h.inj q q' hq hq' hl hl' hz hz' heq
 ·have e := hne q hz
  rw [Zac _ _ e] at hl ⊢
  rw [Zal _ _ e] at hz ⊢
  obtain ⟨C, hb, hs, hle, hx⟩ := h.blk q hq hl hz
  exact ⟨C, hb, hs, hle, fun i x v hi hv => ⟨(hx i x v hi hv).1, (hx i x v hi hv).2.ext hext hq⟩⟩
theorem Zn7 {z : List AV} {zv : Array Value} (hz : z ≠ []) (hr : ZaE w S H m l z zv) (n q : Nat) (hq : n ≤ q) :
  (madeCells zv (q * z.length)).size = q * z.length ∧ ∀ (i : Nat) (x : AV) (v : Value), (List.replicate n z).flatten[i]? = some x → (madeCells zv (q * z.length))[i]? = some v → v.oneCell' = true ∧ RepA w S H m l x v := by
 refine ⟨size_madeCells _ _, fun i x v hx hv => ?_⟩
 have hp : 0 < z.length := List.length_pos_iff.2 hz
 rw [Zh5 z n i hz] at hx
 split at hx
 ·rename_i hlt
  have hlt' : i < q * z.length := Nat.lt_of_lt_of_le hlt (YJ _ hq)
  have hm : i % z.length < zv.size := by rw [← hr.1]; exact Nat.mod_lt _ hp
  have : v = zv[i % z.length] := by
   unfold madeCells at hv
   simp only [Yaw, Array.getElem?_range, hlt', if_true, YC, Ye, ← hr.1] at hv
   grind
  subst this
  exact hr.2 _ x _ hx (Yf hm)
 grind
theorem Ztu {t e : TypeId} {sz d : Nat} {x y : Operand} {k1 k2 : IntKind} {c c' : Int} {z : List AV} (ho : o.op = .makeSlice t x y) (hd : o.dst = some d) (he : elm P t = some (e, sz)) (hx : ev s x = .d (.int k1 c)) (hy : ev s y = .d (.int k2 c'))
  (h1 : 0 ≤ c) (h2 : c ≤ c') (hsz : sz ≠ 0) (hbn : P.bytesOf e ≠ 0) (hb : (P.bytesOf e : Int) * c' ≤ 140737488355328) (hz : zer P e = some z) (hzl : z.length = sz)
  (hK : ZjH l n d e sz (List.replicate c.toNat z).flatten (fun g => .ref (l + 1, d) g 0 c.toNat) K ⟨s, H⟩) : AOp P l n B o K ⟨s, H⟩ := by
 obtain ⟨hu, hse⟩ := ZbZ he
 have hzne : z ≠ [] := by rintro rfl; simp at hzl; omega
 intro a w hR Q
 obtain ⟨m, S, hO, hn, hdf, hS, hex⟩ := hR.un
 obtain ⟨it, zv, hi, hz0, hr, _⟩ := Zc1 (w := w) (S := S) (H := H) (m := m) (l := l + 1) hz
 have hits : it.size = sz := by rw [← hse]; simp [Program.cellsOf, hi]
 have hby : P.bytesOf e = it.bytes := by simp [Program.bytesOf, hi]
 have hc' : c' ≤ 140737488355328 := by
  have : (1 : Int) * c' ≤ (P.bytesOf e : Int) * c' := YaM (by omega) (by omega)
  omega
 have hxv := Zbi hS x
 have hyv := Zbi hS y
 rw [hx] at hxv
 rw [hy] at hyv
 generalize hxe : a.eval x = xv at hxv
 generalize hye : a.eval y = yv at hyv
 cases hxv
 rename_i hd1
 cases hyv
 rename_i hd2
 cases hd1
 cases hd2
 have hrun := run_make (P := P) (w := w) t e it zv hu hi hz0 k1 k2 c c' h1 h2 (by rw [← hby]; omega) (by omega)
 have hrun' : (execOp a.eval o).run P w = .ok (.value (.slice (some ⟨w.heap.size, 0, none⟩) c.toNat c'.toNat)) (w.alloc (.cells (madeCells zv.cells (c'.toNat * it.size)) e)) := by
  simp only [execOp, ho, hxe, hye, Sem.run_bind, hrun, Result.andThen_ok, Sem.run_pure]
 refine Zau hrun' ?_
 rw [hd]
 have hle : c.toNat ≤ c'.toNat := by omega
 by_cases hc0 : c'.toNat = 0
 ·have hc1 : c.toNat = 0 := by omega
  obtain ⟨j1, j2⟩ := hO.junk (w' := w.alloc (.cells (madeCells zv.cells (c'.toNat * it.size)) e)) (fun i hi => by show (w.heap.push _)[i]? = _; rw [Yac, if_neg (by omega)]) (by simp) rfl rfl rfl
  obtain ⟨k1, k2⟩ := j1.overEmpty (l + 1, d) (Yd _) ((H (l + 1, d)).g + 1) e sz (YP _) ⟨0, 0, 0⟩ rfl
  rw [hc1] at hK
  have e0 : Value.slice (some ⟨w.heap.size, 0, none⟩) c.toNat c'.toNat = .slice (some ⟨w.heap.size, 0, none⟩) 0 0 := by rw [hc0, hc1]
  rw [e0]
  refine ⟨_, hK.2, R.step k1 hn hdf hS hex (j2.trans k2) hK.1 ?_⟩
  have := RepA.refL (w := w.alloc (.cells (madeCells zv.cells (c'.toNat * it.size)) e)) (S := S) (H := updH H (l + 1, d) ⟨(H (l + 1, d)).g + 1, true, e, sz, []⟩) (m := ZcK m (l + 1, d) ⟨0, 0, 0⟩) (l := l + 1) (l + 1, d) 0 0
   (some ⟨w.heap.size, 0, none⟩) (Yd _) (by rw [Zab]) (by rw [Zae]; simp) (fun h => by rw [Zae] at h; simp at h)
  rw [Zab, Zae] at this
  exact this
 ·obtain ⟨g1, g2⟩ := Zn7 hzne hr c.toNat c'.toNat hle
  rw [hzl] at g1 g2
  rw [← hits] at g1 g2
  obtain ⟨k1, k2⟩ := hO.alloc (l + 1, d) (Yd _) e sz c'.toNat (List.replicate c.toNat z).flatten (madeCells zv.cells (c'.toNat * it.size)) hc0 (by rw [g1, hits])
   (by rw [g1, hits]; simp [hzl]; exact YJ _ hle) (fun i x v hx hv => g2 i x v hx hv) (w.alloc (.cells (madeCells zv.cells (c'.toNat * it.size)) e)) rfl rfl rfl rfl
  refine ⟨_, hK.2, R.step k1 hn hdf hS hex k2 hK.1 ?_⟩
  have := RepA.refL (w := w.alloc (.cells (madeCells zv.cells (c'.toNat * it.size)) e)) (S := S) (H := updH H (l + 1, d) ⟨(H (l + 1, d)).g + 1, true, e, sz, (List.replicate c.toNat z).flatten⟩) (m := ZcK m (l + 1, d) ⟨w.heap.size, 0, c'.toNat⟩) (l := l + 1) (l + 1, d) 0 c.toNat
   (some ⟨w.heap.size, 0, none⟩) (Yd _) (by rw [Zab]) (by rw [Zae]; simp only [Yz]; exact hle) (fun _ => by rw [Zae]; simp)
  rw [Zab, Zae] at this
  grind
theorem Zqz {Z : Array Value} {Y : Array Value} {news : List AV} {ys : List AV} (hy : ZaE w S H m l ys Y) (hn : ZaE w S H m l news Z) (X : Array Value) :
  ∀ (i : Nat) (x : AV) (v : Value), (ys ++ news)[i]? = some x → ((Y.toList ++ Z.toList).toArray ++ X)[0 + i]? = some v → v.oneCell' = true ∧ RepA w S H m l x v := by
 intro i x v hx hv
 have e1 := hy.1
 have e2 := hn.1
 rw [Yz] at hv
 have hlt : i < (ys ++ news).length := by
  grind
 rw [Yr] at hlt
 rw [Yak (by simp; omega)] at hv
 have hv : (Y.toList ++ Z.toList)[i]? = some v := by simpa using hv
 rcases Yo i ys.length with h | h
 ·rw [Yg h] at hx
  rw [Yg (by simp; omega), Yi] at hv
  exact hy.2 i x v hx hv
 ·rw [Yk h] at hx
  rw [Yk (by simp; omega), Yi] at hv
  simp only [YQ] at hv
  rw [← e1] at hv
  exact hn.2 _ x v hx hv
theorem Zen (z : Array Value) (k : Nat) : (Builtin.zeroCells z k).size = k * z.size := by simp [Builtin.zeroCells]
theorem Zij {c b : Nat} (hb : b ≠ 0) (h : c * b ≤ 140737488355328) : c ≤ 140737488355328 := Y9 (Nat.le_mul_of_pos_right c (by omega)) h
theorem ZkB (w : World) (c o : Nat) (e : TypeId) : c ≤ grownCap w c o e := by unfold grownCap Question.cut; exact Nat.le_add_right _ _
theorem ZdZ (w : World) (o : Obj) : ∀ i, (w.alloc o).heap[i]? = if i = w.heap.size then some o else w.heap[i]? := fun i => by
 show (w.heap.push o)[i]? = _
 grind
theorem Zmk {t : TypeId} {x y : Operand} {d : Nat} {c : Call} (ho : o.op = .call c) (hc : c.callee = .builtin .append) (hargs : c.args = #[x, y]) (hts : c.argTypes = #[t, t]) (hd : o.dst = some d)
  (h : ZBf P l n d t (ev s x) (ev s y) K ⟨s, H⟩) : AOp P l n B o K ⟨s, H⟩ := by
 unfold ZBf at h
 split at h
 case h_2 => exact h.elim
 rename_i e sz he
 obtain ⟨hu, hse⟩ := ZbZ he
 obtain ⟨hsz, hbne, hzs, h⟩ := h
 obtain ⟨z, hz⟩ := YI.1 hzs
 split at h
 case h_2 => exact h.elim
 rename_i cnt news hsrc
 obtain ⟨hone, h⟩ := h
 intro a w hR Q
 obtain ⟨m, S, hO, hn, hdf, hS, hex⟩ := hR.un
 obtain ⟨C, hsc, hcr, hnl⟩ := Zg8 hu hsz hsrc hO (Zbi hS y)
 obtain ⟨it, zv, hi, hz0, hzr, hzlen⟩ := Zc1 (w := w) (S := S) (H := H) (m := m) (l := l + 1) hz
 have hits : it.size = sz := by rw [← hse]; simp [Program.cellsOf, hi]
 have hby : P.bytesOf e = it.bytes := by simp [Program.bytesOf, hi]
 have hCl : C.size = cnt * sz := by rw [← hcr.1, hnl]
 have hx := Zbi hS x
 have run : ∀ {v : Value} {w' : World}, (Builtin.append_ #[t, t] o.type #[a.eval x, a.eval y]).run P w = .ok v w' → (execOp a.eval o).run P w = .ok (.value v) w' := by
  intro v w' h
  unfold execOp
  simp [ho, resolve, hc, hargs, hts, invoke, builtin, h]
 split at h
 ·
  rename_i hxe
  obtain ⟨hb, h0, h1⟩ := h
  rw [hxe] at hx
  generalize hxv : a.eval x = xv at hx run
  cases hx with
  | e0 oa =>
   by_cases hc0 : cnt = 0
   ·obtain ⟨hdn, hK⟩ := h0 hc0
    subst hc0
    have hrun : (Builtin.append_ #[t, t] o.type #[.slice oa 0 0, a.eval y]).run P w = .ok (.slice oa 0 0) w := by
     have hC0 : C = #[] := Yaa (by simpa using hCl)
     have h2 := hsc.cells
     rw [hC0] at h2
     rcases hsc.kind with ⟨e', hk⟩ | hk <;> cases oa <;> simp [Builtin.append_, run_underlying hu, sizeOf, typeInfo, hi, hsc.len, hits, h2, storeCells]
    refine Zau (run hrun) ?_
    rw [hd]
    exact ⟨_, hK, R.step hO hn hdf hS hex (Ext.refl _ _ _ _ _) hdn (.e0 oa)⟩
   ·obtain ⟨hdn, hK⟩ := h1 hc0
    have hold : (Builtin.firstCells it.size 0 (.slice oa 0 0)).run P w.drew = .ok ([] : List Value).toArray w.drew := by
     cases oa with
     | none => exact run_firstCells_none _ _ _ _ _
     | some ad => exact run_firstCells_some _ _ _ _ _ _ [] (by simp) (fun j v h => by simp at h)
    have hg := run_append_grow_src (P := P) w t t o.type e it zv hu hi hz0 oa 0 0 [] hold (a.eval y) cnt C.toList (by rw [hits]; exact hsc) (by omega)
     (by have := Zij hbne hb; omega) (growslice_fits (by omega) (by rw [Yz, ← hby]; exact hb))
    rw [Yz] at hg
    have hG : cnt ≤ grownCap w cnt 0 e := ZkB _ _ _ _
    obtain ⟨k1, k2⟩ := hO.over (l + 1, d) (Yd _) ⟨(H (l + 1, d)).g + 1, true, e, sz, news⟩ ⟨w.heap.size, 0, grownCap w cnt 0 e⟩ (YP _) rfl (by simp only; omega)
     ((([] : List Value) ++ C.toList).toArray ++ Builtin.zeroCells zv.cells (grownCap w cnt 0 e - cnt))
     (w.drew.alloc (.cells ((([] : List Value) ++ C.toList).toArray ++ Builtin.zeroCells zv.cells (grownCap w cnt 0 e - cnt)) e)) (ZdZ _ _) (.inl rfl)
     (by simp [Zen, hCl, ← hzr.1, hzlen, hits, Nat.sub_mul]; rw [← Nat.add_sub_assoc (YJ _ hG)]; omega)
     (by simp only [hnl]; exact YJ _ hG)
     (by simpa using Zqz (ys := []) (Y := #[]) ⟨rfl, fun i x v h => by simp at h⟩ hcr _)
     (by simp) rfl rfl rfl
    refine Zau (run hg) ?_
    rw [hd]
    refine ⟨_, hK, R.step k1 hn hdf hS hex k2 hdn ?_⟩
    have := RepA.refL (w := w.drew.alloc (.cells ((([] : List Value) ++ C.toList).toArray ++ Builtin.zeroCells zv.cells (grownCap w cnt 0 e - cnt)) e)) (S := S)
     (H := updH H (l + 1, d) ⟨(H (l + 1, d)).g + 1, true, e, sz, news⟩) (m := ZcK m (l + 1, d) ⟨w.heap.size, 0, grownCap w cnt 0 e⟩) (l := l + 1) (l + 1, d) 0 cnt
     (some ⟨w.heap.size, 0, none⟩) (Yd _) (by rw [Zab]) (by rw [Zae]; simp only; omega) (fun _ => by rw [Zae]; simp)
    rw [Zab, Zae] at this
    exact this
 ·
  rename_i k g off c' hxe
  obtain ⟨hg, hl, hs, hee, hend, hb, hlow, hdn, hK⟩ := h
  rw [hxe] at hx
  generalize hxv : a.eval x = xv at hx run
  cases hx with
  | refD k g off n v hk hg' hd' h1 => rw [hd' hg] at hl; cases hl
  | refL k off c' oa hk hl' hn' ha =>
   have hlowR : ∀ {y : AV} {v : Value}, y ∈ news → RepA w S H m (l + 1) y v → RepA w S H m k.1 y v := by
    intro y v hy hr
    rcases hlow with e | e
    ·rw [e]; exact hr
    ·exact hr.low (Yh.1 e y hy)
   have hcr' : ZaE w S H m k.1 news C := ⟨hcr.1, fun i y v hy hv => ⟨(hcr.2 i y v hy hv).1, hlowR (Yj hy) (hcr.2 i y v hy hv).2⟩⟩
   have hds : ((H k).cells.drop (off * sz)).length = c' * sz := by rw [Yad, ← hend, YB]; omega
   have ref : ∀ (W : World) (cs : List AV) (M : MB) (oa : Option Addr), c' + cnt ≤ M.cap → (0 < M.cap → oa = some ⟨M.b, M.o, none⟩) →
     RepA W S (updH H k ⟨(H k).g + 1, true, e, sz, cs⟩) (ZcK m k M) (l + 1) (.ref k ((H k).g + 1) 0 (c' + cnt)) (.slice oa (c' + cnt) M.cap) := by
    intro W cs M oa h1 h2
    have := RepA.refL (w := W) (S := S) (H := updH H k ⟨(H k).g + 1, true, e, sz, cs⟩) (m := ZcK m k M) (l := l + 1) k 0 (c' + cnt) oa hk (by rw [Zab]) (by rw [Zae]; omega)
     (fun h => by rw [Zae] at h ⊢; rw [h2 h]; simp)
    rw [Zab, Zae] at this
    exact this
   by_cases hroom : c' + cnt ≤ (m k).cap - off
   ·by_cases hz0' : (m k).cap - off = 0
    ·
     have h1 : c' = 0 := by omega
     have h2 : cnt = 0 := by omega
     subst h1; subst h2
     have hC0 : C = #[] := Yaa (by simpa using hCl)
     have hn0 : news = [] := YO (by simpa using hnl)
     have hd0 : (H k).cells.drop (off * sz) = [] := YO (by simpa using hds)
     have hrun : (Builtin.append_ #[t, t] o.type #[.slice oa 0 ((m k).cap - off), a.eval y]).run P w = .ok (.slice oa 0 0) w := by
      have h2 := hsc.cells
      rw [hC0] at h2
      rw [hz0']
      rcases hsc.kind with ⟨e', hk⟩ | hk <;> cases oa <;> simp [Builtin.append_, run_underlying hu, sizeOf, typeInfo, hi, hsc.len, hits, h2, storeCells]
     obtain ⟨k1, k2⟩ := hO.overEmpty k hk ((H k).g + 1) e sz (YP _) ⟨0, 0, 0⟩ rfl
     refine Zau (run hrun) ?_
     rw [hd]
     refine ⟨_, hK, ?_⟩
     simp only [hd0, hn0, Yar]
     exact R.step k1 hn hdf hS hex k2 hdn (ref w [] ⟨0, 0, 0⟩ oa (Yd _) (fun h => absurd h (by simp)))
    ·have hoa := ha (by omega)
     subst hoa
     have hcap : (m k).cap ≠ 0 := by omega
     obtain ⟨C0, b1, b2, b3, b4⟩ := hO.blk k hk hl hcap
     rw [hs] at b2 b3
     have hcm : (m k).cap * sz = off * sz + ((m k).cap - off) * sz := by rw [← YB]; congr 1; omega
     have hrm : (c' + cnt) * sz ≤ ((m k).cap - off) * sz := YJ _ hroom
     rw [YB] at hrm
     rw [hee] at b1
     have hin := Zh3 (P := P) (w := w) t t o.type e it hu hi (m k).b ((m k).o + off * (H k).sz) c' ((m k).cap - off) (a.eval y) cnt C.toList (by rw [hits]; exact hsc) hroom C0 b1
      (by rw [hits, hs, YQ, hCl]; omega)
     rw [hits, hs, YQ, hCl] at hin
     rw [hs] at run
     have hC0l : C0.toList.length = C0.size := by simp
     have hT : (C0.toList.take ((m k).o + off * sz + c' * sz)).length = (m k).o + off * sz + c' * sz := by rw [YU, hC0l]; omega
     obtain ⟨k1, k2⟩ := hO.over k hk ⟨(H k).g + 1, true, e, sz, (H k).cells.drop (off * sz) ++ news⟩ ⟨(m k).b, (m k).o + off * sz, (m k).cap - off⟩ (YP _) rfl (by simp only; omega)
      (C0.toList.take ((m k).o + off * sz + c' * sz) ++ C.toList ++ C0.toList.drop ((m k).o + off * sz + c' * sz + cnt * sz)).toArray
      (w.setRow (m k).b (C0.toList.take ((m k).o + off * sz + c' * sz) ++ C.toList ++ C0.toList.drop ((m k).o + off * sz + c' * sz + cnt * sz)).toArray)
      (fun b => by
       by_cases e : b = (m k).b
       ·subst e; rw [if_pos rfl]; exact setRow_heap w _ C0 _ _ _ b1
       ·rw [if_neg e]; exact setRow_other w _ _ _ e)
      (.inr ⟨rfl, hl, hcap⟩)
      (by simp only [List.size_toArray, Yr, hT, YQ, hCl, Yad]; omega)
      (by simp only [Yr, hds, hnl]; exact hrm)
      (fun i x v hx hv => by
       have hv : (C0.toList.take ((m k).o + off * sz + c' * sz) ++ C.toList ++ C0.toList.drop ((m k).o + off * sz + c' * sz + cnt * sz))[(m k).o + off * sz + i]? = some v := by simpa using hv
       have hlt : i < ((H k).cells.drop (off * sz) ++ news).length := by
        rcases Yo i ((H k).cells.drop (off * sz) ++ news).length with h | h
        ·exact h
        ·rw [Yx h] at hx; cases hx
       rw [Yr, hds, hnl] at hlt
       rw [Yg (by rw [Yr, hT, YQ, hCl]; omega)] at hv
       rcases Yo i (c' * sz) with h | h
       ·rw [Yg (by rw [hds]; exact h), YK] at hx
        rw [Yg (by rw [hT]; omega), YM, if_pos (by omega), Yi, Yp] at hv
        exact b4 _ x v hx hv
       ·rw [Yk (by rw [hds]; exact h), hds] at hx
        rw [Yk (by rw [hT]; omega), hT, Yi] at hv
        rw [show (m k).o + off * sz + i - ((m k).o + off * sz + c' * sz) = i - c' * sz from by omega] at hv
        exact hcr'.2 _ x v hx hv)
      (by simp) rfl rfl rfl
     refine Zau (run hin) ?_
     rw [hd]
     exact ⟨_, hK, R.step k1 hn hdf hS hex k2 hdn (ref _ _ ⟨(m k).b, (m k).o + off * sz, (m k).cap - off⟩ _ hroom (fun _ => rfl))⟩
   ·
    have hY : ∃ Y : Array Value, (Builtin.firstCells it.size c' (.slice oa c' ((m k).cap - off))).run P w.drew = .ok Y.toList.toArray w.drew ∧ ZaE w S H m k.1 ((H k).cells.drop (off * sz)) Y := by
     by_cases hc0 : c' = 0
     ·subst hc0
      have hd0 : (H k).cells.drop (off * sz) = [] := YO (by simpa using hds)
      rw [hd0]
      refine ⟨#[], ?_, rfl, fun i x v h => by simp at h⟩
      cases oa with
      | none => exact run_firstCells_none _ _ _ _ _
      | some ad => exact run_firstCells_some _ _ _ _ _ _ [] (by simp) (fun j v h => by simp at h)
     ·have hoa := ha (by omega)
      subst hoa
      have hcap : (m k).cap ≠ 0 := by omega
      obtain ⟨C0, b1, b2, b3, b4⟩ := hO.blk k hk hl hcap
      rw [hs] at b2 b3
      have hcm : (m k).cap * sz = off * sz + ((m k).cap - off) * sz := by rw [← YB]; congr 1; omega
      have hrm : c' * sz ≤ ((m k).cap - off) * sz := YJ _ (by omega)
      refine ⟨C0.extract ((m k).o + off * sz) ((m k).o + off * sz + c' * sz), ?_, by rw [hds]; simp; omega, fun i x v hx hv => ?_⟩
      ·refine run_firstCells_some _ _ _ _ _ _ _ (by rw [hits]; simp; omega) (fun j v hj => ?_)
       rw [Yi, Y1] at hj
       split at hj
       ·rw [Addr.add_lit, hs, ← hj]
        exact Zc5 (w := w.drew) b1 _
       ·cases hj
      ·rw [Y1] at hv
       split at hv
       ·rw [YK] at hx
        rw [Yp] at hv
        exact b4 _ x v hx hv
       ·cases hv
    obtain ⟨Y, hold, hYr⟩ := hY
    have hg' := run_append_grow_src (P := P) w t t o.type e it zv hu hi hz0 oa c' ((m k).cap - off) Y.toList hold (a.eval y) cnt C.toList (by rw [hits]; exact hsc) (by omega)
     (by have := Zij hbne hb; omega) (growslice_fits (by omega) (by rw [← hby]; exact hb))
    have hG : c' + cnt ≤ grownCap w (c' + cnt) ((m k).cap - off) e := ZkB _ _ _ _
    have hGm := YJ sz hG
    rw [YB] at hGm
    have hYl : Y.size = c' * sz := by rw [← hYr.1, hds]
    obtain ⟨k1, k2⟩ := hO.over k hk ⟨(H k).g + 1, true, e, sz, (H k).cells.drop (off * sz) ++ news⟩ ⟨w.heap.size, 0, grownCap w (c' + cnt) ((m k).cap - off) e⟩ (YP _) rfl (by simp only; omega)
     ((Y.toList ++ C.toList).toArray ++ Builtin.zeroCells zv.cells (grownCap w (c' + cnt) ((m k).cap - off) e - (c' + cnt)))
     (w.drew.alloc (.cells ((Y.toList ++ C.toList).toArray ++ Builtin.zeroCells zv.cells (grownCap w (c' + cnt) ((m k).cap - off) e - (c' + cnt))) e)) (ZdZ _ _) (.inl rfl)
     (by simp [Zen, hCl, hYl, ← hzr.1, hzlen, hits, Nat.sub_mul, YB]; omega)
     (by simp only [Yr, hds, hnl]; exact hGm)
     (Zqz hYr hcr' _)
     (by simp) rfl rfl rfl
    refine Zau (run hg') ?_
    rw [hd]
    exact ⟨_, hK, R.step k1 hn hdf hS hex k2 hdn (ref _ _ ⟨w.heap.size, 0, grownCap w (c' + cnt) ((m k).cap - off) e⟩ _ hG (fun _ => rfl))⟩
 ·exact h.elim
end
end Go.Eng
namespace Go.Eng
set_option linter.all false
open Go Go.RowKit
def grd (s : Nat → AV) (ds : List (Option Nat)) (i : Nat) (b : Bool) : Option Bool :=
 match ds[i]? with
 | some (some d) => match s d with | .d (.bool t) => some (t == b) | .tup [] => some false | _ => none
 | _ => none
def AWp (P : Program) (l n : Nat) (B : Base) (c : Code) (Q : Exit → St → Prop) (σ : St) : Prop :=
 ∀ a w, R l n B σ a w → c.wp P (fun e a' w' => ∃ σ', Q e σ' ∧ R l n B σ' a' w') a w
def ZDG (K : St → Prop) (Q : Exit → St → Prop) : Exit → St → Prop
 | .normal, σ => K σ
 | e, σ => Q e σ
def ZkE (id : Nat) (Q : Exit → St → Prop) : Exit → St → Prop
 | .exit i, σ => if i = id then Q .normal σ else Q (.exit i) σ
 | e, σ => Q e σ
section
variable {P : Program} {l n : Nat} {B : Base} {H H' : Hp} {m m' : Mu} {S S' : Nat → Prop} {w w' : World} {s : Nat → AV} {a : Act} {K : St → Prop} {o : Oper} {σ : St} {Q : Exit → St → Prop}
theorem Zkf {xs ys : List AV} {vs us : Array Value} (h : Ze0 w S H m l xs vs) (k : Ze0 w S H m l ys us) : Ze0 w S H m l (xs ++ ys) (vs ++ us) := by
 refine ⟨by simp [h.1, k.1], fun i x v hx hv => ?_⟩
 rcases Yo i xs.length with hlt | hge
 ·rw [Yg hlt] at hx
  rw [Yak (by rw [← h.1]; exact hlt)] at hv
  exact h.2 i x v hx hv
 ·rw [Yk hge] at hx
  rw [Array.getElem?_append_right (by rw [← h.1]; exact hge), ← h.1] at hv
  exact k.2 _ x v hx hv
theorem ZkD {c : Call} {f : Operand} {g : FuncId} {first caps : List AV} (ho : o.op = .call c) (hc : c.callee = .value f) (hf : ev s f = .fn (.func g) first caps)
  (h : ZbY P g (l + 1) (first ++ c.args.toList.map (ev s) ++ caps) H (ZCA n o.dst K ⟨s, H⟩)) : AOp P l n B o K ⟨s, H⟩ := by
 intro a w hR Q
 obtain ⟨m, S, hO, hn, hdf, hS, hex⟩ := hR.un
 obtain ⟨⟨fn, cd, h1, h2, h3⟩, h⟩ := h
 have hfr := Zbi hS f
 rw [hf] at hfr
 generalize hv : a.eval f = fv at hfr
 cases hfr with
 | fn _ _ _ vs us hx hy g1 g2 =>
  have hargs : Ze0 w S H m (l + 1) (first ++ c.args.toList.map (ev s) ++ caps) (vs ++ c.args.map a.eval ++ us) :=
   Zkf (Zkf ⟨hx, g1⟩ (ZfX hS c.args)) ⟨hy, g2⟩
  have hrun : (execOp a.eval o).run P w = .ok (.enter g (vs ++ c.args.map a.eval ++ us)) w := by
   unfold execOp
   simp only [ho, resolve, hc, hv, Deferred.ofValue, Sem.run_bind, Sem.run_pure, Result.andThen_ok, invoke]
   exact Go.MuLone.run_callFunc_enter h1 h3 h2 _ w
  unfold Oper.wp
  rw [hrun]
  refine (h m S w _ hO hargs).mono fun e w' ⟨r, v, H', m', S', he, hp, hO', hr, hx'⟩ => ?_
  subst he
  unfold ZCA ZfI at hp
  cases hd : o.dst with
  | none =>
   rw [hd] at hp
   exact ⟨_, hp, R.keep hO' hn hdf hS hex hx'⟩
  | some d =>
   rw [hd] at hp
   exact ⟨_, hp.2, R.step hO' hn hdf hS hex hx' hp.1 hr⟩
theorem Zdp (h : rOp P l n o K σ) : AOp P l n B o K σ := by
 obtain ⟨s, H⟩ := σ
 unfold rOp at h
 split at h
 ·rename_i t ho
  split at h
  ·rename_i d z hd hz; exact Zrk ho hd hz h.1 h.2
  grind
 ·rename_i t x ho
  split at h
  ·rename_i d z hd hz; exact Zyt ho hd hz h.1 h.2
  grind
 ·rename_i t p x ho
  split at h
  ·rename_i k g off vs hd hp hx
   obtain ⟨h1, h2, h3, h4, h5, h6, h7⟩ := h
   exact ZpT ho hd hp hx h1 h2 h3 h4 h5 h6 h7
  grind
 ·rename_i t len parts ho
  split at h
  ·rename_i d e sz hd he
   obtain ⟨hsz, h⟩ := h
   split at h
   ·exact ZgB ho hd he hsz h.1 h.2.1 h.2.2
   ·rename_i len
    obtain ⟨hlim, h⟩ := h
    split at h
    ·rename_i z hz
     obtain ⟨hzl, h⟩ := h
     split at h
     ·rename_i es hf; exact Zfa ho hd he hsz hlim hz hzl hf h.1 h.2.1 h.2.2
     ·split at h
      ·rename_i cs hf; exact Zem ho hd he hsz hlim hz hzl hf h
      grind
    grind
  grind
 ·rename_i t x y ho
  split at h
  ·rename_i d e sz k1 c k2 c' hd he hx hy
   obtain ⟨h1, h2, h3, h4, h5, h⟩ := h
   split at h
   ·rename_i z hz; exact Ztu ho hd he hx hy h1 h2 h3 h4 h5 hz h.1 h.2
   grind
  grind
 ·rename_i c ho
  split at h
  ·rename_i f hc
   split at h
   ·rename_i g first caps hf; exact ZkD ho hc hf h
   grind
  ·rename_i hc
   split at h
   ·rename_i d x y t t' hd hargs hts
    obtain ⟨h1, h⟩ := h
    have e1 : c.args = #[x, y] := YS (by simpa using hargs)
    have e2 : t' = t := by
     have : c.argTypes = #[t, t'] := YS (by simpa using hts)
     grind
    have e3 : c.argTypes = #[t, t] := YS (by rw [hts, e2])
    exact Zmk ho hc e1 e3 hd h
   grind
  ·rename_i h1 h2; exact ZhY h
 ·exact ZhY h
theorem ZiD {ops : Array Oper} (hS : Zdf l s H m S a w) {i : Nat} {b t : Bool} (h : grd s (ops.toList.map (·.dst)) i b = some t) : (yielded ops a.tmps i == some b) = t := by
 unfold grd at h
 split at h
 ·rename_i d hd
  have hr := hS d
  rw [Yv, Yi] at hd
  cases ho : ops[i]? with
  | none => rw [ho] at hd; cases hd
  | some o =>
   rw [ho] at hd
   simp only [YC, Ye] at hd
   split at h
   ·rename_i t' ht
    simp only [Ye] at h
    subst h
    rw [ht] at hr
    have hlt : d < a.tmps.size := by
     rcases Yo d a.tmps.size with hlt | hge
     ·exact hlt
     ·exfalso
      rw [Ym, YL hge] at hr
      simp only [Option.getD_none] at hr
      generalize hu : undef = u at hr
      cases hr with
      | d _ _ hd => cases hd; cases hu
    unfold yielded
    rw [ho]
    simp only [Yn, hd, Yf hlt]
    rw [Ym, Yf hlt] at hr
    simp only [YV] at hr
    generalize a.tmps[d] = v at hr
    cases hr with
    | d _ _ hd => cases hd; cases t' <;> cases b <;> rfl
   ·rename_i ht
    simp only [Ye] at h
    subst h
    rw [ht] at hr
    unfold yielded
    rw [ho]
    simp only [Yn, hd]
    rcases Yo d a.tmps.size with hlt | hge
    ·simp only [Yf hlt]
     rw [Ym, Yf hlt] at hr
     simp only [YV] at hr
     generalize a.tmps[d] = v at hr
     cases hr with
     | tup _ _ _ _ => rfl
    grind
   ·cases h
 ·cases h
theorem ZdF {ops : Array Oper} {rest : List Oper} {KK : St → Prop} {QQ : Exit → Act → World → Prop} (hw : Region.wanted o (yielded ops a.tmps) = true) (h : AOp P l n B o KK σ) (hR : R l n B σ a w)
  (hK : ∀ σ' a' w', KK σ' → R l n B σ' a' w' → wpList P ops QQ rest a' w') : wpList P ops QQ (o :: rest) a w := by
 unfold wpList
 rw [if_pos hw]
 refine .inl ?_
 have := h a w hR QQ
 unfold Oper.wp at this ⊢
 revert this
 generalize (execOp a.eval o).run P w = r
 have mono : ∀ (r : Result Next), o.upon P a (fun a' w' => ∃ σ', KK σ' ∧ R l n B σ' a' w') QQ r → o.upon P a (wpList P ops QQ rest) QQ r := by
  intro r h
  cases r with
  | ok x w1 =>
   cases x <;> first
    | exact h
    | (simp only [Oper.upon] at h ⊢; obtain ⟨σ', h1, h2⟩ := h; exact hK σ' _ _ h1 h2)
    | skip
   ·rename_i f args
    simp only [Oper.upon] at h ⊢
    refine Calls.mono h fun e w2 he => ?_
    cases e with
    | returned v => obtain ⟨σ', h1, h2⟩ := he; exact hK σ' _ _ h1 h2
    | panicked c => exact he
    | outgrown => exact he
   ·rename_i row args
    simp only [Oper.upon] at h ⊢
    exact Rows.mono h fun v w2 ⟨σ', h1, h2⟩ => hK σ' _ _ h1 h2
  | halt x w1 => cases x <;> exact h
 exact mono r
theorem R.undef {d : Nat} (hR : R l n B σ a w) (hd : d < n) : R l n B ⟨upd σ.s d (.tup []), σ.H⟩ (a.put (some d) undef) w := by
 obtain ⟨s, H⟩ := σ
 obtain ⟨m, S, hO, hn, hdf, hS, hex⟩ := hR.un
 exact R.step hO hn hdf hS hex (Ext.refl _ _ _ _ _) hd (.tup [] #[] rfl (fun i x v h => by simp at h))
theorem ZcD {c : Code} {Q' : Exit → St → Prop} (h : AWp P l n B c Q σ) (hq : ∀ e σ, Q e σ → Q' e σ) : AWp P l n B c Q' σ :=
 fun a w hR => wp_mono (h a w hR) fun _ _ _ ⟨σ', h1, h2⟩ => ⟨σ', hq _ _ h1, h2⟩
theorem ZtD (h : Q .normal σ) : AWp P l n B .skip Q σ := fun _ _ hR => wp_skip ⟨σ, h, hR⟩
theorem Zyl (h : Q .ret σ) : AWp P l n B .ret Q σ := fun _ _ hR => wp_ret ⟨σ, h, hR⟩
theorem Zr2 {id : Nat} (h : Q (.exit id) σ) : AWp P l n B (.exit id) Q σ := fun _ _ hR => wp_exit ⟨σ, h, hR⟩
theorem Zz1 {x y : Code} (h : ∀ K : St → Prop, (∀ σ', AWp P l n B y Q σ' → K σ') → AWp P l n B x (ZDG K Q) σ) : AWp P l n B (.seq x y) Q σ := by
 intro a w hR
 refine wp_seq (wp_mono (h _ (fun _ h => h) a w hR) fun e a' w' ⟨σ', h1, h2⟩ => ?_)
 cases e with
 | normal => exact h1 a' w' h2
 | exit id => exact ⟨σ', h1, h2⟩
 | goto id => exact ⟨σ', h1, h2⟩
 | ret => exact ⟨σ', h1, h2⟩
 | panic c => exact ⟨σ', h1, h2⟩
 | outgrown => exact ⟨σ', h1, h2⟩
theorem ZAG (hR : R l n B σ a w) {c : Operand} {t : Bool} (h : ev σ.s c = .d (.bool t)) : a.eval c = .bool t := by
 obtain ⟨s, H⟩ := σ
 obtain ⟨m, S, hO, hn, hdf, hS, hex⟩ := hR.un
 have := Zbi hS c
 rw [show ev s c = .d (.bool t) from h] at this
 generalize a.eval c = v at this
 cases this with
 | d _ _ hd => cases hd; rfl
theorem ZeF {c : Operand} {x y : Code} {t : Bool} (hc : ev σ.s c = .d (.bool t)) (h1 : t = true → AWp P l n B x Q σ) (h2 : t = false → AWp P l n B y Q σ) : AWp P l n B (.cond c x y) Q σ :=
 fun a w hR => wp_cond_split (ZAG hR hc) (fun e => h1 e a w hR) (fun e => h2 e a w hR)
theorem Zit {id : Nat} {c : Code} (h : AWp P l n B c (ZkE id Q) σ) : AWp P l n B (.block id c) Q σ := by
 intro a w hR
 refine wp_block (wp_mono (h a w hR) fun e a' w' ⟨σ', h1, h2⟩ => ?_)
 cases e with
 | exit i =>
  unfold ZkE at h1
  unfold Exit.inBlock
  grind
 | normal => exact ⟨σ', h1, h2⟩
 | goto id => exact ⟨σ', h1, h2⟩
 | ret => exact ⟨σ', h1, h2⟩
 | panic c => exact ⟨σ', h1, h2⟩
 | outgrown => exact ⟨σ', h1, h2⟩
end
def args (xs : List AV) : Nat → AV := fun i => (xs[i]?).getD .top
def clr (l : Nat) (H : Hp) : Hp := fun k => if k.1 ≤ l then H k else ⟨0, false, 0, 0, []⟩
def mrg (l : Nat) (H' H : Hp) : Hp := fun k => if k.1 ≤ l then H' k else H k
def Zlk (P : Program) (σ : St) : List ResultVar → (List AV → Prop) → Prop
 | [], K => K []
 | .tmp t :: rest, K => Zlk P σ rest (fun xs => K (σ.s t :: xs))
 | .cell a t :: rest, K => ZeC P σ.H t (σ.s a) (fun x => Zlk P σ rest (fun xs => K (x :: xs)))
def ZiI : List AV → AV
 | [x] => x
 | xs => .tup xs
inductive Fz (H : Hp) (l : Nat) : AV → AV → Prop
 | keep (x : AV) (h : x.low l = true) : Fz H l x x
 | e0 : Fz H l .e0 (.d (.list []))
 | mp (k : Key) (a : Bool) (es : List (List D)) (hk : k.1 = l + 1) (hl : (H k).live = true) (he : (H k).e = .m a es) : Fz H l (.mp k (H k).g) (.d (.map a es))
 | ref (k : Key) (off n : Nat) (es : List (List D)) (hk : k.1 = l + 1) (hl : (H k).live = true) (hn : es.length = n) (hz : (H k).sz ≠ 0) (he : ∀ e, e ∈ es → e.length = (H k).sz)
   (hlen : (off + n) * (H k).sz ≤ (H k).cells.length)
   (h : ∀ (i j : Nat) (e : List D) (d : D) (x : AV), es[i]? = some e → e[j]? = some d → (H k).cells[(off + i) * (H k).sz + j]? = some x → Fz H l x (.d d)) :
   Fz H l (.ref k (H k).g off n) (.d (.list es))
 | agg (xs ys : List AV) (hl : xs.length = ys.length) (h : ∀ (i : Nat) (x y : AV), xs[i]? = some x → ys[i]? = some y → Fz H l x y) : Fz H l (.agg xs) (.agg ys)
 | tup (xs ys : List AV) (hl : xs.length = ys.length) (h : ∀ (i : Nat) (x y : AV), xs[i]? = some x → ys[i]? = some y → Fz H l x y) : Fz H l (.tup xs) (.tup ys)
def ZKY (P : Program) (fn : Func) (l : Nat) (H : Hp) (Post : AV → Hp → Prop) : Exit → St → Prop := fun e σ =>
 (e = .normal ∨ e = .ret) ∧ Zlk P σ fn.results.toList (fun xs => ∃ y, Fz σ.H l (ZiI xs) y ∧ Post y (mrg l σ.H H))
section
variable {P : Program} {l n : Nat} {B : Base} {H H' : Hp} {m m' : Mu} {S S' : Nat → Prop} {w w' : World} {s : Nat → AV} {a : Act} {K : St → Prop} {o : Oper} {σ : St} {Q : Exit → St → Prop}
theorem Zmb {t : TypeId} {v v' : Value} (h : (Instr.loadAt t v).run P w = .ok v' w) : (do loadVar t (← asAddr v) : Sem Value).run P w = .ok v' w := by
 cases v <;> try (simp [Instr.loadAt, Instr.sureAddr] at h; done)
 rename_i p
 cases p with
 | none => simp [Instr.loadAt, Instr.sureAddr] at h
 | some a => simpa [Instr.loadAt, Instr.sureAddr, asAddr] using h
def ZEK (tmps : Array Value) : ResultVar → Sem Value
 | .tmp t => pure (tmps.getD t undef)
 | .cell p t => do loadVar t (← asAddr (tmps.getD p undef))
theorem ZeS (hO : Ok (l + 1) H m S w) (hS : Zdf (l + 1) s H m S a w) : ∀ (rs : List ResultVar) (K : List AV → Prop), Zlk P ⟨s, H⟩ rs K →
  ∃ (vs : List Value) (xs : List AV), (rs.mapM (ZEK a.tmps)).run P w = .ok vs w ∧ xs.length = vs.length ∧
   (∀ (i : Nat) (x : AV) (v : Value), xs[i]? = some x → vs[i]? = some v → RepA w S H m (l + 1) x v) ∧ K xs
 | [], K, h => ⟨[], [], by simp, rfl, fun i x v h => by simp at h, h⟩
 | .tmp t :: rest, K, h => by
  obtain ⟨vs, xs, h1, h2, h3, h4⟩ := ZeS hO hS rest _ h
  refine ⟨a.tmps.getD t undef :: vs, s t :: xs, by simp only [YaQ, ZEK, Sem.run_bind, Sem.run_pure, Result.andThen_ok, h1], by simp [h2], fun i x v hx hv => ?_, h4⟩
  cases i with
  | zero => simp at hx hv; subst hx; subst hv; simpa using hS t
  | succ i => exact h3 i x v (by simpa using hx) (by simpa using hv)
 | .cell p t :: rest, K, h => by
  obtain ⟨v0, x0, g1, g2, g3⟩ := Zf9 h (hS p) hO
  obtain ⟨vs, xs, h1, h2, h3, h4⟩ := ZeS hO hS rest _ g3
  refine ⟨v0 :: vs, x0 :: xs, ?_, by simp [h2], fun i x v hx hv => ?_, h4⟩
  ·have := Zmb g1
   have e : (ZEK a.tmps (.cell p t)).run P w = .ok v0 w := this
   simp only [YaQ, Sem.run_bind, e, Sem.run_pure, Result.andThen_ok, h1]
  grind
def Zmo (l : Nat) (H : Hp) (m : Mu) (S : Nat → Prop) : Nat → Prop := fun b => S b ∨ ∃ k : Key, k.1 = l + 1 ∧ (H k).live = true ∧ ((m k).cap ≠ 0 ∨ (H k).e.isO = true) ∧ b = (m k).b
theorem Ok.fin (h : Ok (l + 1) H m S w) : Ok l H m (Zmo l H m S) w ∧ Ext l H m S w H m (Zmo l H m S) w := by
 have hext : Ext (l + 1) H m S w H m (Zmo l H m S) w := ⟨fun _ h => .inl h, fun _ _ => rfl, fun _ _ => Yd _, fun _ _ _ h => ⟨h, rfl, rfl⟩, rfl, rfl, rfl, Yd _⟩
 refine ⟨⟨fun b hb => ?_, fun q hq => h.empty q (by omega), fun q hq hl hz => ?_, fun q q' hq hq' => h.inj q q' (by omega) (by omega), fun q hq hl hz => ?_,
  ⟨fun k hk hv => (h.mp.o k (by omega) hv).mono (fun _ h => .inl h) (fun _ _ => rfl) (fun _ => rfl), fun k hk hv he => ?_, fun k k' hk hk' => h.mp.i k k' (by omega) (by omega)⟩⟩, hext.mono (by omega)⟩
 ·rcases hb with hb | ⟨k, hk, hl, hz, rfl⟩
  ·exact h.sub b hb
  ·rcases hz with hz | hz
   ·obtain ⟨C, hb, _⟩ := h.blk k (by omega) hl hz
    grind
   ·obtain ⟨o, hb, _⟩ := (h.mp.o k (by omega) hl).at hz
    grind
 ·rintro (hs | ⟨k, hk, hl', hz', e⟩)
  ·exact h.fresh q (by omega) hl hz hs
  ·rcases hz' with hz' | hz'
   ·have := h.inj q k (by omega) (by omega) hl hl' hz hz' e
    grind
   ·obtain ⟨o, hb, hc⟩ := (h.mp.o k (by omega) hl').at hz'
    obtain ⟨C, hb', _⟩ := h.blk q (by omega) hl hz
    rw [e, hb] at hb'; cases hb'; cases hc
 ·obtain ⟨C, hb, hs, hle, hx⟩ := h.blk q (by omega) hl hz
  exact ⟨C, hb, hs, hle, fun i x v hi hv => ⟨(hx i x v hi hv).1, (hx i x v hi hv).2.ext hext (by omega)⟩⟩
 ·refine ⟨(h.mp.c k (by omega) hv he).1, ?_⟩
  rintro (hs | ⟨k', hk', hl', hz', e⟩)
  ·exact (h.mp.c k (by omega) hv he).2 hs
  ·rcases hz' with hz' | hz'
   ·obtain ⟨o, hb, hc⟩ := (h.mp.o k (by omega) hv).at he
    obtain ⟨C, hb', _⟩ := h.blk k' (by omega) hl' hz'
    rw [← e, hb] at hb'; cases hb'; cases hc
   ·have := h.mp.i k k' (by omega) (by omega) hv hl' he hz' e
    grind
theorem Fz.sound {x y : AV} (h : Fz H l x y) (hO : Ok (l + 1) H m S w) : ∀ {v : Value}, RepA w S H m (l + 1) x v → RepA w (Zmo l H m S) H m l y v := by
 have hext : Ext (l + 1) H m S w H m (Zmo l H m S) w := ⟨fun _ h => .inl h, fun _ _ => rfl, fun _ _ => Yd _, fun _ _ _ h => ⟨h, rfl, rfl⟩, rfl, rfl, rfl, Yd _⟩
 induction h with
 | keep x h => exact fun hx => (hx.ext hext (Yd _)).low h
 | e0 =>
  intro v hx
  cases hx with
  | e0 oa => exact (RepA.e0 oa).e0_d
 | mp k a es hk hl he =>
  intro v hx
  generalize hg : (H k).g = g at hx
  cases hx with
  | mpD _ _ _ hk' hg' hd h1 => rw [hd hg.symm] at hl; cases hl
  | mpL _ hk' hl' =>
   have ho := hO.mp.o k (by omega) hl
   rw [he] at ho
   obtain ⟨ents, clock, h1, h2⟩ := ho
   exact .d _ _ (.ofM (.inr ⟨k, hk, hl, .inr (by rw [he]; rfl), rfl⟩) h1 (h2.mono (fun _ h => .inl h) (fun _ _ => rfl)))
 | ref k off n es hk hl hn hz he hlen h ih =>
  intro v hx
  generalize hg : (H k).g = g at hx
  cases hx with
  | refD _ _ _ _ _ hk' hg' hd h1 => rw [hd hg.symm] at hl; cases hl
  | refL _ _ _ oa hk' hl' hcap ha =>
   by_cases hn0 : n = 0
   ·subst hn0
    have : es = [] := YO hn
    subst this
    cases oa with
    | none =>
     have e : (m k).cap - off = 0 := by
      rcases Yo off (m k).cap with h | h
      ·have := ha h; cases this
      ·omega
     rw [e]
     exact .d _ _ .nil
    | some ad => exact .d _ _ (.list [] ad 0 _ (fun _ _ => .bool true) (fun h => absurd rfl h) (Y4 _) (fun _ h => by cases h) (fun i j e x h => by simp at h) (fun i j e x h => by simp at h))
   ·have hoa := ha (by omega)
    subst hoa
    obtain ⟨hcp, C, h1, h2, h3, h4⟩ := hO.row (k := k) (by omega) hl (by
     intro e
     rw [e, YB] at hlen
     have := Ybe (show 0 < n by omega) (show 0 < (H k).sz by omega)
     simp at hlen
     omega)
    have idx : ∀ (i j : Nat) (e : List D) (d : D), es[i]? = some e → e[j]? = some d → (off + i) * (H k).sz + j < (H k).cells.length := by
     intro i j e d hi hj
     have hil : i < n := by
      rw [← hn]
      rcases Yo i es.length with h | h
      ·exact h
      ·rw [Yx h] at hi; cases hi
     have hjl : j < (H k).sz := by
      rw [← he e (Yj hi)]
      rcases Yo j e.length with h | h
      ·exact h
      ·rw [Yx h] at hj; cases hj
     have : (off + i + 1) * (H k).sz ≤ (off + n) * (H k).sz := YJ _ (by omega)
     rw [YB (off + i)] at this
     omega
    have := RepD.list (w := w) (S := Zmo l H m S) es ⟨(m k).b, (m k).o + off * (H k).sz, none⟩ (H k).sz ((m k).cap - off) (fun i j => (C[(m k).o + ((off + i) * (H k).sz + j)]?).getD undef)
     (fun _ => .inr ⟨k, hk, hl, .inl hcp, rfl⟩) (by omega) he
     (fun i j e d hi hj => by
      obtain ⟨v, e1, _, _⟩ := h4 _ _ (Yb (idx i j e d hi hj))
      rw [Addr.add_lit, Zc5 h1, e1]
      rw [show (m k).o + off * (H k).sz + (i * (H k).sz + j) = (m k).o + ((off + i) * (H k).sz + j) from by rw [YB]; omega, e1]
      rfl)
     (fun i j e d hi hj => by
      obtain ⟨v, e1, e2, e3⟩ := h4 _ _ (Yb (idx i j e d hi hj))
      rw [e1]
      have := ih i j e d _ hi hj (Yb (idx i j e d hi hj)) e3
      cases this with
      | d _ _ hd => exact hd)
    rw [hn] at this
    exact .d _ _ this
 | agg xs ys hl h ih =>
  intro v hx
  cases hx with
  | agg _ vs hl' h1 hc =>
   refine .agg _ _ (by omega) h1 (fun i y v hy hv => ?_)
   have hlt : i < xs.length := by
    rw [hl]
    rcases Yo i ys.length with h | h
    ·exact h
    ·rw [Yx h] at hy; cases hy
   exact ih i _ y (Yb hlt) hy (hc i _ v (Yb hlt) hv)
 | tup xs ys hl h ih =>
  intro v hx
  cases hx with
  | tup _ vs hl' hc =>
   refine .tup _ _ (by omega) (fun i y v hy hv => ?_)
   have hlt : i < xs.length := by
    rw [hl]
    rcases Yo i ys.length with h | h
    ·exact h
    ·rw [Yx h] at hy; cases hy
   exact ih i _ y (Yb hlt) hy (hc i _ v (Yb hlt) hv)
theorem Zhp {fn : Func} {KK : List AV → Prop} (hO : Ok (l + 1) H m S w) (hS : Zdf (l + 1) s H m S a w) (h : Zlk P ⟨s, H⟩ fn.results.toList KK) :
  ∃ v xs, (results fn a.tmps).run P w = .ok v w ∧ RepA w S H m (l + 1) (ZiI xs) v ∧ KK xs := by
 obtain ⟨vs, xs, h1, h2, h3, h4⟩ := ZeS hO hS _ _ h
 have hr : ∀ f : ResultVar → Sem Value, (∀ r, f r = ZEK a.tmps r) → (fn.results.mapM f).run P w = .ok vs.toArray w := by
  intro f hf
  have : f = ZEK a.tmps := funext hf
  subst this
  rw [Ya0]
  simp [h1]
 refine ⟨if h : vs.toArray.size = 1 then vs.toArray[0] else .tuple vs.toArray, xs, ?_, ?_, h4⟩
 ·unfold results
  simp only [Sem.run_bind]
  rw [hr _ (fun r => by cases r <;> rfl)]
  simp
 ·match xs, vs, h2, h3 with
  | [x], [v], _, h3 => exact h3 0 x v rfl rfl
  | [], [], _, _ => exact .tup _ _ rfl (fun i x v h => by simp [ZiI] at h)
  | x :: x' :: xs, v :: v' :: vs, h2, h3 =>
   have e : ¬ ((v :: v' :: vs).toArray.size = 1) := by simp
   rw [dif_neg e]
   exact .tup _ _ (by simpa using h2) (fun i x v hx hv => h3 i x v hx (by simpa using hv))
theorem Ztx {P : Program} {f : FuncId} {fn : Func} {c : Code} {n l : Nat} {xs : List AV} {H : Hp} {Post : AV → Hp → Prop} (hf : P.funcs[f]? = some fn) (hb : fn.body = some c) (hname : (fn.name == "runtime.NumGoroutine") = false)
  (hn : fn.ntmps = n) (hx : xs.length ≤ n) (h : ∀ B : Base, AWp P l n B c (ZKY P fn l H Post) ⟨args xs, clr l H⟩) : ZbY P f l xs H Post := by
 refine ⟨⟨fn, c, hf, hb, hname⟩, fun m S w vs hO hargs => ?_⟩
 have hclr : ∀ k : Key, k.1 ≤ l → clr l H k = H k := fun k hk => by unfold clr; rw [if_pos hk]
 have hdead : ∀ k : Key, ¬ k.1 ≤ l → (clr l H k).live = false := fun k hk => by unfold clr; rw [if_neg hk]
 have hlv : ∀ k : Key, (clr l H k).live = true → k.1 ≤ l := fun k hl => by
  grind
 have hO' : Ok (l + 1) (clr l H) m S w := by
  refine ⟨hO.sub, fun q hq hl hz => ?_, fun q hq hl hz => ?_, fun q q' hq hq' hl hl' hz hz' heq => ?_, fun q hq hl hz => ?_,
   hO.mp.stepL (fun q _ hl _ => by have := hlv q hl; rw [hclr q this] at hl ⊢; exact ⟨this, hl, rfl, rfl⟩) (fun _ h => h) (fun _ h => .inl h) (fun _ _ => rfl) (fun _ _ h _ => h)⟩
  ·have := hlv q hl; rw [hclr q this] at hl ⊢; exact hO.empty q this hl hz
  ·have := hlv q hl; rw [hclr q this] at hl; exact hO.fresh q this hl hz
  ·have e := hlv q hl
   have e' := hlv q' hl'
   rw [hclr q e] at hl; rw [hclr q' e'] at hl'
   exact hO.inj q q' e e' hl hl' hz hz' heq
  ·have e := hlv q hl
   rw [hclr q e] at hl ⊢
   obtain ⟨C, h1, h2, h3, h4⟩ := hO.blk q e hl hz
   exact ⟨C, h1, h2, h3, fun i x v hi hv => ⟨(h4 i x v hi hv).1, (h4 i x v hi hv).2.agree (fun k hk => hclr k (by omega)) (fun _ _ => rfl)⟩⟩
 have hE : Ext l H m S w (clr l H) m S w := ⟨fun _ h => h, fun _ _ => rfl, fun k hk => by rw [hclr k hk]; exact Yd _, fun k hk _ hl => by rw [hclr k hk] at hl ⊢; exact ⟨hl, rfl, rfl⟩, rfl, rfl, rfl, Yd _⟩
 have hR : R l n ⟨H, m, S, w⟩ ⟨args xs, clr l H⟩ { tmps := vs ++ Array.replicate (fn.ntmps - vs.size) undef, defers := [] } w := by
  refine ⟨m, S, hO', by simp [hn]; rw [← hargs.1]; omega, rfl, fun i => ?_, hE⟩
  simp only [args]
  cases hi : xs[i]? with
  | none => exact .top _
  | some x =>
   have hlt : i < xs.length := by
    grind
   have hlt' : i < vs.size := by rw [← hargs.1]; exact hlt
   rw [Ym, Yak hlt', Yf hlt']
   exact ((hargs.2 i x _ hi (Yf hlt')).agree (fun k hk => hclr k hk) (fun _ _ => rfl)).lvl (Nat.le_succ l)
 refine calls_of_wp hf hb (wp_mono (h ⟨H, m, S, w⟩ _ w hR) fun e a' w' ⟨σ', hq, hR'⟩ => ?_)
 obtain ⟨s', H'⟩ := σ'
 obtain ⟨m', S', hO'', hn', hd', hS', hex'⟩ := hR'.un
 have done : Zlk P ⟨s', H'⟩ fn.results.toList (fun xs => ∃ y, Fz H' l (ZiI xs) y ∧ Post y (mrg l H' H)) → a'.defers = [] ∧ ∃ v, (results fn a'.tmps).run P w' = .ok v w' ∧
   (∃ r v_1 H'_1 m'_1 S'_1, Ending.returned v = .returned v_1 ∧ Post r H'_1 ∧ Ok l H'_1 m'_1 S'_1 w' ∧ RepA w' S'_1 H'_1 m'_1 l r v_1 ∧ Ext l H m S w H'_1 m'_1 S'_1 w') := by
  intro hr
  obtain ⟨v, xs, h1, h2, y, h3, h4⟩ := Zhp hO'' hS' hr
  obtain ⟨k1, k2⟩ := hO''.fin
  have hmrg : ∀ k : Key, k.1 ≤ l → mrg l H' H k = H' k := fun k hk => by unfold mrg; rw [if_pos hk]
  refine ⟨hd', v, h1, y, v, mrg l H' H, m', _, rfl, h4, ?_, (h3.sound hO'' h2).agree hmrg (fun _ _ => rfl), ?_⟩
  ·refine ⟨k1.sub, fun q hq hl hz => ?_, fun q hq hl hz => ?_, fun q q' hq hq' hl hl' hz hz' heq => ?_, fun q hq hl hz => ?_,
    k1.mp.step (Yd _) (fun q hq hl _ => by rw [hmrg q hq] at hl ⊢; exact ⟨hl, rfl, rfl⟩) (fun _ h => h) (fun _ h => .inl h) (fun _ _ => rfl) (fun _ _ h _ => h)⟩
   ·rw [hmrg q hq] at hl ⊢; exact k1.empty q hq hl hz
   ·rw [hmrg q hq] at hl; exact k1.fresh q hq hl hz
   ·rw [hmrg q hq] at hl; rw [hmrg q' hq'] at hl'; exact k1.inj q q' hq hq' hl hl' hz hz' heq
   ·rw [hmrg q hq] at hl ⊢
    obtain ⟨C, g1, g2, g3, g4⟩ := k1.blk q hq hl hz
    exact ⟨C, g1, g2, g3, fun i x v hi hv => ⟨(g4 i x v hi hv).1, (g4 i x v hi hv).2.agree (fun k hk => hmrg k (by omega)) (fun _ _ => rfl)⟩⟩
  ·have h5 := Ext.trans (show Ext l H m S w H' m' S' w' from hex') k2
   exact ⟨h5.s, h5.blk, fun k hk => by rw [hmrg k hk]; exact h5.g k hk, fun k hk hg hl => by rw [hmrg k hk] at hg hl ⊢; exact h5.live k hk hg hl, h5.os, h5.tape, h5.output, h5.size⟩
 rcases hq.1 with rfl | rfl
 ·exact done hq.2
 ·exact done hq.2
end
section
variable {P : Program} {l n : Nat} {ds : List (Option Nat)} {ops rest : List Oper} {K : St → Prop} {s : Nat → AV} {H : Hp} {d : Option Nat} {op : Op} {ty : TypeId} {ps : String} {af : Array Edge} {g : Option (Nat × Bool)}
variable {x y : Operand} {t : TypeId}
theorem Zoc {l : Nat} {H : Hp} {k : Key} (h : k.1 ≤ l) : clr l H k = H k := by unfold clr; rw [if_pos h]
theorem Zzo {l : Nat} {H : Hp} {i : Nat} : clr l H (l + 1, i) = ⟨0, false, 0, 0, []⟩ := by unfold clr; rw [if_neg (by simp)]
end
end Go.Eng
