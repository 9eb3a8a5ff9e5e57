/-
  The abstract state of a walk, part I: append; calls; 'rOp' as a whole.
-/
import Derived.Test.YthagpbkmakocjaaEngH
import Derived.Laws.MakeOwn
namespace Go.Eng
set_option linter.all false
open Go Go.RowKit

section
variable {P : Program} {l n : Nat} {B : Base} {H H' : Hp} {m m' : Mu} {S S' : Nat → Prop} {w w' : World} {s : Nat → AV} {a : Act} {K : St → Prop} {o : Oper}

theorem one_news {news : List AV} {C : Array Value} (h : CellsRep w S H m l news C) : ∀ u ∈ C.toList, u.oneCell' = true := by
  intro v hv
  obtain ⟨i, hi⟩ := List.mem_iff_getElem?.1 hv
  rw [Array.getElem?_toList] at hi
  have hlt : i < news.length := by
    rw [h.1]
    rcases Nat.lt_or_ge i C.size with h | h
    · exact h
    · rw [Array.getElem?_eq_none h] at hi; cases hi
  exact (h.2 i _ v (List.getElem?_eq_getElem hlt) hi).1

/-- what an append takes, in memory -/
theorem srcA_sound {t e : TypeId} {sz : Nat} (hu : P.underlying t = some (.slice e)) (hsz : sz ≠ 0) {y : AV} {v : Value} {c : Nat} {news : List AV} (h : srcA H sz y = some (c, news)) (hO : Ok (l + 1) H m S w) (hy : RepA w S H m (l + 1) y v) :
    ∃ C : Array Value, Src P sz t v c C.toList w ∧ CellsRep w S H m (l + 1) news C ∧ news.length = c * sz := by
  unfold srcA at h
  split at h
  · simp only [Option.some.injEq, Prod.mk.injEq] at h
    obtain ⟨rfl, rfl⟩ := h
    cases hy with
    | e0 oa =>
      refine ⟨#[], ?_, ⟨rfl, fun i x v hi => by simp at hi⟩, by simp⟩
      cases oa with
      | none => exact Src.ofNil w hu 0
      | some ad => exact Src.ofSlice w hu ad 0 0 [] (by simp) (fun j u h => by simp at h) (fun u h => by cases h)
  · rename_i es
    split at h
    · rename_i hall
      simp only [Option.some.injEq, Prod.mk.injEq] at h
      obtain ⟨rfl, rfl⟩ := h
      have hal : ∀ e ∈ es, e.length = sz := fun e he => by simpa using List.all_eq_true.1 hall e he
      have hfl : es.flatten.length = es.length * sz := by
        clear hall hy
        induction es with
        | nil => simp
        | cons e es ih =>
          rw [List.flatten_cons, List.length_append, ih (fun e he => hal e (List.mem_cons_of_mem _ he)), hal e (List.mem_cons_self ..), List.length_cons, Nat.add_mul]
          omega
      cases hy with
      | d _ _ hd =>
        cases hd with
        | nil => exact ⟨#[], Src.ofNil w hu 0, ⟨rfl, fun i x v hi => by simp at hi⟩, by simp⟩
        | list es ad sz' cap cc hb hcap hsz' hcc hrr =>
          -- the flat cell q lies at element q / sz, place q % sz
          have hat : ∀ (q : Nat) (x : D), es.flatten[q]? = some x → ∃ e, es[q / sz]? = some e ∧ e[q % sz]? = some x := by
            clear hall hcc hrr hb hcap hsz' hfl
            induction es with
            | nil => intro q x h; simp at h
            | cons e es ih =>
              intro q x h
              have he : e.length = sz := hal e (List.mem_cons_self ..)
              rw [List.flatten_cons] at h
              rcases Nat.lt_or_ge q sz with hq | hq
              · rw [List.getElem?_append_left (by omega)] at h
                exact ⟨e, by rw [Nat.div_eq_of_lt hq]; rfl, by rw [Nat.mod_eq_of_lt hq]; exact h⟩
              · rw [List.getElem?_append_right (by omega), he] at h
                obtain ⟨e', h1, h2⟩ := ih (fun e he => hal e (List.mem_cons_of_mem _ he)) (q - sz) x h
                refine ⟨e', ?_, ?_⟩
                · rw [Nat.div_eq_sub_div (by omega) hq]; simpa using h1
                · rw [Nat.mod_eq_sub_mod hq]; exact h2
          have hcell : ∀ (q : Nat) (x : D), es.flatten[q]? = some x → w.cell? (ad.add q) = some (cc (q / sz) (q % sz)) ∧ RepD w S x (cc (q / sz) (q % sz)) := by
            intro q x h
            obtain ⟨e, h1, h2⟩ := hat q x h
            have e1 : sz' = sz := by rw [← hsz' e (List.mem_of_getElem? h1), hal e (List.mem_of_getElem? h1)]
            have := hcc _ _ _ _ h1 h2
            rw [e1, Nat.mul_comm (q / sz) sz, Nat.div_add_mod] at this
            exact ⟨this, hrr _ _ _ _ h1 h2⟩
          refine ⟨((List.range (es.length * sz)).map fun q => cc (q / sz) (q % sz)).toArray, ?_, ⟨by rw [List.length_map, hfl]; simp, fun i x v hi hv => ?_⟩, by rw [List.length_map, hfl]⟩
          · refine Src.ofSlice w hu ad es.length cap _ (by simp) (fun j u hj => ?_) (fun u hu' => ?_)
            · have hj : ((List.range (es.length * sz)).map fun q => cc (q / sz) (q % sz))[j]? = some u := by simpa using hj
              have hlt : j < es.length * sz := by
                rcases Nat.lt_or_ge j (es.length * sz) with h | h
                · exact h
                · rw [List.getElem?_eq_none (by simpa using h)] at hj; cases hj
              rw [List.getElem?_eq_getElem (by simpa using hlt)] at hj
              simp only [List.getElem_map, List.getElem_range, Option.some.injEq] at hj
              subst hj
              exact (hcell j _ (List.getElem?_eq_getElem (by omega))).1
            · obtain ⟨j, hj⟩ := List.mem_iff_getElem?.1 hu'
              have hj : ((List.range (es.length * sz)).map fun q => cc (q / sz) (q % sz))[j]? = some u := by simpa using hj
              have hlt : j < es.length * sz := by
                rcases Nat.lt_or_ge j (es.length * sz) with h | h
                · exact h
                · rw [List.getElem?_eq_none (by simpa using h)] at hj; cases hj
              rw [List.getElem?_eq_getElem (by simpa using hlt)] at hj
              simp only [List.getElem_map, List.getElem_range, Option.some.injEq] at hj
              subst hj
              exact (hcell j _ (List.getElem?_eq_getElem (by omega))).2.one
          · have hv : ((List.range (es.length * sz)).map fun q => cc (q / sz) (q % sz))[i]? = some v := by simpa using hv
            have hlt : i < es.length * sz := by
              rcases Nat.lt_or_ge i (es.length * sz) with h | h
              · exact h
              · rw [List.getElem?_eq_none (by simpa using h)] at hv; cases hv
            rw [List.getElem?_eq_getElem (by simpa using hlt)] at hv
            simp only [List.getElem_map, List.getElem_range, Option.some.injEq] at hv
            subst hv
            rw [List.getElem?_map, List.getElem?_eq_getElem (by omega)] at hi
            simp only [Option.map_some, Option.some.injEq] at hi
            subst hi
            have := hcell i _ (List.getElem?_eq_getElem (by omega))
            exact ⟨this.2.one, .d _ _ this.2⟩
    · cases h
  · rename_i k g off n'
    split at h
    · rename_i hc
      obtain ⟨hg, hl, hs, hle⟩ := hc
      simp only [Option.some.injEq, Prod.mk.injEq] at h
      obtain ⟨rfl, rfl⟩ := h
      cases hy with
      | refD k g off n v hk hg' hd h1 => rw [hd hg] at hl; cases hl
      | refL k off n' oa hk hl' hn ha =>
        by_cases hz : n' = 0
        · subst hz
          refine ⟨#[], ?_, ⟨by simp, fun i x v hi => by simp at hi⟩, by simp⟩
          cases oa with
          | none => exact Src.ofNil w hu _
          | some ad => exact Src.ofSlice w hu ad 0 _ [] (by simp) (fun j u h => by simp at h) (fun u h => by cases h)
        · have hoa := ha (by omega)
          subst hoa
          have hpos : 0 < n' * sz := Nat.mul_pos (by omega) (by omega)
          obtain ⟨hcap, C, h1, h2, h3, h4⟩ := hO.row hk hl (by
            intro e
            rw [e, Nat.add_mul] at hle
            simp at hle
            omega)
          rw [Nat.add_mul] at hle
          have hCr : CellsRep w S H m (l + 1) (((H k).cells.drop (off * sz)).take (n' * sz)) (C.extract ((m k).o + off * sz) ((m k).o + off * sz + n' * sz)) := by
            refine ⟨by simp; omega, fun i x v hi hv => ?_⟩
            rw [Array.getElem?_extract] at hv
            split at hv
            · rename_i hlt
              rw [List.getElem?_take] at hi
              split at hi
              · rw [List.getElem?_drop] at hi
                obtain ⟨v', e1, e2, e3⟩ := h4 _ x hi
                rw [Nat.add_assoc, e1] at hv
                simp only [Option.some.injEq] at hv
                subst hv
                exact ⟨e2, e3⟩
              · cases hi
            · cases hv
          refine ⟨_, ?_, hCr, by simp; omega⟩
          refine Src.ofSlice w hu _ n' _ _ (by simp; omega) (fun j u hj => ?_) (one_news hCr)
          rw [Array.getElem?_toList, Array.getElem?_extract] at hj
          split at hj
          · rw [Addr.add_lit, cell_row h1, ← hj, hs]
          · cases hj
    · cases h
  · cases h

theorem run_append_in (t tx ty e : TypeId) (i : TypeInfo) (ht : P.underlying t = some (.slice e)) (hi : P.info? e = some i) (b off sLen sCap : Nat) (x : Value) (c : Nat) (news : List Value) (hs : Src P i.size tx x c news w)
    (hroom : sLen + c ≤ sCap) (C : Array Value) (hb : w.heap[b]? = some (.cells C e (0, 0))) (hle : off + sLen * i.size + news.length ≤ C.size) :
    (Builtin.append_ #[t, tx] ty #[.slice (some ⟨b, off, none⟩) sLen sCap, x]).run P w =
      .ok (.slice (some ⟨b, off, none⟩) (sLen + c) sCap) (w.setRow b (C.toList.take (off + sLen * i.size) ++ news ++ C.toList.drop (off + sLen * i.size + news.length)).toArray) := by
  have hst := run_storeCells_at (P := P) b (off + sLen * i.size) e news 0 C w hb (by omega) hs.one
  simp only [Nat.add_zero] at hst
  rcases hs.kind with ⟨e', hk⟩ | hk <;> simp [Builtin.append_, run_underlying ht, run_underlying hk, sizeOf, typeInfo, hi, hs.len, hroom, hs.cells, Addr.add_lit, hst]

theorem Ok.overEmpty (h : Ok l H m S w) (k : Key) (hk : k.1 ≤ l) (g : Nat) (e : TypeId) (sz : Nat) (hg : (H k).g < g) (M : MB) (hM : M.cap = 0) :
    Ok l (updH H k ⟨g, true, e, sz, []⟩) (updM m k M) S w ∧ Ext l H m S w (updH H k ⟨g, true, e, sz, []⟩) (updM m k M) S w := by
  have hext : Ext l H m S w (updH H k ⟨g, true, e, sz, []⟩) (updM m k M) S w := by
    refine ⟨fun _ h => h, fun _ _ => rfl, fun q hq => ?_, fun q hq hgq hl => ?_, rfl, rfl, rfl, Nat.le_refl _⟩
    · by_cases e : q = k
      · subst e; rw [updH_same]; simp only; omega
      · rw [updH_ne _ _ e]; exact Nat.le_refl _
    · by_cases e : q = k
      · subst e; rw [updH_same] at hgq; simp only at hgq; omega
      · rw [updH_ne _ _ e] at hl ⊢; rw [updM_ne _ _ e]; exact ⟨hl, rfl, rfl⟩
  have hne : ∀ q : Key, (updM m k M q).cap ≠ 0 → q ≠ k := by
    rintro q hq rfl
    rw [updM_same] at hq
    exact hq hM
  refine ⟨⟨h.sub, fun q hq hl hz => ?_, fun q hq hl hz => ?_, fun q q' hq hq' hl hl' hz hz' heq => ?_, fun q hq hl hz => ?_⟩, hext⟩
  · by_cases e : q = k
    · subst e; rw [updH_same]
    · rw [updH_ne _ _ e] at hl ⊢; rw [updM_ne _ _ e] at hz; exact h.empty q hq hl hz
  · have e := hne q hz
    rw [updH_ne _ _ e] at hl; rw [updM_ne _ _ e] at hz ⊢; exact h.fresh q hq hl hz
  · have e := hne q hz
    have e' := hne q' hz'
    rw [updM_ne _ _ e, updM_ne _ _ e'] at heq
    rw [updH_ne _ _ e] at hl
    rw [updH_ne _ _ e'] at hl'
    rw [updM_ne _ _ e] at hz
    rw [updM_ne _ _ e'] at hz'
    exact h.inj q q' hq hq' hl hl' hz hz' heq
  · have e := hne q hz
    rw [updH_ne _ _ e] at hl ⊢
    rw [updM_ne _ _ e] at hz ⊢
    obtain ⟨C, hb, hs, hle, hx⟩ := h.blk q hq hl hz
    exact ⟨C, hb, hs, hle, fun i x v hi hv => ⟨(hx i x v hi hv).1, (hx i x v hi hv).2.ext hext hq⟩⟩

theorem madeRep {z : List AV} {zv : Array Value} (hz : z ≠ []) (hr : CellsRep w S H m l z zv) (n q : Nat) (hq : n ≤ q) :
    (madeCells zv (q * z.length)).size = q * z.length ∧ ∀ (i : Nat) (x : AV) (v : Value), (List.replicate n z).flatten[i]? = some x → (madeCells zv (q * z.length))[i]? = some v → v.oneCell' = true ∧ RepA w S H m l x v := by
  refine ⟨size_madeCells _ _, fun i x v hx hv => ?_⟩
  have hp : 0 < z.length := List.length_pos_iff.2 hz
  rw [mod_flat z n i hz] at hx
  split at hx
  · rename_i hlt
    have hlt' : i < q * z.length := Nat.lt_of_lt_of_le hlt (Nat.mul_le_mul_right _ hq)
    have hm : i % z.length < zv.size := by rw [← hr.1]; exact Nat.mod_lt _ hp
    have : v = zv[i % z.length] := by
      unfold madeCells at hv
      simp only [Array.getElem?_map, Array.getElem?_range, hlt', if_true, Option.map_some, Option.some.injEq, ← hr.1] at hv
      rw [← hv, getElem!_pos]
    subst this
    exact hr.2 _ x _ hx (Array.getElem?_eq_getElem hm)
  · cases hx

theorem aop_make {t e : TypeId} {sz d : Nat} {x y : Operand} {k1 k2 : IntKind} {c c' : Int} {z : List AV} (ho : o.op = .makeSlice t x y) (hd : o.dst = some d) (he : elm P t = some (e, sz)) (hx : ev s x = .d (.int k1 c)) (hy : ev s y = .d (.int k2 c'))
    (h1 : 0 ≤ c) (h2 : c ≤ c') (hsz : sz ≠ 0) (hbn : P.bytesOf e ≠ 0) (hb : (P.bytesOf e : Int) * c' ≤ 140737488355328) (hz : zer P e = some z) (hzl : z.length = sz)
    (hK : newK l n d e sz (List.replicate c.toNat z).flatten (fun g => .ref (l + 1, d) g 0 c.toNat) K ⟨s, H⟩) : AOp P l n B o K ⟨s, H⟩ := by
  obtain ⟨hu, hse⟩ := elm_some he
  have hzne : z ≠ [] := by rintro rfl; simp at hzl; omega
  intro a w hR Q
  obtain ⟨m, S, hO, hn, hdf, hS, hex⟩ := hR.un
  obtain ⟨it, zv, hi, hz0, hr, _⟩ := zer_some (w := w) (S := S) (H := H) (m := m) (l := l + 1) hz
  have hits : it.size = sz := by rw [← hse]; simp [Program.cellsOf, hi]
  have hby : P.bytesOf e = it.bytes := by simp [Program.bytesOf, hi]
  have hc' : c' ≤ 140737488355328 := by
    have : (1 : Int) * c' ≤ (P.bytesOf e : Int) * c' := Int.mul_le_mul_of_nonneg_right (by omega) (by omega)
    omega
  have hxv := ev_rep hS x
  have hyv := ev_rep hS y
  rw [hx] at hxv
  rw [hy] at hyv
  generalize hxe : a.eval x = xv at hxv
  generalize hye : a.eval y = yv at hyv
  cases hxv
  rename_i hd1
  cases hyv
  rename_i hd2
  cases hd1
  cases hd2
  have hrun := run_make (P := P) (w := w) t e it zv hu hi hz0 k1 k2 c c' h1 h2 (by rw [← hby]; omega) (by omega)
  have hrun' : (execOp a.eval o).run P w = .ok (.value (.slice (some ⟨w.heap.size, 0, none⟩) c.toNat c'.toNat)) (w.alloc (.cells (madeCells zv.cells (c'.toNat * it.size)) e)) := by
    simp only [execOp, ho, hxe, hye, Sem.run_bind, hrun, Result.andThen_ok, Sem.run_pure]
  refine wp_of_run hrun' ?_
  rw [hd]
  have hle : c.toNat ≤ c'.toNat := by omega
  by_cases hc0 : c'.toNat = 0
  · have hc1 : c.toNat = 0 := by omega
    obtain ⟨j1, j2⟩ := hO.junk (w' := w.alloc (.cells (madeCells zv.cells (c'.toNat * it.size)) e)) (fun i hi => by show (w.heap.push _)[i]? = _; rw [Array.getElem?_push, if_neg (by omega)]) (by simp) rfl rfl rfl
    obtain ⟨k1, k2⟩ := j1.overEmpty (l + 1, d) (Nat.le_refl _) ((H (l + 1, d)).g + 1) e sz (Nat.lt_succ_self _) ⟨0, 0, 0⟩ rfl
    rw [hc1] at hK
    have e0 : Value.slice (some ⟨w.heap.size, 0, none⟩) c.toNat c'.toNat = .slice (some ⟨w.heap.size, 0, none⟩) 0 0 := by rw [hc0, hc1]
    rw [e0]
    refine ⟨_, hK.2, R.step k1 hn hdf hS hex (j2.trans k2) hK.1 ?_⟩
    have := RepA.refL (w := w.alloc (.cells (madeCells zv.cells (c'.toNat * it.size)) e)) (S := S) (H := updH H (l + 1, d) ⟨(H (l + 1, d)).g + 1, true, e, sz, []⟩) (m := updM m (l + 1, d) ⟨0, 0, 0⟩) (l := l + 1) (l + 1, d) 0 0
      (some ⟨w.heap.size, 0, none⟩) (Nat.le_refl _) (by rw [updH_same]) (by rw [updM_same]; simp) (fun h => by rw [updM_same] at h; simp at h)
    rw [updH_same, updM_same] at this
    exact this
  · obtain ⟨g1, g2⟩ := madeRep hzne hr c.toNat c'.toNat hle
    rw [hzl] at g1 g2
    rw [← hits] at g1 g2
    obtain ⟨k1, k2⟩ := hO.alloc (l + 1, d) (Nat.le_refl _) e sz c'.toNat (List.replicate c.toNat z).flatten (madeCells zv.cells (c'.toNat * it.size)) hc0 (by rw [g1, hits])
      (by rw [g1, hits]; simp [hzl]; exact Nat.mul_le_mul_right _ hle) (fun i x v hx hv => g2 i x v hx hv) (w.alloc (.cells (madeCells zv.cells (c'.toNat * it.size)) e)) rfl rfl rfl rfl
    refine ⟨_, hK.2, R.step k1 hn hdf hS hex k2 hK.1 ?_⟩
    have := RepA.refL (w := w.alloc (.cells (madeCells zv.cells (c'.toNat * it.size)) e)) (S := S) (H := updH H (l + 1, d) ⟨(H (l + 1, d)).g + 1, true, e, sz, (List.replicate c.toNat z).flatten⟩) (m := updM m (l + 1, d) ⟨w.heap.size, 0, c'.toNat⟩) (l := l + 1) (l + 1, d) 0 c.toNat
      (some ⟨w.heap.size, 0, none⟩) (Nat.le_refl _) (by rw [updH_same]) (by rw [updM_same]; simp only [Nat.zero_add]; exact hle) (fun _ => by rw [updM_same]; simp)
    rw [updH_same, updM_same] at this
    simpa using this

theorem growRep {Z : Array Value} {Y : Array Value} {news : List AV} {ys : List AV} (hy : CellsRep w S H m l ys Y) (hn : CellsRep w S H m l news Z) (X : Array Value) :
    ∀ (i : Nat) (x : AV) (v : Value), (ys ++ news)[i]? = some x → ((Y.toList ++ Z.toList).toArray ++ X)[0 + i]? = some v → v.oneCell' = true ∧ RepA w S H m l x v := by
  intro i x v hx hv
  have e1 := hy.1
  have e2 := hn.1
  rw [Nat.zero_add] at hv
  have hlt : i < (ys ++ news).length := by
    rcases Nat.lt_or_ge i (ys ++ news).length with h | h
    · exact h
    · rw [List.getElem?_eq_none h] at hx; cases hx
  rw [List.length_append] at hlt
  rw [Array.getElem?_append_left (by simp; omega)] at hv
  have hv : (Y.toList ++ Z.toList)[i]? = some v := by simpa using hv
  rcases Nat.lt_or_ge i ys.length with h | h
  · rw [List.getElem?_append_left h] at hx
    rw [List.getElem?_append_left (by simp; omega), Array.getElem?_toList] at hv
    exact hy.2 i x v hx hv
  · rw [List.getElem?_append_right h] at hx
    rw [List.getElem?_append_right (by simp; omega), Array.getElem?_toList] at hv
    simp only [Array.length_toList] at hv
    rw [← e1] at hv
    exact hn.2 _ x v hx hv

theorem zeroCells_size (z : Array Value) (k : Nat) : (Builtin.zeroCells z k).size = k * z.size := by simp [Builtin.zeroCells]

theorem le_of_mul {c b : Nat} (hb : b ≠ 0) (h : c * b ≤ 140737488355328) : c ≤ 140737488355328 := Nat.le_trans (Nat.le_mul_of_pos_right c (by omega)) h
theorem le_grown (w : World) (c o : Nat) (e : TypeId) : c ≤ grownCap w c o e := by unfold grownCap Question.cut; exact Nat.le_add_right _ _
theorem push_at (w : World) (o : Obj) : ∀ i, (w.alloc o).heap[i]? = if i = w.heap.size then some o else w.heap[i]? := fun i => by
  show (w.heap.push o)[i]? = _
  rw [Array.getElem?_push]
theorem aop_append {t : TypeId} {x y : Operand} {d : Nat} {c : Call} (ho : o.op = .call c) (hc : c.callee = .builtin .append) (hargs : c.args = #[x, y]) (hts : c.argTypes = #[t, t]) (hd : o.dst = some d)
    (h : appK P l n d t (ev s x) (ev s y) K ⟨s, H⟩) : AOp P l n B o K ⟨s, H⟩ := by
  unfold appK at h
  split at h
  case h_2 => exact h.elim
  rename_i e sz he
  obtain ⟨hu, hse⟩ := elm_some he
  obtain ⟨hsz, hbne, hzs, h⟩ := h
  obtain ⟨z, hz⟩ := Option.isSome_iff_exists.1 hzs
  split at h
  case h_2 => exact h.elim
  rename_i cnt news hsrc
  obtain ⟨hone, h⟩ := h
  intro a w hR Q
  obtain ⟨m, S, hO, hn, hdf, hS, hex⟩ := hR.un
  obtain ⟨C, hsc, hcr, hnl⟩ := srcA_sound hu hsz hsrc hO (ev_rep hS y)
  obtain ⟨it, zv, hi, hz0, hzr, hzlen⟩ := zer_some (w := w) (S := S) (H := H) (m := m) (l := l + 1) hz
  have hits : it.size = sz := by rw [← hse]; simp [Program.cellsOf, hi]
  have hby : P.bytesOf e = it.bytes := by simp [Program.bytesOf, hi]
  have hCl : C.size = cnt * sz := by rw [← hcr.1, hnl]
  have hx := ev_rep hS x
  have run : ∀ {v : Value} {w' : World}, (Builtin.append_ #[t, t] o.type #[a.eval x, a.eval y]).run P w = .ok v w' → (execOp a.eval o).run P w = .ok (.value v) w' := by
    intro v w' h
    unfold execOp
    simp [ho, resolve, hc, hargs, hts, invoke, builtin, h]
  split at h
  · -- onto nothing
    rename_i hxe
    obtain ⟨hb, h0, h1⟩ := h
    rw [hxe] at hx
    generalize hxv : a.eval x = xv at hx run
    cases hx with
    | e0 oa =>
      by_cases hc0 : cnt = 0
      · obtain ⟨hdn, hK⟩ := h0 hc0
        subst hc0
        have hrun : (Builtin.append_ #[t, t] o.type #[.slice oa 0 0, a.eval y]).run P w = .ok (.slice oa 0 0) w := by
          have hC0 : C = #[] := Array.eq_empty_of_size_eq_zero (by simpa using hCl)
          have h2 := hsc.cells
          rw [hC0] at h2
          rcases hsc.kind with ⟨e', hk⟩ | hk <;> cases oa <;> simp [Builtin.append_, run_underlying hu, sizeOf, typeInfo, hi, hsc.len, hits, h2, storeCells]
        refine wp_of_run (run hrun) ?_
        rw [hd]
        exact ⟨_, hK, R.step hO hn hdf hS hex (Ext.refl _ _ _ _ _) hdn (.e0 oa)⟩
      · obtain ⟨hdn, hK⟩ := h1 hc0
        have hold : (Builtin.firstCells it.size 0 (.slice oa 0 0)).run P w.drew = .ok ([] : List Value).toArray w.drew := by
          cases oa with
          | none => exact run_firstCells_none _ _ _ _ _
          | some ad => exact run_firstCells_some _ _ _ _ _ _ [] (by simp) (fun j v h => by simp at h)
        have hg := run_append_grow_src (P := P) w t t o.type e it zv hu hi hz0 oa 0 0 [] hold (a.eval y) cnt C.toList (by rw [hits]; exact hsc) (by omega)
          (by have := le_of_mul hbne hb; omega) (growslice_fits (by omega) (by rw [Nat.zero_add, ← hby]; exact hb))
        rw [Nat.zero_add] at hg
        have hG : cnt ≤ grownCap w cnt 0 e := le_grown _ _ _ _
        obtain ⟨k1, k2⟩ := hO.over (l + 1, d) (Nat.le_refl _) ⟨(H (l + 1, d)).g + 1, true, e, sz, news⟩ ⟨w.heap.size, 0, grownCap w cnt 0 e⟩ (Nat.lt_succ_self _) (by simp only; omega)
          ((([] : List Value) ++ C.toList).toArray ++ Builtin.zeroCells zv.cells (grownCap w cnt 0 e - cnt))
          (w.drew.alloc (.cells ((([] : List Value) ++ C.toList).toArray ++ Builtin.zeroCells zv.cells (grownCap w cnt 0 e - cnt)) e)) (push_at _ _) (.inl rfl)
          (by simp [zeroCells_size, hCl, ← hzr.1, hzlen, hits, Nat.sub_mul]; rw [← Nat.add_sub_assoc (Nat.mul_le_mul_right _ hG)]; omega)
          (by simp only [hnl]; exact Nat.mul_le_mul_right _ hG)
          (by simpa using growRep (ys := []) (Y := #[]) ⟨rfl, fun i x v h => by simp at h⟩ hcr _)
          (by simp) rfl rfl rfl
        refine wp_of_run (run hg) ?_
        rw [hd]
        refine ⟨_, hK, R.step k1 hn hdf hS hex k2 hdn ?_⟩
        have := RepA.refL (w := w.drew.alloc (.cells ((([] : List Value) ++ C.toList).toArray ++ Builtin.zeroCells zv.cells (grownCap w cnt 0 e - cnt)) e)) (S := S)
          (H := updH H (l + 1, d) ⟨(H (l + 1, d)).g + 1, true, e, sz, news⟩) (m := updM m (l + 1, d) ⟨w.heap.size, 0, grownCap w cnt 0 e⟩) (l := l + 1) (l + 1, d) 0 cnt
          (some ⟨w.heap.size, 0, none⟩) (Nat.le_refl _) (by rw [updH_same]) (by rw [updM_same]; simp only; omega) (fun _ => by rw [updM_same]; simp)
        rw [updH_same, updM_same] at this
        exact this
  · -- onto a row of its own
    rename_i k g off c' hxe
    obtain ⟨hg, hl, hs, hee, hend, hb, hlow, hdn, hK⟩ := h
    rw [hxe] at hx
    generalize hxv : a.eval x = xv at hx run
    cases hx with
    | refD k g off n v hk hg' hd' h1 => rw [hd' hg] at hl; cases hl
    | refL k off c' oa hk hl' hn' ha =>
      have hlowR : ∀ {y : AV} {v : Value}, y ∈ news → RepA w S H m (l + 1) y v → RepA w S H m k.1 y v := by
        intro y v hy hr
        rcases hlow with e | e
        · rw [e]; exact hr
        · exact hr.low (List.all_eq_true.1 e y hy)
      have hcr' : CellsRep w S H m k.1 news C := ⟨hcr.1, fun i y v hy hv => ⟨(hcr.2 i y v hy hv).1, hlowR (List.mem_of_getElem? hy) (hcr.2 i y v hy hv).2⟩⟩
      have hds : ((H k).cells.drop (off * sz)).length = c' * sz := by rw [List.length_drop, ← hend, Nat.add_mul]; omega
      have ref : ∀ (W : World) (cs : List AV) (M : MB) (oa : Option Addr), c' + cnt ≤ M.cap → (0 < M.cap → oa = some ⟨M.b, M.o, none⟩) →
          RepA W S (updH H k ⟨(H k).g + 1, true, e, sz, cs⟩) (updM m k M) (l + 1) (.ref k ((H k).g + 1) 0 (c' + cnt)) (.slice oa (c' + cnt) M.cap) := by
        intro W cs M oa h1 h2
        have := RepA.refL (w := W) (S := S) (H := updH H k ⟨(H k).g + 1, true, e, sz, cs⟩) (m := updM m k M) (l := l + 1) k 0 (c' + cnt) oa hk (by rw [updH_same]) (by rw [updM_same]; omega)
          (fun h => by rw [updM_same] at h ⊢; rw [h2 h]; simp)
        rw [updH_same, updM_same] at this
        exact this
      by_cases hroom : c' + cnt ≤ (m k).cap - off
      · by_cases hz0' : (m k).cap - off = 0
        · -- no room is wanted, and none is there: nothing turns but the name
          have h1 : c' = 0 := by omega
          have h2 : cnt = 0 := by omega
          subst h1; subst h2
          have hC0 : C = #[] := Array.eq_empty_of_size_eq_zero (by simpa using hCl)
          have hn0 : news = [] := List.eq_nil_of_length_eq_zero (by simpa using hnl)
          have hd0 : (H k).cells.drop (off * sz) = [] := List.eq_nil_of_length_eq_zero (by simpa using hds)
          have hrun : (Builtin.append_ #[t, t] o.type #[.slice oa 0 ((m k).cap - off), a.eval y]).run P w = .ok (.slice oa 0 0) w := by
            have h2 := hsc.cells
            rw [hC0] at h2
            rw [hz0']
            rcases hsc.kind with ⟨e', hk⟩ | hk <;> cases oa <;> simp [Builtin.append_, run_underlying hu, sizeOf, typeInfo, hi, hsc.len, hits, h2, storeCells]
          obtain ⟨k1, k2⟩ := hO.overEmpty k hk ((H k).g + 1) e sz (Nat.lt_succ_self _) ⟨0, 0, 0⟩ rfl
          refine wp_of_run (run hrun) ?_
          rw [hd]
          refine ⟨_, hK, ?_⟩
          simp only [hd0, hn0, List.append_nil]
          exact R.step k1 hn hdf hS hex k2 hdn (ref w [] ⟨0, 0, 0⟩ oa (Nat.le_refl _) (fun h => absurd h (by simp)))
        · have hoa := ha (by omega)
          subst hoa
          have hcap : (m k).cap ≠ 0 := by omega
          obtain ⟨C0, b1, b2, b3, b4⟩ := hO.blk k hk hl hcap
          rw [hs] at b2 b3
          have hcm : (m k).cap * sz = off * sz + ((m k).cap - off) * sz := by rw [← Nat.add_mul]; congr 1; omega
          have hrm : (c' + cnt) * sz ≤ ((m k).cap - off) * sz := Nat.mul_le_mul_right _ hroom
          rw [Nat.add_mul] at hrm
          rw [hee] at b1
          have hin := run_append_in (P := P) (w := w) t t o.type e it hu hi (m k).b ((m k).o + off * (H k).sz) c' ((m k).cap - off) (a.eval y) cnt C.toList (by rw [hits]; exact hsc) hroom C0 b1
            (by rw [hits, hs, Array.length_toList, hCl]; omega)
          rw [hits, hs, Array.length_toList, hCl] at hin
          rw [hs] at run
          have hC0l : C0.toList.length = C0.size := by simp
          have hT : (C0.toList.take ((m k).o + off * sz + c' * sz)).length = (m k).o + off * sz + c' * sz := by rw [List.length_take, hC0l]; omega
          obtain ⟨k1, k2⟩ := hO.over k hk ⟨(H k).g + 1, true, e, sz, (H k).cells.drop (off * sz) ++ news⟩ ⟨(m k).b, (m k).o + off * sz, (m k).cap - off⟩ (Nat.lt_succ_self _) (by simp only; omega)
            (C0.toList.take ((m k).o + off * sz + c' * sz) ++ C.toList ++ C0.toList.drop ((m k).o + off * sz + c' * sz + cnt * sz)).toArray
            (w.setRow (m k).b (C0.toList.take ((m k).o + off * sz + c' * sz) ++ C.toList ++ C0.toList.drop ((m k).o + off * sz + c' * sz + cnt * sz)).toArray)
            (fun b => by
              by_cases e : b = (m k).b
              · subst e; rw [if_pos rfl]; exact setRow_heap w _ C0 _ _ _ b1
              · rw [if_neg e]; exact setRow_other w _ _ _ e)
            (.inr ⟨rfl, hl, hcap⟩)
            (by simp only [List.size_toArray, List.length_append, hT, Array.length_toList, hCl, List.length_drop]; omega)
            (by simp only [List.length_append, hds, hnl]; exact hrm)
            (fun i x v hx hv => by
              have hv : (C0.toList.take ((m k).o + off * sz + c' * sz) ++ C.toList ++ C0.toList.drop ((m k).o + off * sz + c' * sz + cnt * sz))[(m k).o + off * sz + i]? = some v := by simpa using hv
              have hlt : i < ((H k).cells.drop (off * sz) ++ news).length := by
                rcases Nat.lt_or_ge i ((H k).cells.drop (off * sz) ++ news).length with h | h
                · exact h
                · rw [List.getElem?_eq_none h] at hx; cases hx
              rw [List.length_append, hds, hnl] at hlt
              rw [List.getElem?_append_left (by rw [List.length_append, hT, Array.length_toList, hCl]; omega)] at hv
              rcases Nat.lt_or_ge i (c' * sz) with h | h
              · rw [List.getElem?_append_left (by rw [hds]; exact h), List.getElem?_drop] at hx
                rw [List.getElem?_append_left (by rw [hT]; omega), List.getElem?_take, if_pos (by omega), Array.getElem?_toList, Nat.add_assoc] at hv
                exact b4 _ x v hx hv
              · rw [List.getElem?_append_right (by rw [hds]; exact h), hds] at hx
                rw [List.getElem?_append_right (by rw [hT]; omega), hT, Array.getElem?_toList] at hv
                rw [show (m k).o + off * sz + i - ((m k).o + off * sz + c' * sz) = i - c' * sz from by omega] at hv
                exact hcr'.2 _ x v hx hv)
            (by simp) rfl rfl rfl
          refine wp_of_run (run hin) ?_
          rw [hd]
          exact ⟨_, hK, R.step k1 hn hdf hS hex k2 hdn (ref _ _ ⟨(m k).b, (m k).o + off * sz, (m k).cap - off⟩ _ hroom (fun _ => rfl))⟩
      · -- a new row
        have hY : ∃ Y : Array Value, (Builtin.firstCells it.size c' (.slice oa c' ((m k).cap - off))).run P w.drew = .ok Y.toList.toArray w.drew ∧ CellsRep w S H m k.1 ((H k).cells.drop (off * sz)) Y := by
          by_cases hc0 : c' = 0
          · subst hc0
            have hd0 : (H k).cells.drop (off * sz) = [] := List.eq_nil_of_length_eq_zero (by simpa using hds)
            rw [hd0]
            refine ⟨#[], ?_, rfl, fun i x v h => by simp at h⟩
            cases oa with
            | none => exact run_firstCells_none _ _ _ _ _
            | some ad => exact run_firstCells_some _ _ _ _ _ _ [] (by simp) (fun j v h => by simp at h)
          · have hoa := ha (by omega)
            subst hoa
            have hcap : (m k).cap ≠ 0 := by omega
            obtain ⟨C0, b1, b2, b3, b4⟩ := hO.blk k hk hl hcap
            rw [hs] at b2 b3
            have hcm : (m k).cap * sz = off * sz + ((m k).cap - off) * sz := by rw [← Nat.add_mul]; congr 1; omega
            have hrm : c' * sz ≤ ((m k).cap - off) * sz := Nat.mul_le_mul_right _ (by omega)
            refine ⟨C0.extract ((m k).o + off * sz) ((m k).o + off * sz + c' * sz), ?_, by rw [hds]; simp; omega, fun i x v hx hv => ?_⟩
            · refine run_firstCells_some _ _ _ _ _ _ _ (by rw [hits]; simp; omega) (fun j v hj => ?_)
              rw [Array.getElem?_toList, Array.getElem?_extract] at hj
              split at hj
              · rw [Addr.add_lit, hs, ← hj]
                exact cell_row (w := w.drew) b1 _
              · cases hj
            · rw [Array.getElem?_extract] at hv
              split at hv
              · rw [List.getElem?_drop] at hx
                rw [Nat.add_assoc] at hv
                exact b4 _ x v hx hv
              · cases hv
        obtain ⟨Y, hold, hYr⟩ := hY
        have hg' := run_append_grow_src (P := P) w t t o.type e it zv hu hi hz0 oa c' ((m k).cap - off) Y.toList hold (a.eval y) cnt C.toList (by rw [hits]; exact hsc) (by omega)
          (by have := le_of_mul hbne hb; omega) (growslice_fits (by omega) (by rw [← hby]; exact hb))
        have hG : c' + cnt ≤ grownCap w (c' + cnt) ((m k).cap - off) e := le_grown _ _ _ _
        have hGm := Nat.mul_le_mul_right sz hG
        rw [Nat.add_mul] at hGm
        have hYl : Y.size = c' * sz := by rw [← hYr.1, hds]
        obtain ⟨k1, k2⟩ := hO.over k hk ⟨(H k).g + 1, true, e, sz, (H k).cells.drop (off * sz) ++ news⟩ ⟨w.heap.size, 0, grownCap w (c' + cnt) ((m k).cap - off) e⟩ (Nat.lt_succ_self _) (by simp only; omega)
          ((Y.toList ++ C.toList).toArray ++ Builtin.zeroCells zv.cells (grownCap w (c' + cnt) ((m k).cap - off) e - (c' + cnt)))
          (w.drew.alloc (.cells ((Y.toList ++ C.toList).toArray ++ Builtin.zeroCells zv.cells (grownCap w (c' + cnt) ((m k).cap - off) e - (c' + cnt))) e)) (push_at _ _) (.inl rfl)
          (by simp [zeroCells_size, hCl, hYl, ← hzr.1, hzlen, hits, Nat.sub_mul, Nat.add_mul]; omega)
          (by simp only [List.length_append, hds, hnl]; exact hGm)
          (growRep hYr hcr' _)
          (by simp) rfl rfl rfl
        refine wp_of_run (run hg') ?_
        rw [hd]
        exact ⟨_, hK, R.step k1 hn hdf hS hex k2 hdn (ref _ _ ⟨w.heap.size, 0, grownCap w (c' + cnt) ((m k).cap - off) e⟩ _ hG (fun _ => rfl))⟩
  · exact h.elim
end
end Go.Eng
