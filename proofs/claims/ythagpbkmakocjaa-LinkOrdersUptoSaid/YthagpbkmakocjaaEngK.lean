/-
  The abstract state of a walk, part K: a function's contract out of its body's walk.
-/
import Derived.Test.YthagpbkmakocjaaEngJ
namespace Go.Eng
set_option linter.all false
open Go Go.RowKit

def args (xs : List AV) : Nat → AV := fun i => (xs[i]?).getD .top
/-- the heap as a function that is called from level l meets it -/
def clr (l : Nat) (H : Hp) : Hp := fun k => if k.1 ≤ l then H k else ⟨0, false, 0, 0, []⟩
/-- the heap behind a call from level l -/
def mrg (l : Nat) (H' H : Hp) : Hp := fun k => if k.1 ≤ l then H' k else H k

def resA (P : Program) (σ : St) : List ResultVar → (List AV → Prop) → Prop
  | [], K => K []
  | .tmp t :: rest, K => resA P σ rest (fun xs => K (σ.s t :: xs))
  | .cell a t :: rest, K => vLoad P σ.H t (σ.s a) (fun x => resA P σ rest (fun xs => K (x :: xs)))

def tupA : List AV → AV
  | [x] => x
  | xs => .tup xs

/-- What a result is worth behind the call: what was made in the call is pure data from now on. -/
inductive Fz (H : Hp) (l : Nat) : AV → AV → Prop
  | keep (x : AV) (h : x.low l = true) : Fz H l x x
  | e0 : Fz H l .e0 (.d (.list []))
  | ref (k : Key) (off n : Nat) (es : List (List D)) (hk : k.1 = l + 1) (hl : (H k).live = true) (hn : es.length = n) (hz : (H k).sz ≠ 0) (he : ∀ e, e ∈ es → e.length = (H k).sz)
      (hlen : (off + n) * (H k).sz ≤ (H k).cells.length)
      (h : ∀ (i j : Nat) (e : List D) (d : D) (x : AV), es[i]? = some e → e[j]? = some d → (H k).cells[(off + i) * (H k).sz + j]? = some x → Fz H l x (.d d)) :
      Fz H l (.ref k (H k).g off n) (.d (.list es))
  | agg (xs ys : List AV) (hl : xs.length = ys.length) (h : ∀ (i : Nat) (x y : AV), xs[i]? = some x → ys[i]? = some y → Fz H l x y) : Fz H l (.agg xs) (.agg ys)
  | tup (xs ys : List AV) (hl : xs.length = ys.length) (h : ∀ (i : Nat) (x y : AV), xs[i]? = some x → ys[i]? = some y → Fz H l x y) : Fz H l (.tup xs) (.tup ys)

def finQ (P : Program) (fn : Func) (l : Nat) (H : Hp) (Post : AV → Hp → Prop) : Exit → St → Prop := fun e σ =>
  (e = .normal ∨ e = .ret) ∧ resA P σ fn.results.toList (fun xs => ∃ y, Fz σ.H l (tupA xs) y ∧ Post y (mrg l σ.H H))

section
variable {P : Program} {l n : Nat} {B : Base} {H H' : Hp} {m m' : Mu} {S S' : Nat → Prop} {w w' : World} {s : Nat → AV} {a : Act} {K : St → Prop} {o : Oper} {σ : St} {Q : Exit → St → Prop}

theorem mrg_of {l : Nat} {H' H : Hp} (h : ∀ k : Key, k.1 ≤ l → H' k = H k) : mrg l H' H = H := by
  funext k
  unfold mrg
  split
  · exact h k ‹_›
  · rfl

theorem load_of_at {t : TypeId} {v v' : Value} (h : (Instr.loadAt t v).run P w = .ok v' w) : (do loadVar t (← asAddr v) : Sem Value).run P w = .ok v' w := by
  cases v <;> try (simp [Instr.loadAt, Instr.sureAddr] at h; done)
  rename_i p
  cases p with
  | none => simp [Instr.loadAt, Instr.sureAddr] at h
  | some a => simpa [Instr.loadAt, Instr.sureAddr, asAddr] using h

def resF (tmps : Array Value) : ResultVar → Sem Value
  | .tmp t => pure (tmps.getD t undef)
  | .cell p t => do loadVar t (← asAddr (tmps.getD p undef))

theorem resA_sound (hO : Ok (l + 1) H m S w) (hS : Slots (l + 1) s H m S a w) : ∀ (rs : List ResultVar) (K : List AV → Prop), resA P ⟨s, H⟩ rs K →
    ∃ (vs : List Value) (xs : List AV), (rs.mapM (resF a.tmps)).run P w = .ok vs w ∧ xs.length = vs.length ∧
      (∀ (i : Nat) (x : AV) (v : Value), xs[i]? = some x → vs[i]? = some v → RepA w S H m (l + 1) x v) ∧ K xs
  | [], K, h => ⟨[], [], by simp, rfl, fun i x v h => by simp at h, h⟩
  | .tmp t :: rest, K, h => by
    obtain ⟨vs, xs, h1, h2, h3, h4⟩ := resA_sound hO hS rest _ h
    refine ⟨a.tmps.getD t undef :: vs, s t :: xs, by simp only [List.mapM_cons, resF, Sem.run_bind, Sem.run_pure, Result.andThen_ok, h1], by simp [h2], fun i x v hx hv => ?_, h4⟩
    cases i with
    | zero => simp at hx hv; subst hx; subst hv; simpa using hS t
    | succ i => exact h3 i x v (by simpa using hx) (by simpa using hv)
  | .cell p t :: rest, K, h => by
    obtain ⟨v0, x0, g1, g2, g3⟩ := vLoad_sound h (hS p) hO
    obtain ⟨vs, xs, h1, h2, h3, h4⟩ := resA_sound hO hS rest _ g3
    refine ⟨v0 :: vs, x0 :: xs, ?_, by simp [h2], fun i x v hx hv => ?_, h4⟩
    · have := load_of_at g1
      have e : (resF a.tmps (.cell p t)).run P w = .ok v0 w := this
      simp only [List.mapM_cons, Sem.run_bind, e, Sem.run_pure, Result.andThen_ok, h1]
    · cases i with
      | zero => simp at hx hv; subst hx; subst hv; exact g2
      | succ i => exact h3 i x v (by simpa using hx) (by simpa using hv)

/-- the frozen blocks behind the call: what was frozen, and all that the call made -/
def froze (l : Nat) (H : Hp) (m : Mu) (S : Nat → Prop) : Nat → Prop := fun b => S b ∨ ∃ k : Key, k.1 = l + 1 ∧ (H k).live = true ∧ (m k).cap ≠ 0 ∧ b = (m k).b

theorem Ok.fin (h : Ok (l + 1) H m S w) : Ok l H m (froze l H m S) w ∧ Ext l H m S w H m (froze l H m S) w := by
  have hext : Ext (l + 1) H m S w H m (froze l H m S) w := ⟨fun _ h => .inl h, fun _ _ => rfl, fun _ _ => Nat.le_refl _, fun _ _ _ h => ⟨h, rfl, rfl⟩, rfl, rfl, rfl, Nat.le_refl _⟩
  refine ⟨⟨fun b hb => ?_, fun q hq => h.empty q (by omega), fun q hq hl hz => ?_, fun q q' hq hq' => h.inj q q' (by omega) (by omega), fun q hq hl hz => ?_⟩, hext.mono (by omega)⟩
  · rcases hb with hb | ⟨k, hk, hl, hz, rfl⟩
    · exact h.sub b hb
    · obtain ⟨C, hb, _⟩ := h.blk k (by omega) hl hz
      rcases Nat.lt_or_ge (m k).b w.heap.size with hlt | hge
      · exact hlt
      · rw [Array.getElem?_eq_none hge] at hb; cases hb
  · rintro (hs | ⟨k, hk, hl', hz', e⟩)
    · exact h.fresh q (by omega) hl hz hs
    · have := h.inj q k (by omega) (by omega) hl hl' hz hz' e
      rw [this] at hq
      omega
  · obtain ⟨C, hb, hs, hle, hx⟩ := h.blk q (by omega) hl hz
    exact ⟨C, hb, hs, hle, fun i x v hi hv => ⟨(hx i x v hi hv).1, (hx i x v hi hv).2.ext hext (by omega)⟩⟩

theorem Fz.sound {x y : AV} (h : Fz H l x y) (hO : Ok (l + 1) H m S w) : ∀ {v : Value}, RepA w S H m (l + 1) x v → RepA w (froze l H m S) H m l y v := by
  have hext : Ext (l + 1) H m S w H m (froze l H m S) w := ⟨fun _ h => .inl h, fun _ _ => rfl, fun _ _ => Nat.le_refl _, fun _ _ _ h => ⟨h, rfl, rfl⟩, rfl, rfl, rfl, Nat.le_refl _⟩
  induction h with
  | keep x h => exact fun hx => (hx.ext hext (Nat.le_refl _)).low h
  | e0 =>
    intro v hx
    cases hx with
    | e0 oa => exact (RepA.e0 oa).e0_d
  | ref k off n es hk hl hn hz he hlen h ih =>
    intro v hx
    generalize hg : (H k).g = g at hx
    cases hx with
    | refD _ _ _ _ _ hk' hg' hd h1 => rw [hd hg.symm] at hl; cases hl
    | refL _ _ _ oa hk' hl' hcap ha =>
      by_cases hn0 : n = 0
      · subst hn0
        have : es = [] := List.eq_nil_of_length_eq_zero hn
        subst this
        cases oa with
        | none =>
          have e : (m k).cap - off = 0 := by
            rcases Nat.lt_or_ge off (m k).cap with h | h
            · have := ha h; cases this
            · omega
          rw [e]
          exact .d _ _ .nil
        | some ad => exact .d _ _ (.list [] ad 0 _ (fun _ _ => .bool true) (fun h => absurd rfl h) (Nat.zero_le _) (fun _ h => by cases h) (fun i j e x h => by simp at h) (fun i j e x h => by simp at h))
      · have hoa := ha (by omega)
        subst hoa
        obtain ⟨hcp, C, h1, h2, h3, h4⟩ := hO.row (k := k) (by omega) hl (by
          intro e
          rw [e, Nat.add_mul] at hlen
          have := Nat.mul_pos (show 0 < n by omega) (show 0 < (H k).sz by omega)
          simp at hlen
          omega)
        have idx : ∀ (i j : Nat) (e : List D) (d : D), es[i]? = some e → e[j]? = some d → (off + i) * (H k).sz + j < (H k).cells.length := by
          intro i j e d hi hj
          have hil : i < n := by
            rw [← hn]
            rcases Nat.lt_or_ge i es.length with h | h
            · exact h
            · rw [List.getElem?_eq_none h] at hi; cases hi
          have hjl : j < (H k).sz := by
            rw [← he e (List.mem_of_getElem? hi)]
            rcases Nat.lt_or_ge j e.length with h | h
            · exact h
            · rw [List.getElem?_eq_none h] at hj; cases hj
          have : (off + i + 1) * (H k).sz ≤ (off + n) * (H k).sz := Nat.mul_le_mul_right _ (by omega)
          rw [Nat.add_mul (off + i)] at this
          omega
        have := RepD.list (w := w) (S := froze l H m S) es ⟨(m k).b, (m k).o + off * (H k).sz, none⟩ (H k).sz ((m k).cap - off) (fun i j => (C[(m k).o + ((off + i) * (H k).sz + j)]?).getD undef)
          (fun _ => .inr ⟨k, hk, hl, hcp, rfl⟩) (by omega) he
          (fun i j e d hi hj => by
            obtain ⟨v, e1, _, _⟩ := h4 _ _ (List.getElem?_eq_getElem (idx i j e d hi hj))
            rw [Addr.add_lit, cell_row h1, e1]
            rw [show (m k).o + off * (H k).sz + (i * (H k).sz + j) = (m k).o + ((off + i) * (H k).sz + j) from by rw [Nat.add_mul]; omega, e1]
            rfl)
          (fun i j e d hi hj => by
            obtain ⟨v, e1, e2, e3⟩ := h4 _ _ (List.getElem?_eq_getElem (idx i j e d hi hj))
            rw [e1]
            have := ih i j e d _ hi hj (List.getElem?_eq_getElem (idx i j e d hi hj)) e3
            cases this with
            | d _ _ hd => exact hd)
        rw [hn] at this
        exact .d _ _ this
  | agg xs ys hl h ih =>
    intro v hx
    cases hx with
    | agg _ vs hl' h1 hc =>
      refine .agg _ _ (by omega) h1 (fun i y v hy hv => ?_)
      have hlt : i < xs.length := by
        rw [hl]
        rcases Nat.lt_or_ge i ys.length with h | h
        · exact h
        · rw [List.getElem?_eq_none h] at hy; cases hy
      exact ih i _ y (List.getElem?_eq_getElem hlt) hy (hc i _ v (List.getElem?_eq_getElem hlt) hv)
  | tup xs ys hl h ih =>
    intro v hx
    cases hx with
    | tup _ vs hl' hc =>
      refine .tup _ _ (by omega) (fun i y v hy hv => ?_)
      have hlt : i < xs.length := by
        rw [hl]
        rcases Nat.lt_or_ge i ys.length with h | h
        · exact h
        · rw [List.getElem?_eq_none h] at hy; cases hy
      exact ih i _ y (List.getElem?_eq_getElem hlt) hy (hc i _ v (List.getElem?_eq_getElem hlt) hv)

theorem results_sound {fn : Func} {KK : List AV → Prop} (hO : Ok (l + 1) H m S w) (hS : Slots (l + 1) s H m S a w) (h : resA P ⟨s, H⟩ fn.results.toList KK) :
    ∃ v xs, (results fn a.tmps).run P w = .ok v w ∧ RepA w S H m (l + 1) (tupA xs) v ∧ KK xs := by
  obtain ⟨vs, xs, h1, h2, h3, h4⟩ := resA_sound hO hS _ _ h
  have hr : ∀ f : ResultVar → Sem Value, (∀ r, f r = resF a.tmps r) → (fn.results.mapM f).run P w = .ok vs.toArray w := by
    intro f hf
    have : f = resF a.tmps := funext hf
    subst this
    rw [Array.mapM_eq_mapM_toList]
    simp [h1]
  refine ⟨if h : vs.toArray.size = 1 then vs.toArray[0] else .tuple vs.toArray, xs, ?_, ?_, h4⟩
  · unfold results
    simp only [Sem.run_bind]
    rw [hr _ (fun r => by cases r <;> rfl)]
    simp
  · match xs, vs, h2, h3 with
    | [x], [v], _, h3 => exact h3 0 x v rfl rfl
    | [], [], _, _ => exact .tup _ _ rfl (fun i x v h => by simp [tupA] at h)
    | x :: x' :: xs, v :: v' :: vs, h2, h3 =>
      have e : ¬ ((v :: v' :: vs).toArray.size = 1) := by simp
      rw [dif_neg e]
      exact .tup _ _ (by simpa using h2) (fun i x v hx hv => h3 i x v hx (by simpa using hv))

/-- A FUNCTION's CONTRACT, out of its body's walk. -/
theorem acall_of {P : Program} {f : FuncId} {fn : Func} {c : Code} {n l : Nat} {xs : List AV} {H : Hp} {Post : AV → Hp → Prop} (hf : P.funcs[f]? = some fn) (hb : fn.body = some c) (hname : (fn.name == "runtime.NumGoroutine") = false)
    (hn : fn.ntmps = n) (hx : xs.length ≤ n) (h : ∀ B : Base, AWp P l n B c (finQ P fn l H Post) ⟨args xs, clr l H⟩) : ACall P f l xs H Post := by
  refine ⟨⟨fn, c, hf, hb, hname⟩, fun m S w vs hO hargs => ?_⟩
  have hclr : ∀ k : Key, k.1 ≤ l → clr l H k = H k := fun k hk => by unfold clr; rw [if_pos hk]
  have hdead : ∀ k : Key, ¬ k.1 ≤ l → (clr l H k).live = false := fun k hk => by unfold clr; rw [if_neg hk]
  have hlv : ∀ k : Key, (clr l H k).live = true → k.1 ≤ l := fun k hl => by
    by_cases hk : k.1 ≤ l
    · exact hk
    · rw [hdead k hk] at hl; cases hl
  have hO' : Ok (l + 1) (clr l H) m S w := by
    refine ⟨hO.sub, fun q hq hl hz => ?_, fun q hq hl hz => ?_, fun q q' hq hq' hl hl' hz hz' heq => ?_, fun q hq hl hz => ?_⟩
    · have := hlv q hl; rw [hclr q this] at hl ⊢; exact hO.empty q this hl hz
    · have := hlv q hl; rw [hclr q this] at hl; exact hO.fresh q this hl hz
    · have e := hlv q hl
      have e' := hlv q' hl'
      rw [hclr q e] at hl; rw [hclr q' e'] at hl'
      exact hO.inj q q' e e' hl hl' hz hz' heq
    · have e := hlv q hl
      rw [hclr q e] at hl ⊢
      obtain ⟨C, h1, h2, h3, h4⟩ := hO.blk q e hl hz
      exact ⟨C, h1, h2, h3, fun i x v hi hv => ⟨(h4 i x v hi hv).1, (h4 i x v hi hv).2.agree (fun k hk => hclr k (by omega)) (fun _ _ => rfl)⟩⟩
  have hE : Ext l H m S w (clr l H) m S w := ⟨fun _ h => h, fun _ _ => rfl, fun k hk => by rw [hclr k hk]; exact Nat.le_refl _, fun k hk _ hl => by rw [hclr k hk] at hl ⊢; exact ⟨hl, rfl, rfl⟩, rfl, rfl, rfl, Nat.le_refl _⟩
  have hR : R l n ⟨H, m, S, w⟩ ⟨args xs, clr l H⟩ { tmps := vs ++ Array.replicate (fn.ntmps - vs.size) undef, defers := [] } w := by
    refine ⟨m, S, hO', by simp [hn]; rw [← hargs.1]; omega, rfl, fun i => ?_, hE⟩
    simp only [args]
    cases hi : xs[i]? with
    | none => exact .top _
    | some x =>
      have hlt : i < xs.length := by
        rcases Nat.lt_or_ge i xs.length with h | h
        · exact h
        · rw [List.getElem?_eq_none h] at hi; cases hi
      have hlt' : i < vs.size := by rw [← hargs.1]; exact hlt
      rw [Array.getD_eq_getD_getElem?, Array.getElem?_append_left hlt', Array.getElem?_eq_getElem hlt']
      exact ((hargs.2 i x _ hi (Array.getElem?_eq_getElem hlt')).agree (fun k hk => hclr k hk) (fun _ _ => rfl)).lvl (Nat.le_succ l)
  refine calls_of_wp hf hb (wp_mono (h ⟨H, m, S, w⟩ _ w hR) fun e a' w' ⟨σ', hq, hR'⟩ => ?_)
  obtain ⟨s', H'⟩ := σ'
  obtain ⟨m', S', hO'', hn', hd', hS', hex'⟩ := hR'.un
  have done : resA P ⟨s', H'⟩ fn.results.toList (fun xs => ∃ y, Fz H' l (tupA xs) y ∧ Post y (mrg l H' H)) → a'.defers = [] ∧ ∃ v, (results fn a'.tmps).run P w' = .ok v w' ∧
      (∃ r v_1 H'_1 m'_1 S'_1, Ending.returned v = .returned v_1 ∧ Post r H'_1 ∧ Ok l H'_1 m'_1 S'_1 w' ∧ RepA w' S'_1 H'_1 m'_1 l r v_1 ∧ Ext l H m S w H'_1 m'_1 S'_1 w') := by
    intro hr
    obtain ⟨v, xs, h1, h2, y, h3, h4⟩ := results_sound hO'' hS' hr
    obtain ⟨k1, k2⟩ := hO''.fin
    have hmrg : ∀ k : Key, k.1 ≤ l → mrg l H' H k = H' k := fun k hk => by unfold mrg; rw [if_pos hk]
    refine ⟨hd', v, h1, y, v, mrg l H' H, m', _, rfl, h4, ?_, (h3.sound hO'' h2).agree hmrg (fun _ _ => rfl), ?_⟩
    · refine ⟨k1.sub, fun q hq hl hz => ?_, fun q hq hl hz => ?_, fun q q' hq hq' hl hl' hz hz' heq => ?_, fun q hq hl hz => ?_⟩
      · rw [hmrg q hq] at hl ⊢; exact k1.empty q hq hl hz
      · rw [hmrg q hq] at hl; exact k1.fresh q hq hl hz
      · rw [hmrg q hq] at hl; rw [hmrg q' hq'] at hl'; exact k1.inj q q' hq hq' hl hl' hz hz' heq
      · rw [hmrg q hq] at hl ⊢
        obtain ⟨C, g1, g2, g3, g4⟩ := k1.blk q hq hl hz
        exact ⟨C, g1, g2, g3, fun i x v hi hv => ⟨(g4 i x v hi hv).1, (g4 i x v hi hv).2.agree (fun k hk => hmrg k (by omega)) (fun _ _ => rfl)⟩⟩
    · have h5 := Ext.trans (show Ext l H m S w H' m' S' w' from hex') k2
      exact ⟨h5.s, h5.blk, fun k hk => by rw [hmrg k hk]; exact h5.g k hk, fun k hk hg hl => by rw [hmrg k hk] at hg hl ⊢; exact h5.live k hk hg hl, h5.os, h5.tape, h5.output, h5.size⟩
  rcases hq.1 with rfl | rfl
  · exact done hq.2
  · exact done hq.2
end
end Go.Eng
