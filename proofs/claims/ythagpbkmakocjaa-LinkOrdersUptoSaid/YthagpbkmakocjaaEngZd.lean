/-
  A function's contract where blocks come in that it may write, or keys under which it hands out new blocks.
-/
import Derived.Test.YthagpbkmakocjaaEngZc
namespace Go.Eng
set_option linter.all false
open Go Go.RowKit

def kOf (l : Nat) (ks : List Key) : Key → Key
  | (0, i) => match nth ks i with | some k => k | none => (0, 0)
  | (_ + 1, d) => (l + 1, d)
def gOf (gs : List Nat) : Key → Nat
  | (0, i) => match nth gs i with | some g => g | none => 0
  | (_ + 1, _) => 0
/-- the frame's names for keys -/
def rOf (l : Nat) (ks : List Key) (gs : List Nat) (θ : Nat → AV) (H : Hp) : Ren := ⟨kOf l ks, gOf gs, θ, H, fun k => k ∈ ks⟩
/-- names for the keys that came in -/
def NmO (l : Nat) (ks : List Key) (gs : List Nat) (r : Ren) : Prop := r.κ = kOf l ks ∧ ∀ i, i < ks.length → r.γ (0, i) = gOf gs (0, i)
def renBs (r : Ren) : Nat → List Blk → List Blk
  | _, [] => []
  | i, b :: bs => renB r (0, i) b :: renBs r (i + 1) bs
/-- a heap, some blocks written -/
def updP (H : Hp) : List Key → List Blk → Hp
  | k :: ks, b :: bs => updP (updH H k b) ks bs
  | _, _ => H
theorem flat_renB {r : Ren} {k : Key} {g : Nat} {e : TypeId} {sz : Nat} {cs : List AV} (h : FlatC cs) : renB r k ⟨g, true, e, sz, cs⟩ = ⟨r.γ k + g, true, e, sz, cs⟩ := by
  simp only [renB, flatC_rens h]
theorem updP_other : ∀ (ks : List Key) (bs : List Blk) (H : Hp) (q : Key), q ∉ ks → updP H ks bs q = H q
  | [], bs, H, q, h => by cases bs <;> rfl
  | k :: ks, [], H, q, h => rfl
  | k :: ks, b :: bs, H, q, h => by
    simp only [updP]
    rw [updP_other ks bs _ q (fun hm => h (List.mem_cons_of_mem _ hm)), updH_ne _ _ (fun e => h (by rw [e]; exact List.mem_cons_self ..))]
theorem updP_at : ∀ (ks : List Key) (bs : List Blk) (H : Hp), ks.Nodup → ∀ (j : Nat) (k : Key) (b : Blk), ks[j]? = some k → bs[j]? = some b → updP H ks bs k = b
  | [], bs, H, _, j, k, b, h, _ => by simp at h
  | q :: ks, [], H, _, _, _, _, _, h => by simp at h
  | q :: ks, c :: bs, H, hn, j, k, b, hk, hb => by
    simp only [updP]
    rw [List.nodup_cons] at hn
    cases j with
    | zero =>
      simp only [List.getElem?_cons_zero, Option.some.injEq] at hk hb
      subst hk; subst hb
      rw [updP_other ks bs _ _ hn.1, updH_same]
    | succ j =>
      simp only [List.getElem?_cons_succ] at hk hb
      exact updP_at ks bs _ hn.2 j k b hk hb
theorem renBs_at {r : Ren} : ∀ (bs : List Blk) (i j : Nat), (renBs r i bs)[j]? = (bs[j]?).map (renB r (0, i + j))
  | [], i, j => by simp [renBs]
  | b :: bs, i, 0 => by simp [renBs]
  | b :: bs, i, j + 1 => by
    simp only [renBs, List.getElem?_cons_succ, renBs_at bs (i + 1) j, show i + 1 + j = i + (j + 1) from by omega]

/-- the contract: what comes out is known -/
theorem acall_outs {P : Program} {T : Nat → Option TI} {n : Nat} {f : FuncId} {fn : Func} (rs : List ResultVar) (c : Code) {l : Nat} {xs : List AV} {H : Hp} {Post : AV → Hp → Prop} (ks : List Key) (gs : List Nat) (fx : List Nat) (θ : Nat → AV) (ys : List AV) (hs : List (Key × Blk)) (Y : AV) (bs : List Blk) {Y' : AV} {bs' : List Blk}
    (hf : P.funcs[f]? = some fn) (hb : fn.body = some c) (hname : (fn.name == "runtime.NumGoroutine") = false) (hn : fn.ntmps = n) (hr : fn.results.toList = rs) (hx : xs.length ≤ n) (hT : TOk P T)
    (hks : ∀ k ∈ ks, k.1 ≤ l) (hnd : ks.Nodup) (hfx : ∀ i, i < ks.length → i ∈ fx) (hh : ∀ d, lkH hs (1, d) = dead) (hlv : ∀ k, (lkH hs k).live = true → k.1 = 0 ∧ k.2 < ks.length)
    (hH : ∀ i k, ks[i]? = some k → (H k).g = gOf gs (0, i) + (lkH hs (0, i)).g ∧ ((lkH hs (0, i)).live = true → H k = renB (rOf l ks gs θ H) (0, i) (lkH hs (0, i))))
    (hxs : rens (rOf l ks gs θ H) ys = xs) (hbl : bs.length = ks.length) (hbv : ∀ b ∈ bs, b.live = true) (hY : ∀ r, NmO l ks gs r → ren r Y = Y') (hB : ∀ r, NmO l ks gs r → renBs r 0 bs = bs')
    (h : ∀ C, CxOk C → C.outs = ks.length → C.fx = fx → C.l = l → C.H0 = H → C.θ = θ → C.κ = kOf l ks → C.no = (fun k => k ∈ ks) → LW P n C c (mkS (zipS 0 ys) hs) (FQ T rs ks.length (fun y b => y = Y ∧ b = bs)))
    (hp : Post Y' (updP H ks bs')) : ACall P f l xs H Post := by
  let C : Base → Cx := fun B => ⟨l, B, kOf l ks, θ, H, ks.length, fun k => k ∈ ks, fx, fun γ => ∀ i ∈ fx, γ (0, i) = gOf gs (0, i)⟩
  have hkO : ∀ i, i < ks.length → ks[i]? = some (kOf l ks (0, i)) := fun i hi => by
    show _ = some (match nth ks i with | some k => k | none => (0, 0))
    rw [nth_eq, List.getElem?_eq_getElem hi]
  have hlt : ∀ (i : Nat) (k : Key), ks[i]? = some k → i < ks.length := fun i k hi => by
    rcases Nat.lt_or_ge i ks.length with h | h
    · exact h
    · rw [List.getElem?_eq_none h] at hi; cases hi
  have hC : ∀ B, CxOk (C B) := fun B => by
    refine ⟨fun _ => rfl, fun i hi => hks _ (List.mem_of_getElem? (hkO i hi)), fun i j hi hj e => ?_, fun k hk => ?_, fun γ γ' he hg i hi => by rw [he i hi]; exact hg i hi⟩
    · have h1 := hkO i hi
      have h2 := hkO j hj
      rw [show kOf l ks (0, i) = kOf l ks (0, j) from e] at h1
      have h3 : ks[i]? = ks[j]? := h1.trans h2.symm
      exact (List.getElem?_inj hi hnd).1 h3
    · obtain ⟨i, hi⟩ := List.mem_iff_getElem?.1 (show k ∈ ks from hk)
      refine ⟨i, hlt i k hi, ?_⟩
      have := hkO i (hlt i k hi)
      rw [hi] at this
      simp only [Option.some.injEq] at this
      exact this.symm
  refine acall_lw rs C (γ := gOf gs) (LPost := fun y b => y = Y ∧ b = bs) (ys := ys) (hs := hs) hf hb hname hn hr hx hT hC (fun B => ⟨rfl, rfl, rfl, fun i _ => rfl⟩) (fun B => hxs) (fun _ => rfl) hh (fun B k hk => ?_) (fun B i hi => ?_) (fun B γ y b H' hg hy ho _ => ?_) (fun B => h _ (hC B) rfl rfl rfl rfl rfl rfl rfl)
  · obtain ⟨h1, h2⟩ := hlv k hk
    obtain ⟨k1, k2⟩ := k
    simp only at h1 h2
    subst h1
    exact ⟨rfl, h2, (hH k2 _ (hkO k2 h2)).2 hk⟩
  · exact (hH i _ (hkO i hi)).1
  · obtain ⟨rfl, rfl⟩ := hy
    have hnm : NmO l ks gs ((C B).r γ) := ⟨rfl, fun i hi => hg i (hfx i hi)⟩
    have e1 := hB _ hnm
    have e2 : H' = updP H ks bs' := by
      funext q
      by_cases hq : q ∈ ks
      · obtain ⟨i, hi⟩ := List.mem_iff_getElem?.1 hq
        have hi' := hlt i q hi
        have hb' : b[i]? = some b[i] := List.getElem?_eq_getElem (by omega)
        have h1 := ho.live i _ hb' (hbv _ (List.mem_of_getElem? hb'))
        have h2 : kOf l ks (0, i) = q := by
          have := hkO i hi'
          rw [hi] at this
          simp only [Option.some.injEq] at this
          exact this.symm
        rw [show (C B).κ (0, i) = q from h2] at h1
        rw [h1, updP_at ks bs' H hnd i q (renB ((C B).r γ) (0, i) b[i]) hi]
        rw [← e1, renBs_at, hb', Nat.zero_add]
        rfl
      · rw [updP_other ks bs' H q hq]
        exact ho.o q hq
    rw [e2, hY _ hnm]
    exact hp

/-! ### At a call -/
section
variable {P : Program} {l : Nat} {r : Ren} {f : FuncId} {xs xs' : List AV} {hb hb2 : List (Key × Blk)} {x x' : AV}
theorem callH_of (h1 : rens r xs = xs') (h2 : ren r x = x') (h : ∀ H', (∀ p ∈ hb, (H' (r.κ p.1)).g = r.γ p.1 + p.2.g ∧ (p.2.live = true → H' (r.κ p.1) = renB r p.1 p.2)) → (∀ k : Key, k.1 ≤ l → ¬ r.no k → H' k = r.H0 k) → ACall P f (l + 1) xs' H' (fun y H'' => y = x' ∧ H'' = putHs r hb2 H')) :
    CallH P l r f xs hb x hb2 [] := fun H' hb ho => by
  rw [h1]
  exact (h H' hb ho).mono fun y H'' ⟨e1, e2⟩ => ⟨r.γ, fun _ _ => rfl, by rw [e1, ← h2], e2⟩
end
theorem lowS_vec {α : Type} {e : α → List D} {r : Ren} {k : Key} (xs : List α) : LowS r k (vecC e xs) := by
  unfold LowS
  rw [flatC_rens (flatC_vec e xs)]
  refine List.all_eq_true.2 fun x hx => ?_
  obtain ⟨d, _, rfl⟩ := List.mem_map.1 hx
  rfl
theorem lowS_of {r : Ren} {k : Key} {vs : List AV} (h : (rens r vs).all (AV.low (r.κ k).1) = true) : LowS r k vs := h
theorem lowS_d {r : Ren} {k : Key} (ds : List D) : LowS r k (ds.map .d) := by
  unfold LowS
  rw [rens_d]
  refine List.all_eq_true.2 fun x hx => ?_
  obtain ⟨d, _, rfl⟩ := List.mem_map.1 hx
  rfl
theorem flatC'_vec {α : Type} (e : α → List D) (xs : List α) : FlatC' (vecC e xs) := fun x hx => by
  obtain ⟨d, _, rfl⟩ := List.mem_map.1 hx; rfl
theorem clrS_vec {α : Type} {e : α → List D} {xs : List α} {off cn sz : Nat} {z : List AV} (hl : ∀ x, (e x).length = sz) (h : off + cn ≤ xs.length) :
    ClrS (vecC e xs) off cn sz z ((vecC e xs).take (off * sz) ++ (List.replicate cn z).flatten ++ (vecC e xs).drop ((off + cn) * sz)) := by
  refine ⟨?_, rfl⟩
  rw [vecC_len hl]
  exact Nat.mul_le_mul_right _ h
theorem trim_clr {α : Type} {e : α → List D} {xs : List α} {off sz : Nat} {A B : List AV} (hl : ∀ x, (e x).length = sz) (h : off ≤ xs.length) : ∃ m, ((vecC e xs).take (off * sz) ++ A ++ B).take m = vecC e (xs.take off) := by
  refine ⟨off * sz, ?_⟩
  have h1 : ((vecC e xs).take (off * sz)).length = off * sz := by
    rw [List.length_take, vecC_len hl]
    exact Nat.min_eq_left (Nat.mul_le_mul_right _ h)
  rw [List.append_assoc, List.take_append_of_le_length (by omega), List.take_of_length_le (by omega), vecC_take hl]
/-- blocks that came in, told one by one -/
def hsIn (n : Nat) : List (Key × Blk) → Bool
  | [] => true
  | (k, _) :: r => Nat.beq k.1 0 && Nat.ble (k.2 + 1) n && hsIn n r
theorem hsIn_lv {n : Nat} : ∀ {hs : List (Key × Blk)}, hsIn n hs = true → ∀ k, (lkH hs k).live = true → k.1 = 0 ∧ k.2 < n
  | [], _, k, h => by simp [lkH, dead] at h
  | (q, b) :: r, hi, k, h => by
    simp only [hsIn, Bool.and_eq_true] at hi
    simp only [lkH] at h
    split at h
    · rename_i hq
      have hq := keyB_eq.1 hq
      subst hq
      exact ⟨Nat.eq_of_beq_eq_true hi.1.1, Nat.le_of_ble_eq_true hi.1.2⟩
    · exact hsIn_lv hi.2 k h
theorem hsIn_dead {n : Nat} : ∀ {hs : List (Key × Blk)}, hsIn n hs = true → ∀ d, lkH hs (1, d) = dead
  | [], _, d => rfl
  | (q, b) :: r, hi, d => by
    simp only [hsIn, Bool.and_eq_true] at hi
    simp only [lkH]
    split
    · rename_i hq
      have hq := keyB_eq.1 hq
      subst hq
      have := Nat.eq_of_beq_eq_true hi.1.1
      simp at this
    · exact hsIn_dead hi.2 d
def HOk (H : Hp) (r : Ren) (hs : List (Key × Blk)) : Nat → List Key → Prop
  | _, [] => True
  | i, k :: ks => ((H k).g = r.γ (0, i) + (lkH hs (0, i)).g ∧ ((lkH hs (0, i)).live = true → H k = renB r (0, i) (lkH hs (0, i)))) ∧ HOk H r hs (i + 1) ks
theorem HOk_at {H : Hp} {r : Ren} {hs : List (Key × Blk)} : ∀ {ks : List Key} {i : Nat}, HOk H r hs i ks → ∀ j k, ks[j]? = some k → (H k).g = r.γ (0, i + j) + (lkH hs (0, i + j)).g ∧ ((lkH hs (0, i + j)).live = true → H k = renB r (0, i + j) (lkH hs (0, i + j)))
  | [], i, _, j, k, h => by simp at h
  | q :: ks, i, h, 0, k, hk => by
    simp only [List.getElem?_cons_zero, Option.some.injEq] at hk
    subst hk
    exact h.1
  | q :: ks, i, h, j + 1, k, hk => by
    have := HOk_at h.2 j k (by simpa using hk)
    rw [show i + 1 + j = i + (j + 1) from by omega] at this
    exact this
def lowK (l : Nat) : List Key → Prop
  | [] => True
  | k :: ks => k.1 ≤ l ∧ lowK l ks
theorem lowK_at {l : Nat} : ∀ {ks : List Key}, lowK l ks → ∀ k ∈ ks, k.1 ≤ l
  | q :: ks, h, k, hk => by
    rcases List.mem_cons.1 hk with rfl | hk
    · exact h.1
    · exact lowK_at h.2 k hk
def upTo : Nat → List Nat
  | 0 => []
  | n + 1 => upTo n ++ [n]
theorem upTo_mem : ∀ {n i : Nat}, i < n → i ∈ upTo n
  | n + 1, i, h => by
    simp only [upTo, List.mem_append, List.mem_singleton]
    rcases Nat.lt_or_ge i n with h' | h'
    · exact .inl (upTo_mem h')
    · exact .inr (by omega)
/-- the contract, for a program to write -/
theorem acall_outs' {P : Program} {T : Nat → Option TI} {n : Nat} {f : FuncId} {fn : Func} (rs : List ResultVar) (c : Code) {l : Nat} {xs : List AV} {H : Hp} {Post : AV → Hp → Prop} (ks : List Key) (gs : List Nat) (os : Nat) (θ : Nat → AV) (ys : List AV) (hs : List (Key × Blk)) (Y : AV) (bs : List Blk) {Y' : AV} {bs' : List Blk}
    (hf : P.funcs[f]? = some fn) (hb : fn.body = some c) (hname : (fn.name == "runtime.NumGoroutine") = false) (hn : fn.ntmps = n) (hr : fn.results.toList = rs) (hx : xs.length ≤ n) (hT : TOk P T) (hos : ks.length = os)
    (hks : lowK l ks) (hnd : ks.Nodup) (hin : hsIn os hs = true) (hH : HOk H (rOf l ks gs θ H) hs 0 ks) (hxs : rens (rOf l ks gs θ H) ys = xs) (hbl : bs.length = os) (hbv : ∀ b ∈ bs, b.live = true) (hY : ∀ r, NmO l ks gs r → ren r Y = Y') (hB : ∀ r, NmO l ks gs r → renBs r 0 bs = bs')
    (h : ∀ C, CxOk C → C.outs = os → C.fx = upTo os → C.l = l → C.H0 = H → C.θ = θ → C.κ = kOf l ks → C.no = (fun k => k ∈ ks) → LW P n C c (mkS (zipS 0 ys) hs) (FQ T rs os (fun y b => y = Y ∧ b = bs)))
    (hp : Post Y' (updP H ks bs')) : ACall P f l xs H Post := by
  subst hos
  exact acall_outs rs c ks gs (upTo ks.length) θ ys hs Y bs hf hb hname hn hr hx hT (lowK_at hks) hnd (fun i hi => upTo_mem hi) (hsIn_dead hin) (hsIn_lv hin) (fun i k hk => by have := HOk_at hH i k hk; rw [Nat.zero_add] at this; exact this) hxs hbl hbv hY hB h hp
theorem cellsAt_hx {α : Type} {e e' : α → List D} {xs : List α} {j sz : Nat} {x : α} (hx : xs[j]? = some x) (hl : ∀ x, (e x).length = sz) (he : ∀ x, e x = e' x) : CellsAt (vecC e xs) (j * sz) ((e' x).map .d) := by
  have hj : j < xs.length := by
    rcases Nat.lt_or_ge j xs.length with h | h
    · exact h
    · rw [List.getElem?_eq_none h] at hx; cases hx
  have := cellsAt_vec (z := x) hj hl he
  rw [List.getD_eq_getElem?_getD, hx] at this
  exact this
theorem clo_fwd {P : Program} {l l1 : Nat} {no no1 : Key → Prop} {H H1 : Hp} {c : AV} {as : List AV} {y : AV} (h : CloP P l no H c as y) (hl : l ≤ l1) (hno : ∀ q : Key, q.1 ≤ l → ¬ no q → ¬ no1 q) (hH : ∀ q : Key, q.1 ≤ l → ¬ no q → H1 q = H q) : CloP P l1 no1 H1 c as y := by
  obtain ⟨f, first, caps, e, h⟩ := h
  exact ⟨f, first, caps, e, fun l' H' hl' ho => h l' H' (Nat.le_trans hl hl') fun k hk hn => by rw [ho k (Nat.le_trans hk hl) (hno k hk hn), hH k hk hn]⟩
def condOp : Code → Operand
  | .cond o _ _ => o
  | _ => .tmp 0
theorem LW_cond' {P : Program} {n : Nat} {C : Cx} {τ : St} {Q : Exit → St → Prop} {c : Code} (x y : Code) (b : Bool) (hc : c = .cond (condOp c) x y) (he : ev τ.s (condOp c) = .d (.bool b)) (h1 : b = true → LW P n C x τ Q) (h2 : b = false → LW P n C y τ Q) : LW P n C c τ Q := by
  rw [hc]
  exact LW_cond he h1 h2
def callD (c : Code) (k : Nat) : Option Nat := match callAt c k with | some (d, _, _) => d | none => none
def callF (c : Code) (k : Nat) : Operand := match callAt c k with | some (_, f, _) => f | none => .tmp 0
def callX (c : Code) (k : Nat) : List Operand := match callAt c k with | some (_, _, xs) => xs | none => []
/-- a call that writes, for a program to write -/
theorem LO_call' {P : Program} {n : Nat} {C : Cx} {Q : Exit → St → Prop} (hC : CxOk C) {os : Nat} {fx : List Nat} (hO : C.outs = os) (hF : C.fx = fx) {c : Code} {k : Nat} {ss : List (Nat × AV)} {hs : List (Key × Blk)}
    (f : FuncId) (first caps xs : List AV) (hop : callAt c k = some (callD c k, callF c k, callX c k)) (hf : ev (lkS ss) (callF c k) = .fn (.func f) first caps) (hxs : first ++ (callX c k).map (ev (lkS ss)) ++ caps = xs) (ks : List Key) (hb : List (Key × Blk)) (hhb : (ks.map fun k => (k, lkH hs k)) = hb)
    (x : AV) (hb2 : List (Key × Blk)) (fr fl : List Key) (hok : (okHb os hb2 && subK fr hb2 && apartK fr fx && gens0 hs && dstOk n (callD c k) && ks.all (okK os)) = true) (hwr : wrL C hb2) (hfl : flL (lkH hs) fl)
    (hcall : ∀ r : Ren, r.θ = C.θ → r.H0 = C.H0 → r.κ = C.κ → r.no = C.no → CallH P C.l r f xs hb x hb2 fr)
    (h : LO P n C c (k + 1) (mkS (dstS (callD c k) x (dropS fr ss)) (hb2 ++ dropH (hb2.map (·.1)) fr fl hs)) Q) : LO P n C c k (mkS ss hs) Q :=
  LO_call hC hO hF _ _ _ hop f first caps xs hf hxs ks hb hhb x hb2 fr fl hok hwr hfl hcall h
theorem nil_of {α : Type} {e : α → List D} {xs : List α} {b v : Bool} (h : xs.map e ≠ [] → b = v) (hb : b = !v) : xs = [] := by
  cases xs with
  | nil => rfl
  | cons x xs =>
    have := h (by simp)
    rw [this] at hb
    cases v <;> cases hb
end Go.Eng
