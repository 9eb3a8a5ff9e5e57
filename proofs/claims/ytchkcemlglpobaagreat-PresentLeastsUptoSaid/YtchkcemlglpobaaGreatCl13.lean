import Derived.Test.YtchkcemlglpobaaGreatCl12
import Derived.Shelf.Spec.SlicesGrow
import Derived.Test.YtchkcemlglpobaaGreatCl00
namespace Go.Eng
set_option linter.all false
open Go Go.RowKit
def kOf (l : Nat) (ks : List Key) : Key → Key
 | (0, i) => match nth ks i with | some k => k | none => (0, 0)
 | (_ + 1, d) => (l + 1, d)
def gOf (gs : List Nat) : Key → Nat
 | (0, i) => match nth gs i with | some g => g | none => 0
 | (_ + 1, _) => 0
def rOf (l : Nat) (ks : List Key) (gs : List Nat) (θ : Nat → AV) (H : Hp) : Ren := ⟨kOf l ks, gOf gs, θ, H, fun k => k ∈ ks⟩
def NmO (l : Nat) (ks : List Key) (gs : List Nat) (r : Ren) : Prop := r.κ = kOf l ks ∧ ∀ i, i < ks.length → r.γ (0, i) = gOf gs (0, i)
def Zda (r : Ren) : Nat → List Blk → List Blk
 | _, [] => []
 | i, b :: bs => ZaZ r (0, i) b :: Zda r (i + 1) bs
def ZiQ (H : Hp) : List Key → List Blk → Hp
 | k :: ks, b :: bs => ZiQ (updH H k b) ks bs
 | _, _ => H
theorem Zi6 {r : Ren} {k : Key} {g : Nat} {e : TypeId} {sz : Nat} {cs : List AV} (h : ZfG cs) : ZaZ r k ⟨g, true, e, sz, cs⟩ = ⟨r.γ k + g, true, e, sz, cs⟩ := by
 simp only [ZaZ, Zb1 h]
theorem ZeT : ∀ (ks : List Key) (bs : List Blk) (H : Hp) (q : Key), q ∉ ks → ZiQ H ks bs q = H q
 | [], bs, H, q, h => by cases bs <;> rfl
 | k :: ks, [], H, q, h => rfl
 | k :: ks, b :: bs, H, q, h => by
  simp only [ZiQ]
  rw [ZeT ks bs _ q (fun hm => h (Yq _ hm)), Zac _ _ (fun e => h (by rw [e]; exact Yw ..))]
theorem ZmN : ∀ (ks : List Key) (bs : List Blk) (H : Hp), ks.Nodup → ∀ (j : Nat) (k : Key) (b : Blk), ks[j]? = some k → bs[j]? = some b → ZiQ H ks bs k = b
 | [], bs, H, _, j, k, b, h, _ => by simp at h
 | q :: ks, [], H, _, _, _, _, _, h => by simp at h
 | q :: ks, c :: bs, H, hn, j, k, b, hk, hb => by
  simp only [ZiQ]
  rw [Ybd] at hn
  cases j with
  | zero =>
   simp only [YG, Ye] at hk hb
   subst hk; subst hb
   rw [ZeT ks bs _ _ hn.1, Zab]
  | succ j =>
   simp only [YY] at hk hb
   exact ZmN ks bs _ hn.2 j k b hk hb
theorem Zkp {r : Ren} : ∀ (bs : List Blk) (i j : Nat), (Zda r i bs)[j]? = (bs[j]?).map (ZaZ r (0, i + j))
 | [], i, j => by simp [Zda]
 | b :: bs, i, 0 => by simp [Zda]
 | b :: bs, i, j + 1 => by
  simp only [Zda, YY, Zkp bs (i + 1) j, show i + 1 + j = i + (j + 1) from by omega]
theorem Zgp {P : Program} {T : Nat → Option TI} {n : Nat} {f : FuncId} {fn : Func} (rs : List ResultVar) (c : Code) {l : Nat} {xs : List AV} {H : Hp} {Post : AV → Hp → Prop} (ks : List Key) (gs : List Nat) (fx : List Nat) (θ : Nat → AV) (ys : List AV) (hs : List (Key × Blk)) (LPost : AV → List Blk → Prop)
  (hf : P.funcs[f]? = some fn) (hb : fn.body = some c) (hname : (fn.name == "runtime.NumGoroutine") = false) (hn : fn.ntmps = n) (hr : fn.results.toList = rs) (hx : xs.length ≤ n) (hT : TOk P T)
  (hks : ∀ k ∈ ks, k.1 ≤ l) (hnd : ks.Nodup) (hh : ∀ d, lkH hs (1, d) = ZlH) (hlv : ∀ k, (lkH hs k).live = true → k.1 = 0 ∧ k.2 < ks.length)
  (hH : ∀ i k, ks[i]? = some k → (H k).g = gOf gs (0, i) + (lkH hs (0, i)).g ∧ ((lkH hs (0, i)).live = true → H k = ZaZ (rOf l ks gs θ H) (0, i) (lkH hs (0, i))))
  (hxs : Zan (rOf l ks gs θ H) ys = xs)
  (h : ∀ C, CxOk C → C.outs = ks.length → C.fx = fx → C.l = l → C.H0 = H → C.θ = θ → C.κ = kOf l ks → C.no = (fun k => k ∈ ks) → LW P n C c (mkS (Zjn 0 ys) hs) (FQ T rs ks.length LPost))
  (hp : ∀ y b, LPost y b → b.length = ks.length ∧ (∀ x ∈ b, x.live = true) ∧ ∀ r : Ren, r.κ = kOf l ks → r.θ = θ → r.H0 = H → r.no = (fun k => k ∈ ks) → (∀ i ∈ fx, r.γ (0, i) = gOf gs (0, i)) → Post (ren r y) (ZiQ H ks (Zda r 0 b))) : ZbY P f l xs H Post := by
 let C : Base → Cx := fun B => ⟨l, B, kOf l ks, θ, H, ks.length, fun k => k ∈ ks, fx, fun γ => ∀ i ∈ fx, γ (0, i) = gOf gs (0, i)⟩
 have hkO : ∀ i, i < ks.length → ks[i]? = some (kOf l ks (0, i)) := fun i hi => by
  show _ = some (match nth ks i with | some k => k | none => (0, 0))
  rw [Zby, Yb hi]
 have hlt : ∀ (i : Nat) (k : Key), ks[i]? = some k → i < ks.length := fun i k hi => by
  grind
 have hC : ∀ B, CxOk (C B) := fun B => by
  refine ⟨fun _ => rfl, fun i hi => hks _ (Yj (hkO i hi)), fun i j hi hj e => ?_, fun k hk => ?_, fun γ γ' he hg i hi => by rw [he i hi]; exact hg i hi⟩
  ·have h1 := hkO i hi
   have h2 := hkO j hj
   rw [show kOf l ks (0, i) = kOf l ks (0, j) from e] at h1
   have h3 : ks[i]? = ks[j]? := h1.trans h2.symm
   exact (List.getElem?_inj hi hnd).1 h3
  ·obtain ⟨i, hi⟩ := YF.1 (show k ∈ ks from hk)
   grind
 refine ZkK rs C (γ := gOf gs) (LPost := LPost) (ys := ys) (hs := hs) hf hb hname hn hr hx hT hC (fun B => ⟨rfl, rfl, rfl, fun i _ => rfl⟩) (fun B => hxs) (fun _ => rfl) hh (fun B k hk => ?_) (fun B i hi => ?_) (fun B γ y b H' hg hy ho _ => ?_) (fun B => h _ (hC B) rfl rfl rfl rfl rfl rfl rfl)
 ·obtain ⟨h1, h2⟩ := hlv k hk
  obtain ⟨k1, k2⟩ := k
  simp only at h1 h2
  subst h1
  exact ⟨rfl, h2, (hH k2 _ (hkO k2 h2)).2 hk⟩
 ·grind
 ·obtain ⟨hbl, hbv, hp⟩ := hp y b hy
  have hp := hp ((C B).r γ) rfl rfl rfl rfl fun i hi => hg i hi
  have e2 : H' = ZiQ H ks (Zda ((C B).r γ) 0 b) := by
   funext q
   by_cases hq : q ∈ ks
   ·obtain ⟨i, hi⟩ := YF.1 hq
    have hi' := hlt i q hi
    have hb' : b[i]? = some b[i] := Yb (by omega)
    have h1 := ho.live i _ hb' (hbv _ (Yj hb'))
    have h2 : kOf l ks (0, i) = q := by
     grind
    rw [show (C B).κ (0, i) = q from h2] at h1
    rw [h1, ZmN ks _ H hnd i q (ZaZ ((C B).r γ) (0, i) b[i]) hi]
    rw [Zkp, hb', Yz]
    rfl
   ·rw [ZeT ks _ H q hq]
    exact ho.o q hq
  rw [e2]; exact hp
theorem ZjJ {P : Program} {T : Nat → Option TI} {n : Nat} {f : FuncId} {fn : Func} (rs : List ResultVar) (c : Code) {l : Nat} {xs : List AV} {H : Hp} {Post : AV → Hp → Prop} (ks : List Key) (gs : List Nat) (fx : List Nat) (θ : Nat → AV) (ys : List AV) (hs : List (Key × Blk)) (LPost : AV → List Blk → Prop)
  (hf : P.funcs[f]? = some fn) (hb : fn.body = some c) (hname : (fn.name == "runtime.NumGoroutine") = false) (hn : fn.ntmps = n) (hr : fn.results.toList = rs) (hx : xs.length ≤ n) (hT : TOk P T)
  (hks : ∀ k ∈ ks, k.1 ≤ l) (hnd : ks.Nodup) (hfx : ∀ i, i < ks.length → i ∈ fx) (hh : ∀ d, lkH hs (1, d) = ZlH) (hlv : ∀ k, (lkH hs k).live = true → k.1 = 0 ∧ k.2 < ks.length)
  (hH : ∀ i k, ks[i]? = some k → (H k).g = gOf gs (0, i) + (lkH hs (0, i)).g ∧ ((lkH hs (0, i)).live = true → H k = ZaZ (rOf l ks gs θ H) (0, i) (lkH hs (0, i))))
  (hxs : Zan (rOf l ks gs θ H) ys = xs)
  (h : ∀ C, CxOk C → C.outs = ks.length → C.fx = fx → C.l = l → C.H0 = H → C.θ = θ → C.κ = kOf l ks → C.no = (fun k => k ∈ ks) → LW P n C c (mkS (Zjn 0 ys) hs) (FQ T rs ks.length LPost))
  (hp : ∀ y b, LPost y b → b.length = ks.length ∧ (∀ x ∈ b, x.live = true) ∧ ∃ Y' bs', (∀ r, NmO l ks gs r → ren r y = Y') ∧ (∀ r, NmO l ks gs r → Zda r 0 b = bs') ∧ Post Y' (ZiQ H ks bs')) : ZbY P f l xs H Post := by
 refine Zgp rs c ks gs fx θ ys hs LPost hf hb hname hn hr hx hT hks hnd hh hlv hH hxs h fun y b hy => ?_
 obtain ⟨hbl, hbv, Y', bs', hY, hB, hp⟩ := hp y b hy
 refine ⟨hbl, hbv, fun r h1 _ _ _ h5 => ?_⟩
 have hnm : NmO l ks gs r := ⟨h1, fun i hi => h5 i (hfx i hi)⟩
 rw [hY _ hnm, hB _ hnm]; exact hp
theorem Zl4 {P : Program} {T : Nat → Option TI} {n : Nat} {f : FuncId} {fn : Func} (rs : List ResultVar) (c : Code) {l : Nat} {xs : List AV} {H : Hp} {Post : AV → Hp → Prop} (ks : List Key) (gs : List Nat) (fx : List Nat) (θ : Nat → AV) (ys : List AV) (hs : List (Key × Blk)) (Y : AV) (bs : List Blk) {Y' : AV} {bs' : List Blk}
  (hf : P.funcs[f]? = some fn) (hb : fn.body = some c) (hname : (fn.name == "runtime.NumGoroutine") = false) (hn : fn.ntmps = n) (hr : fn.results.toList = rs) (hx : xs.length ≤ n) (hT : TOk P T)
  (hks : ∀ k ∈ ks, k.1 ≤ l) (hnd : ks.Nodup) (hfx : ∀ i, i < ks.length → i ∈ fx) (hh : ∀ d, lkH hs (1, d) = ZlH) (hlv : ∀ k, (lkH hs k).live = true → k.1 = 0 ∧ k.2 < ks.length)
  (hH : ∀ i k, ks[i]? = some k → (H k).g = gOf gs (0, i) + (lkH hs (0, i)).g ∧ ((lkH hs (0, i)).live = true → H k = ZaZ (rOf l ks gs θ H) (0, i) (lkH hs (0, i))))
  (hxs : Zan (rOf l ks gs θ H) ys = xs) (hbl : bs.length = ks.length) (hbv : ∀ b ∈ bs, b.live = true) (hY : ∀ r, NmO l ks gs r → ren r Y = Y') (hB : ∀ r, NmO l ks gs r → Zda r 0 bs = bs')
  (h : ∀ C, CxOk C → C.outs = ks.length → C.fx = fx → C.l = l → C.H0 = H → C.θ = θ → C.κ = kOf l ks → C.no = (fun k => k ∈ ks) → LW P n C c (mkS (Zjn 0 ys) hs) (FQ T rs ks.length (fun y b => y = Y ∧ b = bs)))
  (hp : Post Y' (ZiQ H ks bs')) : ZbY P f l xs H Post := by
 exact ZjJ rs c ks gs fx θ ys hs (fun y b => y = Y ∧ b = bs) hf hb hname hn hr hx hT hks hnd hfx hh hlv hH hxs h fun y b ⟨e1, e2⟩ => by subst e1; subst e2; exact ⟨hbl, hbv, Y', bs', hY, hB, hp⟩
section
variable {P : Program} {l : Nat} {r : Ren} {f : FuncId} {xs xs' : List AV} {hb hb2 : List (Key × Blk)} {x x' : AV}
theorem ZtN (h1 : Zan r xs = xs') (h2 : ren r x = x') (h : ∀ H', (∀ p ∈ hb, (H' (r.κ p.1)).g = r.γ p.1 + p.2.g ∧ (p.2.live = true → H' (r.κ p.1) = ZaZ r p.1 p.2)) → (∀ k : Key, k.1 ≤ l → ¬ r.no k → H' k = r.H0 k) → ZbY P f (l + 1) xs' H' (fun y H'' => y = x' ∧ H'' = ZdN r hb2 H')) :
  ZhJ P l r f xs hb x hb2 [] := fun H' hb ho => by
 rw [h1]
 exact (h H' hb ho).mono fun y H'' ⟨e1, e2⟩ => ⟨r.γ, fun _ _ => rfl, by rw [e1, ← h2], e2⟩
end
theorem ZkS {α : Type} {e : α → List D} {r : Ren} {k : Key} (xs : List α) : Zmy r k (Zad e xs) := by
 unfold Zmy
 rw [Zb1 (Zag e xs)]
 refine Yh.2 fun x hx => ?_
 obtain ⟨d, _, rfl⟩ := Yy.1 hx
 rfl
theorem ZpH {r : Ren} {k : Key} {vs : List AV} (h : (Zan r vs).all (AV.low (r.κ k).1) = true) : Zmy r k vs := h
theorem Zwu {r : Ren} {k : Key} (ds : List D) : Zmy r k (ds.map .d) := by
 unfold Zmy
 rw [Zez]
 refine Yh.2 fun x hx => ?_
 obtain ⟨d, _, rfl⟩ := Yy.1 hx
 rfl
theorem ZgJ {α : Type} (e : α → List D) (xs : List α) : Zd0 (Zad e xs) := fun x hx => by
 obtain ⟨d, _, rfl⟩ := Yy.1 hx; rfl
theorem Zs9 {α : Type} {e : α → List D} {xs : List α} {off cn sz : Nat} {z : List AV} (hl : ∀ x, (e x).length = sz) (h : off + cn ≤ xs.length) :
  ZIX (Zad e xs) off cn sz z ((Zad e xs).take (off * sz) ++ (List.replicate cn z).flatten ++ (Zad e xs).drop ((off + cn) * sz)) := by
 refine ⟨?_, rfl⟩
 rw [Zd7 hl]
 exact YJ _ h
theorem ZsN {α : Type} {e : α → List D} {xs : List α} {off sz : Nat} {A B : List AV} (hl : ∀ x, (e x).length = sz) (h : off ≤ xs.length) : ∃ m, ((Zad e xs).take (off * sz) ++ A ++ B).take m = Zad e (xs.take off) := by
 refine ⟨off * sz, ?_⟩
 have h1 : ((Zad e xs).take (off * sz)).length = off * sz := by
  rw [YU, Zd7 hl]
  exact Yaq (YJ _ h)
 rw [YW, List.take_append_of_le_length (by omega), Yas (by omega), Zgn hl]
def ZvH (n : Nat) : List (Key × Blk) → Bool
 | [] => true
 | (k, _) :: r => Nat.beq k.1 0 && Nat.ble (k.2 + 1) n && ZvH n r
theorem ZjI {n : Nat} : ∀ {hs : List (Key × Blk)}, ZvH n hs = true → ∀ k, (lkH hs k).live = true → k.1 = 0 ∧ k.2 < n
 | [], _, k, h => by simp [lkH, ZlH] at h
 | (q, b) :: r, hi, k, h => by
  simp only [ZvH, Bool.and_eq_true] at hi
  simp only [lkH] at h
  split at h
  ·rename_i hq
   have hq := ZaM.1 hq
   subst hq
   exact ⟨Ya hi.1.1, Yc hi.1.2⟩
  ·exact ZjI hi.2 k h
theorem ZfZ {n : Nat} : ∀ {hs : List (Key × Blk)}, ZvH n hs = true → ∀ d, lkH hs (1, d) = ZlH
 | [], _, d => rfl
 | (q, b) :: r, hi, d => by
  simp only [ZvH, Bool.and_eq_true] at hi
  simp only [lkH]
  split
  ·rename_i hq
   have hq := ZaM.1 hq
   subst hq
   have := Ya hi.1.1
   grind
  ·exact ZfZ hi.2 d
def HOk (H : Hp) (r : Ren) (hs : List (Key × Blk)) : Nat → List Key → Prop
 | _, [] => True
 | i, k :: ks => ((H k).g = r.γ (0, i) + (lkH hs (0, i)).g ∧ ((lkH hs (0, i)).live = true → H k = ZaZ r (0, i) (lkH hs (0, i)))) ∧ HOk H r hs (i + 1) ks
theorem Zpv {H : Hp} {r : Ren} {hs : List (Key × Blk)} : ∀ {ks : List Key} {i : Nat}, HOk H r hs i ks → ∀ j k, ks[j]? = some k → (H k).g = r.γ (0, i + j) + (lkH hs (0, i + j)).g ∧ ((lkH hs (0, i + j)).live = true → H k = ZaZ r (0, i + j) (lkH hs (0, i + j)))
 | [], i, _, j, k, h => by simp at h
 | q :: ks, i, h, 0, k, hk => by
  simp only [YG, Ye] at hk
  subst hk
  exact h.1
 | q :: ks, i, h, j + 1, k, hk => by
  have := Zpv h.2 j k (by simpa using hk)
  grind
def ZuD (l : Nat) : List Key → Prop
 | [] => True
 | k :: ks => k.1 ≤ l ∧ ZuD l ks
theorem Zhg {l : Nat} : ∀ {ks : List Key}, ZuD l ks → ∀ k ∈ ks, k.1 ≤ l
 | q :: ks, h, k, hk => by
  rcases Ys.1 hk with rfl | hk
  ·exact h.1
  ·exact Zhg h.2 k hk
def ZuO : Nat → List Nat
 | 0 => []
 | n + 1 => ZuO n ++ [n]
theorem Zft : ∀ {n i : Nat}, i < n → i ∈ ZuO n
 | n + 1, i, h => by
  simp only [ZuO, Yai, Y3]
  rcases Yo i n with h' | h'
  ·exact .inl (Zft h')
  grind
theorem Zkc {P : Program} {T : Nat → Option TI} {n : Nat} {f : FuncId} {fn : Func} (rs : List ResultVar) (c : Code) {l : Nat} {xs : List AV} {H : Hp} {Post : AV → Hp → Prop} (ks : List Key) (gs : List Nat) (os : Nat) (θ : Nat → AV) (ys : List AV) (hs : List (Key × Blk)) (Y : AV) (bs : List Blk) {Y' : AV} {bs' : List Blk}
  (hf : P.funcs[f]? = some fn) (hb : fn.body = some c) (hname : (fn.name == "runtime.NumGoroutine") = false) (hn : fn.ntmps = n) (hr : fn.results.toList = rs) (hx : xs.length ≤ n) (hT : TOk P T) (hos : ks.length = os)
  (hks : ZuD l ks) (hnd : ks.Nodup) (hin : ZvH os hs = true) (hH : HOk H (rOf l ks gs θ H) hs 0 ks) (hxs : Zan (rOf l ks gs θ H) ys = xs) (hbl : bs.length = os) (hbv : ∀ b ∈ bs, b.live = true) (hY : ∀ r, NmO l ks gs r → ren r Y = Y') (hB : ∀ r, NmO l ks gs r → Zda r 0 bs = bs')
  (h : ∀ C, CxOk C → C.outs = os → C.fx = ZuO os → C.l = l → C.H0 = H → C.θ = θ → C.κ = kOf l ks → C.no = (fun k => k ∈ ks) → LW P n C c (mkS (Zjn 0 ys) hs) (FQ T rs os (fun y b => y = Y ∧ b = bs)))
  (hp : Post Y' (ZiQ H ks bs')) : ZbY P f l xs H Post := by
 subst hos
 exact Zl4 rs c ks gs (ZuO ks.length) θ ys hs Y bs hf hb hname hn hr hx hT (Zhg hks) hnd (fun i hi => Zft hi) (ZfZ hin) (ZjI hin) (fun i k hk => by have := Zpv hH i k hk; rw [Yz] at this; exact this) hxs hbl hbv hY hB h hp
theorem ZlP {α : Type} {e e' : α → List D} {xs : List α} {j sz : Nat} {x : α} (hx : xs[j]? = some x) (hl : ∀ x, (e x).length = sz) (he : ∀ x, e x = e' x) : ZcM (Zad e xs) (j * sz) ((e' x).map .d) := by
 have hj : j < xs.length := by
  grind
 have := Zgf (z := x) hj hl he
 grind
theorem Zx0 {P : Program} {l l1 : Nat} {no no1 : Key → Prop} {H H1 : Hp} {c : AV} {aZ : List AV} {y : AV} (h : Zil P l no H c aZ y) (hl : l ≤ l1) (hno : ∀ q : Key, q.1 ≤ l → ¬ no q → ¬ no1 q) (hH : ∀ q : Key, q.1 ≤ l → ¬ no q → H1 q = H q) : Zil P l1 no1 H1 c aZ y := by
 obtain ⟨f, first, caps, e, h⟩ := h
 exact ⟨f, first, caps, e, fun l' H' hl' ho => h l' H' (Y9 hl hl') fun k hk hn => by rw [ho k (Y9 hk hl) (hno k hk hn), hH k hk hn]⟩
def ZEC : Code → Operand
 | .cond o _ _ => o
 | _ => .tmp 0
def Zfn (c : Code) (k : Nat) : Option Nat := match Zek c k with | some (d, _, _) => d | none => none
def callF (c : Code) (k : Nat) : Operand := match Zek c k with | some (_, f, _) => f | none => .tmp 0
def Zgx (c : Code) (k : Nat) : List Operand := match Zek c k with | some (_, _, xs) => xs | none => []
theorem Zkm {P : Program} {n : Nat} {C : Cx} {Q : Exit → St → Prop} (hC : CxOk C) {os : Nat} {fx : List Nat} (hO : C.outs = os) (hF : C.fx = fx) {c : Code} {k : Nat} {ss : List (Nat × AV)} {hs : List (Key × Blk)}
  (f : FuncId) (first caps xs : List AV) (hop : Zek c k = some (Zfn c k, callF c k, Zgx c k)) (hf : ev (lkS ss) (callF c k) = .fn (.func f) first caps) (hxs : first ++ (Zgx c k).map (ev (lkS ss)) ++ caps = xs) (ks : List Key) (hb : List (Key × Blk)) (hhb : (ks.map fun k => (k, lkH hs k)) = hb)
  (x : AV) (hb2 : List (Key × Blk)) (fr fl : List Key) (hok : (Zjd os hb2 && ZA5 fr hb2 && Zhd fr fx && ZhW hs && Zme n (Zfn c k) && ks.all (okK os)) = true) (hwr : wrL C hb2) (hfl : flL (lkH hs) fl)
  (hcall : ∀ r : Ren, r.θ = C.θ → r.H0 = C.H0 → r.κ = C.κ → r.no = C.no → ZhJ P C.l r f xs hb x hb2 fr)
  (h : LO P n C c (k + 1) (mkS (ZrM (Zfn c k) x (Zes fr ss)) (hb2 ++ Zdx (hb2.map (·.1)) fr fl hs)) Q) : LO P n C c k (mkS ss hs) Q :=
 Zyz hC hO hF _ _ _ hop f first caps xs hf hxs ks hb hhb x hb2 fr fl hok hwr hfl hcall h
end Go.Eng
namespace Go.Eng
open Go
set_option linter.all false
end Go.Eng
namespace Go.Eng
set_option linter.all false
open Go Go.RowKit Go.Shelf
theorem Zrj {i : Int} {len sz : Nat} (h0 : 0 ≤ i) (h : i < len) : ZA9 i len 0 sz (i.toNat * sz) := ⟨h0, h, by simp⟩
end Go.Eng
namespace Go.Eng
set_option linter.all false
theorem Zfo {α : Type} {l : List α} {p : α → Bool} : ((match l.findIdx? p with | some k => (k : Int) | none => -1) ≥ 0) ↔ l.any p = true := by
 rw [YH]
 cases h : l.findIdx? p with
 | none =>
  rw [Ya1] at h
  constructor
  ·intro e; exact absurd e (by decide)
  ·rintro ⟨x, hx, hp⟩; rw [h x hx] at hp; cases hp
 | some k =>
  obtain ⟨h1, h2, _⟩ := Yal.1 h
  exact ⟨fun _ => ⟨l[k], Yan h1, h2⟩, fun _ => Int.natCast_nonneg k⟩
theorem Ztm {α : Type} {e e' : α → List D} {xs : List α} {j sz : Nat} {y : α} (hj : j < xs.length) (hl : ∀ x, (e x).length = sz) (he : ∀ x, e x = e' x) : StS (Zad e xs) (j * sz) ((e' y).map .d) (Zad e (xs.set j y)) := by
 rw [← he]; exact ZAp hj hl
theorem ZiP {α : Type} {sz : Nat} {e e' : α → List D} {y : α} (C : List AV) (hl : ∀ x, (e x).length = sz) (he : ∀ x, e x = e' x) : Zry sz C (.d (.list [e' y])) 1 (Zad e [y]) := by
 rw [ZsL, he]; exact ZtK C (by rw [← he]; exact hl y)
theorem Zzp {α : Type} {e : α → List D} {z : α} {c : List AV} (hz : (e z).map .d = c) (m : Nat) : (List.replicate m c).flatten = Zad e (List.replicate m z) := by
 subst hz
 induction m with
 | zero => rfl
 | succ m ih => rw [YaO, Yab, ih, YaO, ZcS]
end Go.Eng
namespace Go.Eng
set_option linter.all false
open Go Go.RowKit
section
variable {P : Program} {T : Nat → Option TI} {n : Nat} {C : Cx} {τ : St} {Q : Exit → St → Prop}
theorem Zzx (hC : CxOk C) {os : Nat} {fx : List Nat} (hO : C.outs = os) (hF : C.fx = fx) {c : Code} (a : AT) (lf : Lf) (q : Ren → (St → Prop) → Prop)
  (hq : ∀ r Φ, Zdk r os a τ (fun τ _ => Zfk fx lf τ Φ) = q r Φ) (h : ∀ r, r.θ = C.θ → r.H0 = C.H0 → r.κ = C.κ → r.no = C.no → q r (fun τ' => LW P n C c τ' Q)) : LW P n C c τ Q := by
 subst hO
 subst hF
 intro γ σ hg hG
 have h1 := h (C.r γ) rfl rfl rfl rfl
 rw [← hq] at h1
 obtain ⟨τ₁, a₁, σ₁, h2, hG1, hw1⟩ := Zam (n := n) hC a h1 hG
 obtain ⟨γ', τ₄, σ₄, j0, j1, j2, j3⟩ := Zb2 (n := n) hC h2 hg hG1
 exact AWp.weak (j1 γ' σ₄ j0 j2) (hw1.trans j3)
end
theorem ZkH {s : ByteArray} {i : Int} (h0 : 0 ≤ i) (h : i < s.size) : Zwo s i ((s.data.toList.getD i.toNat 0).toNat : Int) := by
 have := Zp5 (s := s) (i := i.toNat) (by omega)
 rwa [Int.toNat_of_nonneg h0] at this
abbrev vL {α : Type} (e : α → List D) (xs : List α) : AV := .d (.list (xs.map e))
abbrev vS (s : ByteArray) : AV := .d (.str s)
abbrev vI (x : Int) : AV := .d (.int .i64 x)
abbrev vN (x : Nat) : AV := .d (.int .i64 (x : Int))
abbrev vB (x : Bool) : AV := .d (.bool x)
abbrev nl : Lf := ⟨[], [], [], []⟩
abbrev lf1 (ls : List Nat) : Lf := ⟨ls, [], [], []⟩
abbrev lf2 (ls : List Nat) (ks : List (Key × Bool)) : Lf := ⟨ls, ks, [], []⟩
class Rw (α : Type) where
 e : α → List D
 f : α → List D
 z : α
 s : Nat
 len : ∀ x, (e x).length = s
 ef : ∀ x, e x = f x
 s0 : s ≠ 0
instance : Rw ByteArray := ⟨ZaX, ZaX, ⟨#[]⟩, 1, fun _ => rfl, fun _ => rfl, by decide⟩
instance : Rw Int := ⟨Ze7, Ze7, 0, 1, fun _ => rfl, fun _ => rfl, by decide⟩
instance : Rw Bool := ⟨ZbH, ZbH, false, 1, fun _ => rfl, fun _ => rfl, by decide⟩
instance : Rw Raw := ⟨Zcg, Zcg, ZNg, 4, fun _ => rfl, fun _ => rfl, by decide⟩
instance : Rw Val := ⟨Zb7, Zay, ZBh, 7, fun _ => by rw [Zd2]; rfl, Zd2, by decide⟩
instance : Rw Pr := ⟨rPr, ePr, zPr, 14, fun _ => by rw [Zg1]; rfl, Zg1, by decide⟩
instance : Rw Slt := ⟨Zar, Zh8, ZMh, 8, fun _ => by rw [Zc7]; rfl, Zc7, by decide⟩
instance : Rw Nt := ⟨eNt, eNt, zNt, 8, fun _ => rfl, fun _ => rfl, by decide⟩
instance : Rw Fld := ⟨ZaH, ZaH, ZNj, 16, fun _ => rfl, fun _ => rfl, by decide⟩
instance : Rw Spn := ⟨Zdu, Zdu, ZMK, 2, fun _ => rfl, fun _ => rfl, by decide⟩
instance : Rw Msg := ⟨ZbG, ZbG, ZLU, 5, fun _ => rfl, fun _ => rfl, by decide⟩
instance : Rw Itm := ⟨ZrF, ZrF, ZMJ, 3, fun _ => rfl, fun _ => rfl, by decide⟩
instance : Rw Enm := ⟨Zca, Zca, ZNc, 5, fun _ => rfl, fun _ => rfl, by decide⟩
instance : Rw Mth := ⟨ZrN, ZrN, ZLT, 5, fun _ => rfl, fun _ => rfl, by decide⟩
instance : Rw Svc := ⟨ZcU, ZcU, ZMf, 3, fun _ => rfl, fun _ => rfl, by decide⟩
instance : Rw Prb := ⟨ZaA, ZaA, ZL7, 3, fun _ => rfl, fun _ => rfl, by decide⟩
inductive Lv (σ ξ ρ : Type) where
 | nx (v : σ)
 | ex (b : ξ)
 | rt (y : ρ)
structure En where
 l : Nat
 r : Ren
 Q : Exit → St → Prop
 P : AV → List Blk → Prop
structure Gd (C : Cx) (r : Ren) : Prop where
 θ : r.θ = C.θ
 H : r.H0 = C.H0
 κ : r.κ = C.κ
 no : r.no = C.no
structure COx (C : Cx) (os : Nat) (fx : List Nat) : Prop where
 ok : CxOk C
 O : C.outs = os
 F : C.fx = fx
 W : ∀ q, q < os → C.no (C.κ (0, q))
abbrev CO (C : Cx) (os : Nat) : Prop := COx C os (ZuO os)
def HL {β : Type} (L : β → Prop) (y : β) : Prop := L y
structure Ev (os : Nat) (β : Type) where
 E : En
 L : β → Prop
 C : Cx
 fx : List Nat
 co : COx C os fx
 g : Gd C E.r
 hl : E.l = C.l
structure PT (os : Nat) (β : Type) where
 a : AT
 q : En → Prop
 m : Option β
 n : Ev os β → Prop
 ok : ∀ E : Ev os β, n E → ∀ y, m = some y → HL E.L y → q E.E
section
variable {os : Nat} {β : Type}
structure Sp where
 w : AT → AT
 p : En → Prop
 c : Prop
 d : Decidable c
 ok : c → ∀ E, p E
structure Sz where
 w : AT → AT
 p : En → Prop
 ok : ∀ E, p E
theorem Zaw {c : Prop} [d : Decidable c] {m : Option β} {y : β} (h : (if c then m else none) = some y) : c ∧ m = some y := by
 grind
theorem bind_some {γ : Type} {m : Option γ} {k : γ → Option β} {y : β} (h : m.bind k = some y) : ∃ x, m = some x ∧ k x = some y := by
 cases m with
 | none => cases h
 | some x => exact ⟨x, rfl, h⟩
@[reducible] def vs (s : Sp) (k : PT os β) : PT os β := ⟨s.w k.a, fun E => s.p E ∧ k.q E, @ite _ s.c s.d k.m none, k.n, fun E hn y hm hL => by
 obtain ⟨h1, h2⟩ := @Zaw _ _ s.d _ _ hm
 exact ⟨s.ok h1 E.E, k.ok E hn y h2 hL⟩⟩
@[reducible] def vg (b : Bool) (s : Sp) (k : PT os β) : PT os β := ⟨s.w k.a, fun E => (b = true → s.p E) ∧ k.q E, @ite _ (b = true → s.c) (@instDecidableForall _ _ _ s.d) k.m none, k.n, fun E hn y hm hL => by
 obtain ⟨h1, h2⟩ := @Zaw _ _ (@instDecidableForall _ _ _ s.d) _ _ hm
 exact ⟨fun e => s.ok (h1 e) E.E, k.ok E hn y h2 hL⟩⟩
@[reducible] def vz (s : Sz) (k : PT os β) : PT os β := ⟨s.w k.a, fun E => s.p E ∧ k.q E, k.m, k.n, fun E hn y hm hL => ⟨s.ok E.E, k.ok E hn y hm hL⟩⟩
@[reducible] def vy (b : Bool) (s : Sz) (k : PT os β) : PT os β := ⟨s.w k.a, fun E => (b = true → s.p E) ∧ k.q E, k.m, k.n, fun E hn y hm hL => ⟨fun _ => s.ok E.E, k.ok E hn y hm hL⟩⟩
@[reducible] def v2 (s : Sp) (p1 p2 : En → Prop) (h : s.c → ∀ E, p1 E ∧ p2 E) (k : PT os β) : PT os β := ⟨s.w k.a, fun E => p1 E ∧ p2 E ∧ k.q E, @ite _ s.c s.d k.m none, k.n, fun E hn y hm hL => by
 obtain ⟨h1, h2⟩ := @Zaw _ _ s.d _ _ hm
 exact ⟨(h h1 E.E).1, (h h1 E.E).2, k.ok E hn y h2 hL⟩⟩
@[reducible] def vw (w : AT → AT) (k : PT os β) : PT os β := ⟨w k.a, k.q, k.m, k.n, k.ok⟩
@[reducible] def br (b : Bool) (t f : PT os β) : PT os β := ⟨.br t.a f.a, fun E => (b = true → t.q E) ∧ (b = false → f.q E), if b = true then t.m else f.m, fun E => t.n E ∧ f.n E, fun E hn y hm hL =>
 ⟨fun e => t.ok E hn.1 y (by rw [if_pos e] at hm; exact hm) hL, fun e => f.ok E hn.2 y (by rw [if_neg (by rw [e]; decide)] at hm; exact hm) hL⟩⟩
@[reducible] def bT (b : Bool) (t : PT os β) : PT os β := ⟨.one true t.a, fun E => (b = true → t.q E) ∧ (b = false → False), if b = true then t.m else none, t.n, fun E hn y hm hL => by
 obtain ⟨h, hm⟩ := Zaw hm
 exact ⟨fun _ => t.ok E hn y hm hL, fun e => absurd (h.symm.trans e) (by decide)⟩⟩
@[reducible] def bF (b : Bool) (f : PT os β) : PT os β := ⟨.one false f.a, fun E => (b = true → False) ∧ (b = false → f.q E), if b = false then f.m else none, f.n, fun E hn y hm hL => by
 obtain ⟨h, hm⟩ := Zaw hm
 exact ⟨fun e => absurd (e.symm.trans h) (by decide), fun _ => f.ok E hn y hm hL⟩⟩
@[reducible] def al {α : Type} (e : α → List D) (xs : List α) (neg : Bool) (k : Bool → PT os β) : PT os β := ⟨(k neg).a, fun E => ∀ b : Bool, (xs.map e ≠ [] → b = neg) → (k b).q E, (k neg).m,
 fun E => (∀ b, (k b).n E) ∧ ∀ b, xs = [] → (k b).m = (k neg).m, fun E hn y hm hL b hb => by
  by_cases h : xs = []
  ·exact (k b).ok E (hn.1 b) y ((hn.2 b h).trans hm) hL
  ·have : b = neg := hb (by intro h2; exact h (YaP.1 h2))
   subst this
   exact (k b).ok E (hn.1 b) y hm hL⟩
@[reducible] def lf (p : En → Prop) (y : β) : PT os β := ⟨.nil, p, some y, fun E => HL E.L y → p E.E, fun E hn z hm hL => hn (by cases hm; exact hL)⟩
@[reducible] def lc (s : St) (m : Option β) : PT os β := ⟨.nil, fun E => E.Q .normal s, m, fun E => ∀ y, m = some y → HL E.L y → E.E.Q .normal s, fun E hn y hm hL => hn y hm hL⟩
@[reducible] def lfe (c : Prop) [Decidable c] (p : En → Prop) (y : β) : PT os β := ⟨.nil, p, if c then some y else none, fun E => c → HL E.L y → p E.E, fun E hn z hm hL => by
 obtain ⟨h0, hm⟩ := Zaw hm
 cases hm
 exact hn h0 hL⟩
@[reducible] def lr (er : β → AV) (bs : β → List Blk) (y : β) : PT os β := lf (fun E => E.P (er y) (bs y)) y
section
variable {σ ξ ρ : Type}
@[reducible] def lrt (er : ρ → AV) (bs : ρ → List Blk) (y : ρ) : PT os (Lv σ ξ ρ) := lf (fun E => E.P (er y) (bs y)) (.rt y)
@[reducible] def ln (S : σ → St) (v : σ) : PT os (Lv σ ξ ρ) := lf (fun E => E.Q .normal (S v)) (.nx v)
@[reducible] def lxe (X : ξ → Nat × St) (b : ξ) : PT os (Lv σ ξ ρ) := lf (fun E => E.Q (.exit (X b).1) (X b).2) (.ex b)
end
section
variable {α : Type} [Rw α]
@[reducible] def ix (xs : List α) (i : Nat) (k : α → PT os β) : PT os β :=
 ⟨.ds (Rw.f (xs.getD i Rw.z)) (k (xs.getD i Rw.z)).a, fun E => Zv8 (xs.map Rw.e) ((i : Nat) : Int) (Rw.f (xs.getD i Rw.z)) ∧ (k (xs.getD i Rw.z)).q E, xs[i]?.bind fun x => (k x).m, fun E => ∀ x, (k x).n E, fun E hn y hm hL => by
  obtain ⟨x, h1, h2⟩ := bind_some hm
  have e : xs.getD i Rw.z = x := by rw [Yt, h1]; rfl
  rw [e]
  exact ⟨Zq1 h1 Rw.ef, (k x).ok E (hn x) y h2 hL⟩⟩
@[reducible] def ixi (xs : List α) (i : Int) (k : α → PT os β) : PT os β :=
 ⟨.ds (Rw.f (xs.getD i.toNat Rw.z)) (k (xs.getD i.toNat Rw.z)).a, fun E => Zv8 (xs.map Rw.e) i (Rw.f (xs.getD i.toNat Rw.z)) ∧ (k (xs.getD i.toNat Rw.z)).q E, if 0 ≤ i then xs[i.toNat]?.bind fun x => (k x).m else none, fun E => ∀ x, (k x).n E, fun E hn y hm hL => by
  obtain ⟨h0, hm⟩ := Zaw hm
  obtain ⟨x, h1, h2⟩ := bind_some hm
  have e : xs.getD i.toNat Rw.z = x := by rw [Yt, h1]; rfl
  have hlt := (List.getElem?_eq_some_iff.1 h1).1
  exact ⟨Zlv h0 (by omega) Rw.ef, by rw [e]; exact (k x).ok E (hn x) y h2 hL⟩⟩
@[reducible] def ixg (b : Bool) (xs : List α) (i : Int) (k : α → PT os β) : PT os β :=
 ⟨.ds (Rw.f (xs.getD i.toNat Rw.z)) (k (xs.getD i.toNat Rw.z)).a, fun E => (b = true → Zv8 (xs.map Rw.e) i (Rw.f (xs.getD i.toNat Rw.z))) ∧ (k (xs.getD i.toNat Rw.z)).q E, if (b = true → 0 ≤ i ∧ i < xs.length) then (k (xs.getD i.toNat Rw.z)).m else none, fun E => ∀ x, (k x).n E, fun E hn y hm hL => by
  obtain ⟨h0, hm⟩ := Zaw hm
  exact ⟨fun e => Zlv (h0 e).1 (h0 e).2 Rw.ef, (k _).ok E (hn _) y hm hL⟩⟩
@[reducible] def ca (xs : List α) (j : Nat) (k : α → PT os β) : PT os β :=
 ⟨.cs ((Rw.f (xs.getD j Rw.z)).map .d) (k (xs.getD j Rw.z)).a, fun E => ZcM (Zad Rw.e xs) (j * Rw.s α) ((Rw.f (xs.getD j Rw.z)).map .d) ∧ (k (xs.getD j Rw.z)).q E, xs[j]?.bind fun x => (k x).m, fun E => ∀ x, (k x).n E, fun E hn y hm hL => by
  obtain ⟨x, h1, h2⟩ := bind_some hm
  have e : xs.getD j Rw.z = x := by rw [Yt, h1]; rfl
  rw [e]
  exact ⟨ZlP h1 Rw.len Rw.ef, (k x).ok E (hn x) y h2 hL⟩⟩
@[reducible] def cag (b : Bool) (xs : List α) (j : Nat) (k : α → PT os β) : PT os β :=
 ⟨.cs ((Rw.f (xs.getD j Rw.z)).map .d) (k (xs.getD j Rw.z)).a, fun E => (b = true → ZcM (Zad Rw.e xs) (j * Rw.s α) ((Rw.f (xs.getD j Rw.z)).map .d)) ∧ (k (xs.getD j Rw.z)).q E, if (b = true → j < xs.length) then (k (xs.getD j Rw.z)).m else none, fun E => ∀ x, (k x).n E, fun E hn y hm hL => by
  obtain ⟨h0, hm⟩ := Zaw hm
  exact ⟨fun e => Zgf (h0 e) Rw.len Rw.ef, (k _).ok E (hn _) y hm hL⟩⟩
@[reducible] def st (xs : List α) (j : Nat) (y : α) : Sp := ⟨.cs (Zad Rw.e (xs.set j y)), fun _ => StS (Zad Rw.e xs) (j * Rw.s α) ((Rw.f y).map .d) (Zad Rw.e (xs.set j y)), j < xs.length, inferInstance, fun h _ => Ztm h Rw.len Rw.ef⟩
@[reducible] def eqL (xs : List α) : Sz := ⟨.num ((xs.length : Nat) : Int), fun _ => EqI ((xs.map (Rw.e (α := α))).length : Nat) ((xs.length : Nat) : Int), fun _ => Zxj _ _⟩
@[reducible] def fl (xs : List α) : Sz := ⟨id, fun _ => ZfG (Zad Rw.e xs), fun _ => Zag _ _⟩
@[reducible] def fz (xs : List α) : Sz := ⟨id, fun _ => FzR (Zad Rw.e xs) 0 xs.length (Rw.s α) (xs.map Rw.e), fun _ => ZnL _ Rw.s0 Rw.len⟩
@[reducible] def fr (xs : List α) : Sz := ⟨.av (.d (.list (xs.map Rw.e))), fun _ => FzR (Zad Rw.e xs) 0 xs.length (Rw.s α) (xs.map Rw.e), fun _ => ZnL _ Rw.s0 Rw.len⟩
@[reducible] def ap (xs : List α) (y : α) (k : PT os β) : PT os β := ⟨.nat 1 (.cs (Zad Rw.e [y]) (.cs (Zad Rw.e (xs ++ [y])) (.nat (xs ++ [y]).length k.a))),
 fun E => Zry (Rw.s α) [] (.d (.list [Rw.f y])) 1 (Zad Rw.e [y]) ∧ ZDg (Zad Rw.e xs) 0 xs.length 1 (Rw.s α) 256 (Zad Rw.e [y]) (Zad Rw.e (xs ++ [y])) (xs ++ [y]).length ∧ k.q E,
 if xs.length < 549755813887 then k.m else none, k.n, fun E hn z hm hL => by
  obtain ⟨h0, hm⟩ := Zaw hm
  exact ⟨ZiP _ Rw.len Rw.ef, Zih xs [y] Rw.len rfl rfl (by rw [List.length_singleton]; omega), k.ok E hn z hm hL⟩⟩
@[reducible] def aq (xs ys : List α) (k : PT os β) : PT os β := ⟨.nat ys.length (.cs (Zad Rw.e ys) (.cs (Zad Rw.e (xs ++ ys)) (.nat (xs ++ ys).length k.a))),
 fun E => Zry (Rw.s α) [] (.d (.list (ys.map Rw.e))) ys.length (Zad Rw.e ys) ∧ ZDg (Zad Rw.e xs) 0 xs.length ys.length (Rw.s α) 256 (Zad Rw.e ys) (Zad Rw.e (xs ++ ys)) (xs ++ ys).length ∧ k.q E,
 if xs.length + ys.length < 549755813888 then k.m else none, k.n, fun E hn z hm hL => by
  obtain ⟨h0, hm⟩ := Zaw hm
  exact ⟨ZiL _ _ Rw.len, Zih xs ys Rw.len rfl rfl (by omega), k.ok E hn z hm hL⟩⟩
@[reducible] def a1 (y : α) (k : PT os β) : PT os β := ⟨.nat 1 (.cs (Zad Rw.e [y]) k.a), fun E => Zry (Rw.s α) [] (.d (.list [Rw.f y])) 1 (Zad Rw.e [y]) ∧ ZD4 1 256 ∧ k.q E, k.m, k.n, fun E hn z hm hL => ⟨ZiP _ Rw.len Rw.ef, by unfold ZD4; decide, k.ok E hn z hm hL⟩⟩
@[reducible] def a0 (ys : List α) (k : PT os β) : PT os β := ⟨.nat ys.length (.cs (Zad Rw.e ys) k.a), fun E => Zry (Rw.s α) [] (.d (.list (ys.map Rw.e))) ys.length (Zad Rw.e ys) ∧ ZD4 ys.length 256 ∧ k.q E, if ys.length < 549755813888 then k.m else none, k.n, fun E hn z hm hL => by
  obtain ⟨h0, hm⟩ := Zaw hm
  exact ⟨ZiL _ _ Rw.len, by unfold ZD4; omega, k.ok E hn z hm hL⟩⟩
@[reducible] def ms (m : Nat) (z : α) (zc : List AV) (hz : (Rw.e z).map .d = zc) (k : PT os β) : PT os β := ⟨.nat (List.replicate m z).length (.cs (Zad Rw.e (List.replicate m z)) k.a),
 fun E => MkS ((m : Nat) : Int) ((m : Nat) : Int) 256 (List.replicate m z).length zc (Zad Rw.e (List.replicate m z)) ∧ k.q E, if m ≤ 549755813888 then k.m else none, k.n, fun E hn y hm hL => by
  obtain ⟨h0, hm⟩ := Zaw hm
  exact ⟨⟨by rw [Ybk], YaS _, by omega, by rw [Ybk]; exact Zzp hz m⟩, k.ok E hn y hm hL⟩⟩
@[reducible] def rn (j d n : Nat) (xs : List α) (k : PT os β) : PT os β := ⟨.reb j d xs.length (Zad Rw.e xs) k.a,
 fun E => (n = xs.length ∧ 0 * Rw.s α ≤ (Zad (Rw.e (α := α)) xs).length ∧ (Zad Rw.e xs).drop (0 * Rw.s α) = Zad Rw.e xs) ∧ k.q E, if n = xs.length then k.m else none, k.n, fun E hn y hm hL => by
  obtain ⟨h0, hm⟩ := Zaw hm
  exact ⟨⟨h0, by rw [Yay]; exact Y4 _, by rw [Yay]; rfl⟩, k.ok E hn y hm hL⟩⟩
end
@[reducible] def vwr (q : Nat) (vs : List AV) (low : ∀ r : Ren, Zmy r (0, q) vs) (k : PT os β) (hq : Nat.ble (q + 1) os = true := by kernel_rfl) : PT os β :=
 ⟨k.a, fun E => WrS E.r (0, q) ∧ Zmy E.r (0, q) vs ∧ k.q E, k.m, k.n, fun E hn y hm hL => ⟨⟨rfl, by rw [E.g.no, E.g.κ]; exact E.co.W q (Yc hq)⟩, low _, k.ok E hn y hm hL⟩⟩
inductive Bd
 | no
 | nt (n : Nat)
 | it (x : Int)
def Bd.ov : Bd → Option AV
 | .no => none
 | .nt n => some (.d (.int .i64 (n : Int)))
 | .it x => some (.d (.int .i64 x))
def Bd.vl (d : Nat) : Bd → Nat
 | .no => d
 | .nt n => n
 | .it x => x.toNat
def Bd.c : Bd → Prop
 | .it x => 0 ≤ x
 | _ => True
instance (b : Bd) : Decidable b.c := by cases b <;> unfold Bd.c <;> infer_instance
theorem Bd.ok {d : Nat} {b : Bd} (h : b.c) : SlB d b.ov (b.vl d) := by
 cases b with
 | no => rfl
 | nt n => rfl
 | it x => exact (Int.toNat_of_nonneg h).symm
@[reducible] def ss (s : ByteArray) (lo hi : Bd) (k : ByteArray → PT os β) : PT os β :=
 ⟨.nat (lo.vl 0) (.nat (hi.vl s.size) (k (s.extract (lo.vl 0) (hi.vl s.size))).a), fun E => SlB 0 lo.ov (lo.vl 0) ∧ SlB s.size hi.ov (hi.vl s.size) ∧ SlS (lo.vl 0) (hi.vl s.size) s.size ∧ (k (s.extract (lo.vl 0) (hi.vl s.size))).q E,
 if lo.c ∧ hi.c ∧ lo.vl 0 ≤ hi.vl s.size ∧ hi.vl s.size ≤ s.size then (k (s.extract (lo.vl 0) (hi.vl s.size))).m else none, fun E => ∀ x, (k x).n E, fun E hn y hm hL => by
  obtain ⟨h0, hm⟩ := Zaw hm
  exact ⟨Bd.ok h0.1, Bd.ok h0.2.1, h0.2.2, (k _).ok E (hn _) y hm hL⟩⟩
@[reducible] def ssg (b : Bool) (s : ByteArray) (lo hi : Bd) (k : ByteArray → PT os β) : PT os β :=
 ⟨.nat (lo.vl 0) (.nat (hi.vl s.size) (k (s.extract (lo.vl 0) (hi.vl s.size))).a), fun E => (b = true → SlB 0 lo.ov (lo.vl 0)) ∧ (b = true → SlB s.size hi.ov (hi.vl s.size)) ∧ (b = true → SlS (lo.vl 0) (hi.vl s.size) s.size) ∧ (k (s.extract (lo.vl 0) (hi.vl s.size))).q E,
 if (b = true → lo.c ∧ hi.c ∧ lo.vl 0 ≤ hi.vl s.size ∧ hi.vl s.size ≤ s.size) then (k (s.extract (lo.vl 0) (hi.vl s.size))).m else none, fun E => ∀ x, (k x).n E, fun E hn y hm hL => by
  obtain ⟨h0, hm⟩ := Zaw hm
  exact ⟨fun e => Bd.ok (h0 e).1, fun e => Bd.ok (h0 e).2.1, fun e => (h0 e).2.2, (k _).ok E (hn _) y hm hL⟩⟩
@[reducible] def sR (len off : Nat) (lo hi : Bd) (k : PT os β) : PT os β :=
 ⟨.nat (lo.vl 0) (.nat (hi.vl len) (.nat (off + lo.vl 0) (.nat (hi.vl len - lo.vl 0) k.a))), fun E => SlB 0 lo.ov (lo.vl 0) ∧ SlB len hi.ov (hi.vl len) ∧ SlS (lo.vl 0) (hi.vl len) len ∧ SlR off (lo.vl 0) (hi.vl len) (off + lo.vl 0) (hi.vl len - lo.vl 0) ∧ k.q E,
 if lo.c ∧ hi.c ∧ lo.vl 0 ≤ hi.vl len ∧ hi.vl len ≤ len then k.m else none, k.n, fun E hn y hm hL => by
  obtain ⟨h0, hm⟩ := Zaw hm
  exact ⟨Bd.ok h0.1, Bd.ok h0.2.1, h0.2.2, ⟨rfl, rfl⟩, k.ok E hn y hm hL⟩⟩
@[reducible] def eqN (n : Nat) : Sz := ⟨.num ((n : Nat) : Int), fun _ => EqI ((n : Nat) : Int) ((n : Nat) : Int), fun _ => rfl⟩
@[reducible] def wa (a b : Nat) : Sp := ⟨.num ((a + b : Nat) : Int), fun _ => ZcL .i64 (((a : Nat) : Int) + ((b : Nat) : Int)) ((a + b : Nat) : Int), a + b < 9223372036854775808, inferInstance, fun h _ => Zwk (by omega) (by omega) (by omega)⟩
@[reducible] def wi (x : Int) : Sp := ⟨.num x, fun _ => ZcL .i64 x x, -9223372036854775808 ≤ x ∧ x < 9223372036854775808, inferInstance, fun h _ => Zwk rfl h.1 h.2⟩
@[reducible] def wk (i : IntKind) (x : Int) : Sz := ⟨.num (i.wrap x), fun _ => ZcL i x (i.wrap x), fun _ => rfl⟩
@[reducible] def ir (i len sz : Nat) : Sp := ⟨.nat (i * sz), fun _ => ZA9 ((i : Nat) : Int) len 0 sz (i * sz), i < len, inferInstance, fun h _ => ZIP h⟩
@[reducible] def iri (i : Int) (len sz : Nat) : Sp := ⟨.nat (i.toNat * sz), fun _ => ZA9 i len 0 sz (i.toNat * sz), 0 ≤ i ∧ i < len, inferInstance, fun h _ => Zrj h.1 h.2⟩
@[reducible] def ib (s : ByteArray) (i : Nat) (k : UInt8 → PT os β) : PT os β :=
 ⟨.num ((s.data.toList.getD i 0).toNat : Nat) (k (s.data.toList.getD i 0)).a, fun E => Zwo s (i : Nat) ((s.data.toList.getD i 0).toNat : Nat) ∧ (k (s.data.toList.getD i 0)).q E, s.data.toList[i]?.bind fun x => (k x).m, fun E => ∀ x, (k x).n E, fun E hn y hm hL => by
  obtain ⟨x, h1, h2⟩ := bind_some hm
  have e : s.data.toList.getD i 0 = x := by rw [Yt, h1]; rfl
  have hlt := (List.getElem?_eq_some_iff.1 h1).1
  exact ⟨Zp5 (by simpa using hlt), by rw [e]; exact (k x).ok E (hn x) y h2 hL⟩⟩
@[reducible] def ibg (b : Bool) (s : ByteArray) (i : Int) (k : UInt8 → PT os β) : PT os β :=
 ⟨.num ((s.data.toList.getD i.toNat 0).toNat : Nat) (k (s.data.toList.getD i.toNat 0)).a, fun E => (b = true → Zwo s i ((s.data.toList.getD i.toNat 0).toNat : Nat)) ∧ (k (s.data.toList.getD i.toNat 0)).q E, if (b = true → 0 ≤ i ∧ i < s.size) then (k (s.data.toList.getD i.toNat 0)).m else none, fun E => ∀ x, (k x).n E, fun E hn y hm hL => by
  obtain ⟨h0, hm⟩ := Zaw hm
  exact ⟨fun e => ZkH (h0 e).1 (h0 e).2, (k _).ok E (hn _) y hm hL⟩⟩
@[reducible] def ibi (s : ByteArray) (i : Int) (k : UInt8 → PT os β) : PT os β :=
 ⟨.num ((s.data.toList.getD i.toNat 0).toNat : Nat) (k (s.data.toList.getD i.toNat 0)).a, fun E => Zwo s i ((s.data.toList.getD i.toNat 0).toNat : Nat) ∧ (k (s.data.toList.getD i.toNat 0)).q E, if 0 ≤ i ∧ i < s.size then (k (s.data.toList.getD i.toNat 0)).m else none, fun E => ∀ x, (k x).n E, fun E hn y hm hL => by
  obtain ⟨h0, hm⟩ := Zaw hm
  exact ⟨ZkH h0.1 h0.2, (k _).ok E (hn _) y hm hL⟩⟩
@[reducible] def ad (a b : ByteArray) (k : ByteArray → PT os β) : PT os β := ⟨(k (a ++ b)).a, fun E => ZLr a b ∧ (k (a ++ b)).q E, if a.size + b.size ≤ 9223372036854775807 then (k (a ++ b)).m else none, fun E => ∀ x, (k x).n E, fun E hn y hm hL => by
  obtain ⟨h0, hm⟩ := Zaw hm
  exact ⟨h0, (k _).ok E (hn _) y hm hL⟩⟩
def ZLb (k : IntKind) (x y : Int) : Int := x.fdiv (2 ^ (min y.toNat k.bits))
def ZKo (k : IntKind) (x y : Int) : Int := k.wrap (x * 2 ^ (min y.toNat k.bits))
def ZLc (k : IntKind) (x y : Int) : Int := k.wrap (x.tdiv y)
def ZBl (_ : IntKind) (x y : Int) : Int := x.tmod y
@[reducible] def shr (i : IntKind) (x y : Int) (k : PT os β) : PT os β := v2 ⟨.num (ZLb i x y), fun _ => True, 0 ≤ y, inferInstance, fun _ _ => trivial⟩ (fun _ => LeI 0 y) (fun _ => EqI (x.fdiv (2 ^ (min y.toNat i.bits))) (ZLb i x y)) (fun h _ => ⟨h, rfl⟩) k
@[reducible] def shl (i : IntKind) (x y : Int) (k : PT os β) : PT os β := v2 ⟨.num (ZKo i x y), fun _ => True, 0 ≤ y, inferInstance, fun _ _ => trivial⟩ (fun _ => LeI 0 y) (fun _ => ZcL i (x * 2 ^ (min y.toNat i.bits)) (ZKo i x y)) (fun h _ => ⟨h, rfl⟩) k
@[reducible] def quo (i : IntKind) (x y : Int) (k : PT os β) : PT os β := v2 ⟨.num (ZLc i x y), fun _ => True, y ≠ 0, inferInstance, fun _ _ => trivial⟩ (fun _ => NeI y 0) (fun _ => ZcL i (x.tdiv y) (ZLc i x y)) (fun h _ => ⟨h, rfl⟩) k
@[reducible] def rem (i : IntKind) (x y : Int) (k : PT os β) : PT os β := v2 ⟨.num (ZBl i x y), fun _ => True, y ≠ 0, inferInstance, fun _ _ => trivial⟩ (fun _ => NeI y 0) (fun _ => EqI (x.tmod y) (ZBl i x y)) (fun h _ => ⟨h, rfl⟩) k
structure KC (P : Program) (f : FuncId) (xs : List AV) {γ : Type} (M : Option γ) (e : γ → AV) : Prop where
 k : ∀ l H y, M = some y → ZbY P f l xs H (fun z H' => z = e y ∧ H' = H)
 x : ∀ r, Zan r xs = xs
 e : ∀ r y, ren r (e y) = e y
@[reducible] def cl {P : Program} {f : FuncId} {xs : List AV} {γ : Type} [Inhabited γ] {M : Option γ} {e : γ → AV} (K : KC P f xs M e) (k : γ → PT os β) : PT os β :=
 ⟨.call (e (M.getD default)) [] (k (M.getD default)).a, fun E => Zhs P E.l E.r f xs [] (e (M.getD default)) ∧ (k (M.getD default)).q E, M.bind fun y => (k y).m, fun E => ∀ y, (k y).n E, fun E hn y hm hL => by
  obtain ⟨x, h1, h2⟩ := bind_some hm
  have h3 : M.getD default = x := by rw [h1]; rfl
  rw [h3]
  exact ⟨fun H' _ _ => by rw [K.x, K.e]; exact K.k _ H' x h1, (k x).ok E (hn x) y h2 hL⟩⟩
@[reducible] def clg (b : Bool) {P : Program} {f : FuncId} {xs : List AV} {γ : Type} [Inhabited γ] {M : Option γ} {e : γ → AV} (K : KC P f xs M e) (k : γ → PT os β) : PT os β :=
 ⟨.call (e (M.getD default)) [] (k (M.getD default)).a, fun E => (b = true → Zhs P E.l E.r f xs [] (e (M.getD default))) ∧ (k (M.getD default)).q E, if (b = true → M.isSome = true) then (k (M.getD default)).m else none, fun E => ∀ y, (k y).n E, fun E hn y hm hL => by
  obtain ⟨h0, hm⟩ := Zaw hm
  refine ⟨fun hb H' _ _ => ?_, (k _).ok E (hn _) y hm hL⟩
  obtain ⟨x, h1⟩ := YI.1 (h0 hb)
  have h3 : M.getD default = x := by rw [h1]; rfl
  rw [K.x, K.e, h3]; exact K.k _ H' x h1⟩
theorem KC.nrm {P : Program} {f : FuncId} {xs xs' : List AV} {γ : Type} {M : Option γ} {e : γ → AV} (K : KC P f xs M e) (h : ∀ l H Post, ZbY P f l xs H Post → ZbY P f l xs' H Post) (hx : ∀ r, Zan r xs' = xs') : KC P f xs' M e := ⟨fun l H y hm => h _ _ _ (K.k l H y hm), hx, K.e⟩
end
section
variable {P : Program} {T : Nat → Option TI} {n : Nat} {C : Cx} {τ σ : St} {Q : Exit → St → Prop} {os : Nat} {p : List Nat} {b : Code}
def pa : List Nat → Code → Code
 | [], c => c
 | i :: p, c => cAt [i] (pa p c)
def ZHw : Code → Bool
 | .seq _ _ => true
 | _ => false
def ZIB (i : Nat) : Code → Bool
 | .block j _ => Nat.beq j i
 | _ => false
def ZHB : Code → Bool
 | .cond _ _ _ => true
 | _ => false
def ZIH : Code → Bool
 | .loop _ => true
 | _ => false
theorem sq (h : LW P n C (pa (0 :: p) b) τ (fun e τ' => match e with | .normal => LW P n C (pa (1 :: p) b) τ' Q | e => Q e τ')) (hs : ZHw (pa p b) = true := by kernel_rfl) : LW P n C (pa p b) τ Q := by
 unfold pa at h
 generalize pa p b = c at *
 cases c with
 | seq x y => exact ZBK h
 | _ => cases hs
def ZGS (P : Program) (T : Nat → Option TI) (l n os : Nat) (r : Ren) : Nat → Code → AT → St → (Exit → St → AT → Prop) → Prop
 | 0, _, a, τ, K => K .normal τ a
 | m + 1, .seq x y, a, τ, K => Zdr P T l n os r x a τ (fun e τ' a' => match e with | .normal => ZGS P T l n os r m y a' τ' K | e => K e τ' a')
 | _, _, _, _, _ => False
def rst : Nat → Code → Code
 | m + 1, .seq _ y => rst m y
 | _, c => c
def up : Nat → List Nat → List Nat
 | 0, p => p
 | m + 1, p => up m (1 :: p)
def lng : Nat → Code → Bool
 | m + 1, .seq _ y => lng m y
 | 0, _ => true
 | _, _ => false
theorem Zu0 : ∀ (m : Nat) (p : List Nat), lng m (pa p b) = true → rst m (pa p b) = pa (up m p) b
 | 0, p, _ => by
  show rst 0 (pa p b) = pa p b
  cases pa p b <;> rfl
 | m + 1, p, h => by
  have ih := Zu0 m (1 :: p)
  have e : pa (1 :: p) b = cAt [1] (pa p b) := rfl
  show rst (m + 1) (pa p b) = pa (up m (1 :: p)) b
  generalize pa p b = c at *
  cases c with
  | seq x y =>
   have e : pa (1 :: p) b = y := e
   rw [e] at ih
   exact ih h
  | _ => cases h
theorem ZgZ (hC : CxOk C) (hT : TOk P T) (hm : P.follows .mixedOrders = true) {γ : Key → Nat} {QQ : Exit → St → Prop} (hw : ∀ e σ σ', QQ e σ' → Wk n C σ σ' → QQ e σ) : ∀ (m : Nat) (c : Code) (a : AT) (τ σ : St) (K : Exit → St → AT → Prop), ZGS P T C.l n C.outs (C.r γ) m c a τ K → RG (C.r γ) C.l C.outs [] τ σ →
  (∀ τ' a' σ', K .normal τ' a' → RG (C.r γ) C.l C.outs [] τ' σ' → AWp P C.l n C.B (rst m c) QQ σ') → (∀ e τ' a' σ', e ≠ .normal → K e τ' a' → RG (C.r γ) C.l C.outs [] τ' σ' → QQ e σ') → AWp P C.l n C.B c QQ σ
 | 0, c, a, τ, σ, K, h, hG, hK, _ => by
  have := hK τ a σ h hG
  have e : rst 0 c = c := by cases c <;> rfl
  grind
 | m + 1, c, a, τ, σ, K, h, hG, hK, hE => by
  cases c with
  | seq x y =>
   refine Zhl (ZcD (ZaS hC hT hm x a τ σ _ h hG) fun e σ' hi => ?_)
   obtain ⟨τ', a', σ'', h1, h2, h3⟩ := hi
   cases e with
   | normal => exact AWp.weak (ZgZ hC hT hm hw m y a' τ' σ'' K h1 h2 hK hE) h3
   | _ => exact hw _ _ _ (hE _ _ _ _ (by intro e; cases e) h1 h2) h3
  | _ => exact h.elim
variable {β : Type} {Post : AV → List Blk → Prop} {rs : List ResultVar} {L : β → Prop} {y : β}
theorem Zax {fx : List Nat} (co : COx C os fx) (hT : TOk P T) (hm : P.follows .mixedOrders = true) {c : Code} (v : PT os β) (h : v.m = some y) (hL : HL L y)
  (hn : ∀ r (g : Gd C r), v.n ⟨⟨C.l, r, fun _ _ => False, Post⟩, L, C, _, co, g, rfl⟩) (hq : ∀ l r Q Post, Zdr P T l n os r c v.a τ (KF T rs os Post) = v.q ⟨l, r, Q, Post⟩ := by intro l r Q P; kernel_rfl) : LW P n C c τ (FQ T rs os Post) :=
 Zw0 co.ok hT hm co.O v.a rs (fun r Post => v.q ⟨C.l, r, fun _ _ => False, Post⟩) (fun r Post => hq _ r _ Post) fun r h1 h2 h3 h4 => v.ok _ (hn r ⟨h1, h2, h3, h4⟩) y h hL
theorem Zbz {fx : List Nat} (co : COx C os fx) (hT : TOk P T) (hm : P.follows .mixedOrders = true) {c : Code} (v : PT os β) (lf lx : Lf) (hQ : ∀ τ, FQ T rs os Post .ret τ → Q .ret τ) (h : v.m = some y) (hL : HL L y)
  (hn : ∀ r (g : Gd C r), v.n ⟨⟨C.l, r, Q, Post⟩, L, C, _, co, g, rfl⟩) (hq : ∀ l r Q Post, Zdr P T l n os r c v.a τ (KB T rs os fx r Post lf lx Q) = v.q ⟨l, r, Q, Post⟩ := by intro l r Q P; kernel_rfl) : LW P n C c τ Q :=
 ZzY co.ok hT hm co.O co.F v.a lf lx rs (fun r Q Post => v.q ⟨C.l, r, Q, Post⟩) (hq _) hQ fun r h1 h2 h3 h4 => v.ok _ (hn r ⟨h1, h2, h3, h4⟩) y h hL
theorem Zap {fx : List Nat} (co : COx C os fx) (hT : TOk P T) (hm : P.follows .mixedOrders = true) (m : Nat) (v : PT os β) (lf lx : Lf) (hQ : ∀ τ, FQ T rs os Post .ret τ → Q .ret τ) (hv : v.m = some y) (hL : HL L y)
  (hn : ∀ r (g : Gd C r), v.n ⟨⟨C.l, r, fun e τ' => match e with | .normal => LW P n C (pa (up m p) b) τ' Q | e => Q e τ', Post⟩, L, C, _, co, g, rfl⟩)
  (hq : ∀ l r Q Post, ZGS P T l n os r m (pa p b) v.a τ (KB T rs os fx r Post lf lx Q) = v.q ⟨l, r, Q, Post⟩ := by intro l r Q P; kernel_rfl) (hl : lng m (pa p b) = true := by kernel_rfl) : LW P n C (pa p b) τ Q := by
 intro γ σ hg hG
 have h1 := v.ok _ (hn (C.r γ) ⟨rfl, rfl, rfl, rfl⟩) y hv hL
 rw [← hq] at h1
 generalize v.a = a at h1
 rw [← co.O, ← co.F] at h1
 refine ZgZ co.ok hT hm (QQ := fun e σ => Is n C (Q e) σ) (fun e σ σ' hi hw => ?_) m _ _ _ _ _ h1 hG (fun τ' a' σ' hk hG' => ?_) (fun e τ' a' σ' hne hk hG' => ?_)
 ·obtain ⟨γ', τ₂, σ₂, k0, k1, k2, k3⟩ := hi
  exact ⟨γ', τ₂, σ₂, k0, k1, k2, hw.trans k3⟩
 ·simp only [KB] at hk
  obtain ⟨τ₁, a₁, σ₁, k1, k2, k3⟩ := Zam (n := n) co.ok a' hk hG'
  obtain ⟨γ', τ₂, σ₂, j0, j1, j2, j3⟩ := Zb2 (n := n) co.ok k1 hg k2
  rw [Zu0 m p hl]
  exact AWp.weak (j1 γ' σ₂ j0 j2) (k3.trans j3)
 ·cases e with
  | normal => exact absurd rfl hne
  | ret => exact .of hg hG' (hQ _ ⟨.inr rfl, a', by rw [← co.O]; exact hk⟩)
  | exit i =>
   simp only [KB] at hk
   obtain ⟨τ₁, a₁, σ₁, k1, k2, k3⟩ := Zam (n := n) co.ok a' hk hG'
   obtain ⟨γ', τ₂, σ₂, j0, j1, j2, j3⟩ := Zb2 (n := n) co.ok k1 hg k2
   exact ⟨γ', τ₂, σ₂, j0, j1, j2, k3.trans j3⟩
  | _ => exact hk.elim
theorem ZH1 {σ' : Type} {fx : List Nat} (co : COx C os fx) (hT : TOk P T) (hm : P.follows .mixedOrders = true) (m : Nat) (v : PT os β) (lf lx : Lf) (hQ : ∀ τ, FQ T rs os Post .ret τ → Q .ret τ) (hv : v.m = some y) (hL : HL L y) (SJ : σ' → St) (MJ : σ' → Option β)
  (hJ : ∀ x y, MJ x = some y → HL L y → LW P n C (pa (up m p) b) (SJ x) Q)
  (hn : (∀ x y, MJ x = some y → HL L y → LW P n C (pa (up m p) b) (SJ x) Q) → ∀ r (g : Gd C r), v.n ⟨⟨C.l, r, fun e τ' => match e with | .normal => LW P n C (pa (up m p) b) τ' Q | e => Q e τ', Post⟩, L, C, _, co, g, rfl⟩)
  (hq : ∀ l r Q Post, ZGS P T l n os r m (pa p b) v.a τ (KB T rs os fx r Post lf lx Q) = v.q ⟨l, r, Q, Post⟩ := by intro l r Q P; kernel_rfl) (hl : lng m (pa p b) = true := by kernel_rfl) : LW P n C (pa p b) τ Q :=
 Zap co hT hm m v lf lx hQ hv hL (hn hJ) hq hl
theorem bk (i : Nat) (h : LW P n C (pa (0 :: p) b) τ (fun e τ' => match e with | .exit j => (match Nat.beq j i with | true => Q .normal τ' | false => Q (.exit j) τ') | e => Q e τ')) (hs : ZIB i (pa p b) = true := by kernel_rfl) : LW P n C (pa p b) τ Q := by
 unfold pa at h
 generalize pa p b = c at *
 cases c with
 | block j x => exact ZnI i x (by rw [show j = i from Ya hs]) h
 | _ => cases hs
theorem cd (x : Bool) {m1 m2 : Option β} (hm : (if x = true then m1 else m2) = some y) (h1 : m1 = some y → LW P n C (pa (0 :: p) b) τ Q) (h2 : m2 = some y → LW P n C (pa (1 :: p) b) τ Q) (hs : ZHB (pa p b) = true := by kernel_rfl) (he : ev τ.s (ZEC (pa p b)) = .d (.bool x) := by kernel_rfl) : LW P n C (pa p b) τ Q := by
 unfold pa at h1 h2
 generalize pa p b = c at *
 cases c with
 | cond o u v => exact ZAP he (fun e => h1 (by rw [if_pos e] at hm; exact hm)) (fun e => h2 (by rw [if_neg (by rw [e]; decide)] at hm; exact hm))
 | _ => cases hs
theorem lo (h : LL P n C (pa (0 :: p) b) τ Q) (hs : ZIH (pa p b) = true := by kernel_rfl) : LW P n C (pa p b) τ Q := by
 unfold pa at h
 generalize pa p b = c at *
 cases c with
 | loop x => exact Zw3 h
 | _ => cases hs
theorem ZHN (v : PT os β) {fx : List Nat} (co : COx C os fx) (hv : v.m = some y) (hL : HL L y) (hn : ∀ r (g : Gd C r), v.n ⟨⟨C.l, r, fun _ _ => False, Post⟩, L, C, _, co, g, rfl⟩) (r : Ren) (hr : Gd C r)
  (hq : ∀ l r Q Post, ZCE T rs os τ v.a Post = v.q ⟨l, r, Q, Post⟩ := by intro l r Q P; kernel_rfl) : FQ T rs os Post .normal τ :=
 ⟨.inl rfl, v.a, by rw [hq C.l r (fun _ _ => False) Post]; exact v.ok _ (hn r hr) y hv hL⟩
end
section
variable {σ ξ ρ : Type}
def Zaf (B : σ → Option (Lv σ ξ ρ)) : Nat → σ → Option (ξ ⊕ ρ)
 | 0, _ => none
 | n + 1, v => match B v with
  | some (.nx v') => Zaf B n v'
  | some (.ex b) => some (.inl b)
  | some (.rt y) => some (.inr y)
  | none => none
def big : Nat := 4611686018427387904
def LvL (S : σ → St) (X : ξ → Nat × St) (er : ρ → AV) (bs : ρ → List Blk) (Q : Exit → St → Prop) (Post : AV → List Blk → Prop) : Lv σ ξ ρ → Prop
 | .nx v => Q .normal (S v)
 | .ex b => Q (.exit (X b).1) (X b).2
 | .rt y => Post (er y) (bs y)
variable {P : Program} {T : Nat → Option TI} {n : Nat} {C : Cx} {τ : St} {Q : Exit → St → Prop} {rs : List ResultVar} {os : Nat} {c : Code} {Post : AV → List Blk → Prop}
variable {S : σ → St} {X : ξ → Nat × St} {er : ρ → AV} {bs : ρ → List Blk} {B : σ → Option (Lv σ ξ ρ)}
def KL (P : Program) (T : Nat → Option TI) (n : Nat) (C : Cx) (c : Code) (rs : List ResultVar) (os : Nat) (S : σ → St) (X : ξ → Nat × St) (er : ρ → AV) (bs : ρ → List Blk) (B : σ → Option (Lv σ ξ ρ)) : Prop :=
 ∀ v o, B v = some o → ∀ (Q : Exit → St → Prop) (Post : AV → List Blk → Prop), (∀ τ, FQ T rs os Post .ret τ → Q .ret τ) → HL (LvL S X er bs Q Post) o → LW P n C c (S v) Q
theorem Zg2 (hb : KL P T n C c rs os S X er bs B) (hQ : ∀ τ, FQ T rs os Post .ret τ → Q .ret τ) : ∀ (k : Nat) (v : σ) (o : ξ ⊕ ρ), Zaf B k v = some o →
  (∀ b, o = .inl b → Q (.exit (X b).1) (X b).2) → (∀ y, o = .inr y → Post (er y) (bs y)) → LL P n C c (S v) Q
 | 0, v, o, h, _, _ => by cases h
 | k + 1, v, o, h, h1, h2 => by
  rw [Zaf] at h
  refine ZkU ?_
  cases hv : B v with
  | none => rw [hv] at h; cases h
  | some w =>
   rw [hv] at h
   refine hb v w hv _ Post (fun τ hτ => hQ τ hτ) ?_
   cases w with
   | nx v' => exact Zg2 hb hQ k v' o h h1 h2
   | ex b => cases h; exact h1 b rfl
   | rt y => cases h; exact h2 y rfl
theorem lpB {β : Type} {k : ξ ⊕ ρ → Option β} {N : Nat} {v : σ} {y : β} (hb : KL P T n C c rs os S X er bs B) (hQ : ∀ τ, FQ T rs os Post .ret τ → Q .ret τ) (hm : (Zaf B N v).bind k = some y)
  (h1 : ∀ b, k (.inl b) = some y → Q (.exit (X b).1) (X b).2) (h2 : ∀ z, k (.inr z) = some y → Post (er z) (bs z)) : LL P n C c (S v) Q := by
 obtain ⟨o, e1, e2⟩ := bind_some hm
 exact Zg2 hb hQ N v o e1 (fun b e => h1 b (e ▸ e2)) (fun z e => h2 z (e ▸ e2))
theorem lpF {g : ξ → Option ρ} {N : Nat} {v : σ} {y : ρ} (hb : KL P T n C c rs os S X er bs B) (hQ : ∀ τ, FQ T rs os Post .ret τ → Q .ret τ) (hm : (Zaf B N v).bind (Sum.elim g some) = some y) (hL : HL (fun y => Post (er y) (bs y)) y)
  (h1 : ∀ b, g b = some y → Q (.exit (X b).1) (X b).2) (hs : S v = τ := by kernel_rfl) : LL P n C c τ Q :=
 hs ▸ lpB hb hQ hm h1 fun z hz => by cases hz; exact hL
theorem lpL {σ' ξ' : Type} {S' : σ' → St} {X' : ξ' → Nat × St} {Q' : Exit → St → Prop} {g : ξ → Option (Lv σ' ξ' ρ)} {N : Nat} {v : σ} {y : Lv σ' ξ' ρ} (hb : KL P T n C c rs os S X er bs B) (hQ : ∀ τ, FQ T rs os Post .ret τ → Q .ret τ) (hm : (Zaf B N v).bind (Sum.elim g fun z => some (.rt z)) = some y) (hL : HL (LvL S' X' er bs Q' Post) y)
  (h1 : ∀ b, g b = some y → Q (.exit (X b).1) (X b).2) (hs : S v = τ := by kernel_rfl) : LL P n C c τ Q :=
 hs ▸ lpB hb hQ hm h1 fun z hz => by cases hz; exact hL
end
theorem kc1 {P : Program} {T : Nat → Option TI} {n : Nat} {f : FuncId} {fn : Func} {xs : List AV} {γ : Type} {M : Option γ} {e : γ → AV} (hf : P.funcs[f]? = some fn) (hn : fn.ntmps = n) (hT : TOk P T) (rs : List ResultVar)
  (h : ∀ C : Cx, CO C 0 → ∀ y, M = some y → ∀ Post : AV → List Blk → Prop, HL (fun y => Post (e y) []) y → LW P n C (pa [] (Zai fn)) (mkS (Zjn 0 xs) []) (FQ T rs 0 Post))
  (hx : ∀ r, Zan r xs = xs := by intro r; kernel_rfl) (he : ∀ r y, ren r (e y) = e y := by intro r y; kernel_rfl)
  (hb : fn.body = some (Zai fn) := by kernel_rfl) (hname : (fn.name == "runtime.NumGoroutine") = false := by kernel_rfl) (hr : fn.results.toList = rs := by kernel_rfl) (hl : Nat.ble xs.length n = true := by kernel_rfl) : KC P f xs M e :=
 ⟨fun l H y hm => ZgR rs (Zai fn) (fun _ => .top) xs hf hb hname hn hr (Yc hl) hT (hx _) fun B => h _ ⟨Zf2 l B _ H, rfl, rfl, fun _ h => absurd h (Yah _)⟩ y hm (fun z _ => z = e y ∧ H = H) ⟨rfl, rfl⟩, hx, he⟩
end Go.Eng
