import Derived.Test.YtpjofefihlbppaaGreatCu12
import Derived.Shelf.Spec.SlicesGrow
import Derived.Test.YtpjofefihlbppaaGreatCu00
namespace Go.Eng
set_option linter.all false
open Go Go.RowKit
def kOf (l : Nat) (ks : List Key) : Key → Key
 | (0, i) => match nth ks i with | some k => k | none => (0, 0)
 | (_ + 1, d) => (l + 1, d)
def gOf (gs : List Nat) : Key → Nat
 | (0, i) => match nth gs i with | some g => g | none => 0
 | (_ + 1, _) => 0
def rOf (l : Nat) (ks : List Key) (gs : List Nat) (θ : Nat → AV) (H : Hp) : Ren := ⟨kOf l ks, gOf gs, θ, H, fun k => k ∈ ks⟩
def NmO (l : Nat) (ks : List Key) (gs : List Nat) (r : Ren) : Prop := r.κ = kOf l ks ∧ ∀ i, i < ks.length → r.γ (0, i) = gOf gs (0, i)
def Zdd (r : Ren) : Nat → List Blk → List Blk
 | _, [] => []
 | i, b :: bs => Za9 r (0, i) b :: Zdd r (i + 1) bs
def Zid (H : Hp) : List Key → List Blk → Hp
 | k :: ks, b :: bs => Zid (updH H k b) ks bs
 | _, _ => H
theorem ZeJ : ∀ (ks : List Key) (bs : List Blk) (H : Hp) (q : Key), q ∉ ks → Zid H ks bs q = H q
 | [], bs, H, q, h => by cases bs <;> rfl
 | k :: ks, [], H, q, h => rfl
 | k :: ks, b :: bs, H, q, h => by
  simp only [Zid]
  rw [ZeJ ks bs _ q (fun hm => h (Yt _ hm)), Zad _ _ (fun e => h (by rw [e]; exact Yz ..))]
theorem ZlV : ∀ (ks : List Key) (bs : List Blk) (H : Hp), ks.Nodup → ∀ (j : Nat) (k : Key) (b : Blk), ks[j]? = some k → bs[j]? = some b → Zid H ks bs k = b
 | [], bs, H, _, j, k, b, h, _ => by simp at h
 | q :: ks, [], H, _, _, _, _, _, h => by simp at h
 | q :: ks, c :: bs, H, hn, j, k, b, hk, hb => by
  simp only [Zid]
  rw [List.nodup_cons] at hn
  cases j with
  | zero =>
   simp only [YG, Yd] at hk hb
   subst hk; subst hb
   rw [ZeJ ks bs _ _ hn.1, Zac]
  | succ j =>
   simp only [YX] at hk hb
   exact ZlV ks bs _ hn.2 j k b hk hb
theorem Zjy {r : Ren} : ∀ (bs : List Blk) (i j : Nat), (Zdd r i bs)[j]? = (bs[j]?).map (Za9 r (0, i + j))
 | [], i, j => by simp [Zdd]
 | b :: bs, i, 0 => by simp [Zdd]
 | b :: bs, i, j + 1 => by
  simp only [Zdd, YX, Zjy bs (i + 1) j, show i + 1 + j = i + (j + 1) from by omega]
theorem Zf4 {P : Program} {T : Nat → Option TI} {n : Nat} {f : FuncId} {fn : Func} (rs : List ResultVar) (c : Code) {l : Nat} {xs : List AV} {H : Hp} {Post : AV → Hp → Prop} (ks : List Key) (gs : List Nat) (fx : List Nat) (θ : Nat → AV) (ys : List AV) (hs : List (Key × Blk)) (LPost : AV → List Blk → Prop)
  (hf : P.funcs[f]? = some fn) (hb : fn.body = some c) (hname : (fn.name == "runtime.NumGoroutine") = false) (hn : fn.ntmps = n) (hr : fn.results.toList = rs) (hx : xs.length ≤ n) (hT : TOk P T)
  (hks : ∀ k ∈ ks, k.1 ≤ l) (hnd : ks.Nodup) (hh : ∀ d, lkH hs (1, d) = ZkK) (hlv : ∀ k, (lkH hs k).live = true → k.1 = 0 ∧ k.2 < ks.length)
  (hH : ∀ i k, ks[i]? = some k → (H k).g = gOf gs (0, i) + (lkH hs (0, i)).g ∧ ((lkH hs (0, i)).live = true → H k = Za9 (rOf l ks gs θ H) (0, i) (lkH hs (0, i))))
  (hxs : Zau (rOf l ks gs θ H) ys = xs)
  (h : ∀ C, CxOk C → C.outs = ks.length → C.fx = fx → C.l = l → C.H0 = H → C.θ = θ → C.κ = kOf l ks → C.no = (fun k => k ∈ ks) → LW P n C c (mkS (Ziz 0 ys) hs) (FQ T rs ks.length LPost))
  (hp : ∀ y b, LPost y b → b.length = ks.length ∧ (∀ x ∈ b, x.live = true) ∧ ∀ r : Ren, r.κ = kOf l ks → r.θ = θ → r.H0 = H → r.no = (fun k => k ∈ ks) → (∀ i ∈ fx, r.γ (0, i) = gOf gs (0, i)) → Post (ren r y) (Zid H ks (Zdd r 0 b))) : Zb9 P f l xs H Post := by
 let C : Base → Cx := fun B => ⟨l, B, kOf l ks, θ, H, ks.length, fun k => k ∈ ks, fx, fun γ => ∀ i ∈ fx, γ (0, i) = gOf gs (0, i)⟩
 have hkO : ∀ i, i < ks.length → ks[i]? = some (kOf l ks (0, i)) := fun i hi => by
  show _ = some (match nth ks i with | some k => k | none => (0, 0))
  rw [ZbG, Yb hi]
 have hlt : ∀ (i : Nat) (k : Key), ks[i]? = some k → i < ks.length := fun i k hi => by
  grind
 have hC : ∀ B, CxOk (C B) := fun B => by
  refine ⟨fun _ => rfl, fun i hi => hks _ (Yq (hkO i hi)), fun i j hi hj e => ?_, fun k hk => ?_, fun γ γ' he hg i hi => by rw [he i hi]; exact hg i hi⟩
  ·have h1 := hkO i hi
   have h2 := hkO j hj
   rw [show kOf l ks (0, i) = kOf l ks (0, j) from e] at h1
   have h3 : ks[i]? = ks[j]? := h1.trans h2.symm
   exact (List.getElem?_inj hi hnd).1 h3
  ·obtain ⟨i, hi⟩ := YB.1 (show k ∈ ks from hk)
   grind
 refine Zjz rs C (γ := gOf gs) (LPost := LPost) (ys := ys) (hs := hs) hf hb hname hn hr hx hT hC (fun B => ⟨rfl, rfl, rfl, fun i _ => rfl⟩) (fun B => hxs) (fun _ => rfl) hh (fun B k hk => ?_) (fun B i hi => ?_) (fun B γ y b H' hg hy ho _ => ?_) (fun B => h _ (hC B) rfl rfl rfl rfl rfl rfl rfl)
 ·obtain ⟨h1, h2⟩ := hlv k hk
  obtain ⟨k1, k2⟩ := k
  simp only at h1 h2
  subst h1
  exact ⟨rfl, h2, (hH k2 _ (hkO k2 h2)).2 hk⟩
 ·grind
 ·obtain ⟨hbl, hbv, hp⟩ := hp y b hy
  have hp := hp ((C B).r γ) rfl rfl rfl rfl fun i hi => hg i hi
  have e2 : H' = Zid H ks (Zdd ((C B).r γ) 0 b) := by
   funext q
   by_cases hq : q ∈ ks
   ·obtain ⟨i, hi⟩ := YB.1 hq
    have hi' := hlt i q hi
    have hb' : b[i]? = some b[i] := Yb (by omega)
    have h1 := ho.live i _ hb' (hbv _ (Yq hb'))
    have h2 : kOf l ks (0, i) = q := by
     grind
    rw [show (C B).κ (0, i) = q from h2] at h1
    rw [h1, ZlV ks _ H hnd i q (Za9 ((C B).r γ) (0, i) b[i]) hi]
    rw [Zjy, hb', Yy]
    rfl
   ·rw [ZeJ ks _ H q hq]
    exact ho.o q hq
  rw [e2]; exact hp
theorem ZiJ {P : Program} {T : Nat → Option TI} {n : Nat} {f : FuncId} {fn : Func} (rs : List ResultVar) (c : Code) {l : Nat} {xs : List AV} {H : Hp} {Post : AV → Hp → Prop} (ks : List Key) (gs : List Nat) (fx : List Nat) (θ : Nat → AV) (ys : List AV) (hs : List (Key × Blk)) (LPost : AV → List Blk → Prop)
  (hf : P.funcs[f]? = some fn) (hb : fn.body = some c) (hname : (fn.name == "runtime.NumGoroutine") = false) (hn : fn.ntmps = n) (hr : fn.results.toList = rs) (hx : xs.length ≤ n) (hT : TOk P T)
  (hks : ∀ k ∈ ks, k.1 ≤ l) (hnd : ks.Nodup) (hfx : ∀ i, i < ks.length → i ∈ fx) (hh : ∀ d, lkH hs (1, d) = ZkK) (hlv : ∀ k, (lkH hs k).live = true → k.1 = 0 ∧ k.2 < ks.length)
  (hH : ∀ i k, ks[i]? = some k → (H k).g = gOf gs (0, i) + (lkH hs (0, i)).g ∧ ((lkH hs (0, i)).live = true → H k = Za9 (rOf l ks gs θ H) (0, i) (lkH hs (0, i))))
  (hxs : Zau (rOf l ks gs θ H) ys = xs)
  (h : ∀ C, CxOk C → C.outs = ks.length → C.fx = fx → C.l = l → C.H0 = H → C.θ = θ → C.κ = kOf l ks → C.no = (fun k => k ∈ ks) → LW P n C c (mkS (Ziz 0 ys) hs) (FQ T rs ks.length LPost))
  (hp : ∀ y b, LPost y b → b.length = ks.length ∧ (∀ x ∈ b, x.live = true) ∧ ∃ Y' bs', (∀ r, NmO l ks gs r → ren r y = Y') ∧ (∀ r, NmO l ks gs r → Zdd r 0 b = bs') ∧ Post Y' (Zid H ks bs')) : Zb9 P f l xs H Post := by
 refine Zf4 rs c ks gs fx θ ys hs LPost hf hb hname hn hr hx hT hks hnd hh hlv hH hxs h fun y b hy => ?_
 obtain ⟨hbl, hbv, Y', bs', hY, hB, hp⟩ := hp y b hy
 refine ⟨hbl, hbv, fun r h1 _ _ _ h5 => ?_⟩
 have hnm : NmO l ks gs r := ⟨h1, fun i hi => h5 i (hfx i hi)⟩
 rw [hY _ hnm, hB _ hnm]; exact hp
theorem ZkV {P : Program} {T : Nat → Option TI} {n : Nat} {f : FuncId} {fn : Func} (rs : List ResultVar) (c : Code) {l : Nat} {xs : List AV} {H : Hp} {Post : AV → Hp → Prop} (ks : List Key) (gs : List Nat) (fx : List Nat) (θ : Nat → AV) (ys : List AV) (hs : List (Key × Blk)) (Y : AV) (bs : List Blk) {Y' : AV} {bs' : List Blk}
  (hf : P.funcs[f]? = some fn) (hb : fn.body = some c) (hname : (fn.name == "runtime.NumGoroutine") = false) (hn : fn.ntmps = n) (hr : fn.results.toList = rs) (hx : xs.length ≤ n) (hT : TOk P T)
  (hks : ∀ k ∈ ks, k.1 ≤ l) (hnd : ks.Nodup) (hfx : ∀ i, i < ks.length → i ∈ fx) (hh : ∀ d, lkH hs (1, d) = ZkK) (hlv : ∀ k, (lkH hs k).live = true → k.1 = 0 ∧ k.2 < ks.length)
  (hH : ∀ i k, ks[i]? = some k → (H k).g = gOf gs (0, i) + (lkH hs (0, i)).g ∧ ((lkH hs (0, i)).live = true → H k = Za9 (rOf l ks gs θ H) (0, i) (lkH hs (0, i))))
  (hxs : Zau (rOf l ks gs θ H) ys = xs) (hbl : bs.length = ks.length) (hbv : ∀ b ∈ bs, b.live = true) (hY : ∀ r, NmO l ks gs r → ren r Y = Y') (hB : ∀ r, NmO l ks gs r → Zdd r 0 bs = bs')
  (h : ∀ C, CxOk C → C.outs = ks.length → C.fx = fx → C.l = l → C.H0 = H → C.θ = θ → C.κ = kOf l ks → C.no = (fun k => k ∈ ks) → LW P n C c (mkS (Ziz 0 ys) hs) (FQ T rs ks.length (fun y b => y = Y ∧ b = bs)))
  (hp : Post Y' (Zid H ks bs')) : Zb9 P f l xs H Post := by
 exact ZiJ rs c ks gs fx θ ys hs (fun y b => y = Y ∧ b = bs) hf hb hname hn hr hx hT hks hnd hfx hh hlv hH hxs h fun y b ⟨e1, e2⟩ => by subst e1; subst e2; exact ⟨hbl, hbv, Y', bs', hY, hB, hp⟩
section
variable {P : Program} {l : Nat} {r : Ren} {f : FuncId} {xs xs' : List AV} {hb hb2 : List (Key × Blk)} {x x' : AV}
theorem ZpJ (h1 : Zau r xs = xs') (h2 : ren r x = x') (h : ∀ H', (∀ p ∈ hb, (H' (r.κ p.1)).g = r.γ p.1 + p.2.g ∧ (p.2.live = true → H' (r.κ p.1) = Za9 r p.1 p.2)) → (∀ k : Key, k.1 ≤ l → ¬ r.no k → H' k = r.H0 k) → Zb9 P f (l + 1) xs' H' (fun y H'' => y = x' ∧ H'' = Zdy r hb2 H')) :
  Zhf P l r f xs hb x hb2 [] := fun H' hb ho => by
 rw [h1]
 exact (h H' hb ho).mono fun y H'' ⟨e1, e2⟩ => ⟨r.γ, fun _ _ => rfl, by rw [e1, ← h2], e2⟩
end
theorem Zjv {α : Type} {e : α → List D} {r : Ren} {k : Key} (xs : List α) : Zln r k (Zab e xs) := by
 unfold Zln
 rw [Zcd (Zaf e xs)]
 refine Yg.2 fun x hx => ?_
 obtain ⟨d, _, rfl⟩ := YC.1 hx
 rfl
theorem ZnR {r : Ren} {k : Key} {vs : List AV} (h : (Zau r vs).all (AV.low (r.κ k).1) = true) : Zln r k vs := h
theorem ZjF {r : Ren} {k : Key} (ds : List D) : Zln r k (ds.map .d) := by
 unfold Zln
 rw [Zez]
 refine Yg.2 fun x hx => ?_
 obtain ⟨d, _, rfl⟩ := YC.1 hx
 rfl
theorem Zgo {α : Type} (e : α → List D) (xs : List α) : ZdH (Zab e xs) := fun x hx => by
 obtain ⟨d, _, rfl⟩ := YC.1 hx; rfl
theorem ZpE {α : Type} {e : α → List D} {xs : List α} {off cn sz : Nat} {z : List AV} (hl : ∀ x, (e x).length = sz) (h : off + cn ≤ xs.length) :
  ZEY (Zab e xs) off cn sz z ((Zab e xs).take (off * sz) ++ (List.replicate cn z).flatten ++ (Zab e xs).drop ((off + cn) * sz)) := by
 refine ⟨?_, rfl⟩
 rw [ZcF hl]
 exact YE _ h
theorem ZpO {α : Type} {e : α → List D} {xs : List α} {off sz : Nat} {A B : List AV} (hl : ∀ x, (e x).length = sz) (h : off ≤ xs.length) : ∃ m, ((Zab e xs).take (off * sz) ++ A ++ B).take m = Zab e (xs.take off) := by
 refine ⟨off * sz, ?_⟩
 have h1 : ((Zab e xs).take (off * sz)).length = off * sz := by
  rw [YH, ZcF hl]
  exact Y8 (YE _ h)
 rw [YV, Yam (by omega), YaB (by omega), Zf0 hl]
def ZsY (n : Nat) : List (Key × Blk) → Bool
 | [] => true
 | (k, _) :: r => Nat.beq k.1 0 && Nat.ble (k.2 + 1) n && ZsY n r
theorem ZiC {n : Nat} : ∀ {hs : List (Key × Blk)}, ZsY n hs = true → ∀ k, (lkH hs k).live = true → k.1 = 0 ∧ k.2 < n
 | [], _, k, h => by simp [lkH, ZkK] at h
 | (q, b) :: r, hi, k, h => by
  simp only [ZsY, Bool.and_eq_true] at hi
  simp only [lkH] at h
  split at h
  ·rename_i hq
   have hq := ZaU.1 hq
   subst hq
   exact ⟨Ya hi.1.1, Yc hi.1.2⟩
  ·exact ZiC hi.2 k h
theorem Zfk {n : Nat} : ∀ {hs : List (Key × Blk)}, ZsY n hs = true → ∀ d, lkH hs (1, d) = ZkK
 | [], _, d => rfl
 | (q, b) :: r, hi, d => by
  simp only [ZsY, Bool.and_eq_true] at hi
  simp only [lkH]
  split
  ·rename_i hq
   have hq := ZaU.1 hq
   subst hq
   have := Ya hi.1.1
   grind
  ·exact Zfk hi.2 d
def HOk (H : Hp) (r : Ren) (hs : List (Key × Blk)) : Nat → List Key → Prop
 | _, [] => True
 | i, k :: ks => ((H k).g = r.γ (0, i) + (lkH hs (0, i)).g ∧ ((lkH hs (0, i)).live = true → H k = Za9 r (0, i) (lkH hs (0, i)))) ∧ HOk H r hs (i + 1) ks
theorem ZoA {H : Hp} {r : Ren} {hs : List (Key × Blk)} : ∀ {ks : List Key} {i : Nat}, HOk H r hs i ks → ∀ j k, ks[j]? = some k → (H k).g = r.γ (0, i + j) + (lkH hs (0, i + j)).g ∧ ((lkH hs (0, i + j)).live = true → H k = Za9 r (0, i + j) (lkH hs (0, i + j)))
 | [], i, _, j, k, h => by simp at h
 | q :: ks, i, h, 0, k, hk => by
  simp only [YG, Yd] at hk
  subst hk
  exact h.1
 | q :: ks, i, h, j + 1, k, hk => by
  have := ZoA h.2 j k (by simpa using hk)
  grind
def Ztj (l : Nat) : List Key → Prop
 | [] => True
 | k :: ks => k.1 ≤ l ∧ Ztj l ks
theorem ZgV {l : Nat} : ∀ {ks : List Key}, Ztj l ks → ∀ k ∈ ks, k.1 ≤ l
 | q :: ks, h, k, hk => by
  rcases Yw.1 hk with rfl | hk
  ·exact h.1
  ·exact ZgV h.2 k hk
def ZtH : Nat → List Nat
 | 0 => []
 | n + 1 => ZtH n ++ [n]
theorem Zfh : ∀ {n i : Nat}, i < n → i ∈ ZtH n
 | n + 1, i, h => by
  simp only [ZtH, YaM, Yav]
  rcases Yn i n with h' | h'
  ·exact .inl (Zfh h')
  grind
theorem ZiN {P : Program} {T : Nat → Option TI} {n : Nat} {f : FuncId} {fn : Func} (rs : List ResultVar) (c : Code) {l : Nat} {xs : List AV} {H : Hp} {Post : AV → Hp → Prop} (ks : List Key) (gs : List Nat) (os : Nat) (θ : Nat → AV) (ys : List AV) (hs : List (Key × Blk)) (Y : AV) (bs : List Blk) {Y' : AV} {bs' : List Blk}
  (hf : P.funcs[f]? = some fn) (hb : fn.body = some c) (hname : (fn.name == "runtime.NumGoroutine") = false) (hn : fn.ntmps = n) (hr : fn.results.toList = rs) (hx : xs.length ≤ n) (hT : TOk P T) (hos : ks.length = os)
  (hks : Ztj l ks) (hnd : ks.Nodup) (hin : ZsY os hs = true) (hH : HOk H (rOf l ks gs θ H) hs 0 ks) (hxs : Zau (rOf l ks gs θ H) ys = xs) (hbl : bs.length = os) (hbv : ∀ b ∈ bs, b.live = true) (hY : ∀ r, NmO l ks gs r → ren r Y = Y') (hB : ∀ r, NmO l ks gs r → Zdd r 0 bs = bs')
  (h : ∀ C, CxOk C → C.outs = os → C.fx = ZtH os → C.l = l → C.H0 = H → C.θ = θ → C.κ = kOf l ks → C.no = (fun k => k ∈ ks) → LW P n C c (mkS (Ziz 0 ys) hs) (FQ T rs os (fun y b => y = Y ∧ b = bs)))
  (hp : Post Y' (Zid H ks bs')) : Zb9 P f l xs H Post := by
 subst hos
 exact ZkV rs c ks gs (ZtH ks.length) θ ys hs Y bs hf hb hname hn hr hx hT (ZgV hks) hnd (fun i hi => Zfh hi) (Zfk hin) (ZiC hin) (fun i k hk => by have := ZoA hH i k hk; rw [Yy] at this; exact this) hxs hbl hbv hY hB h hp
theorem Zlj {α : Type} {e e' : α → List D} {xs : List α} {j sz : Nat} {x : α} (hx : xs[j]? = some x) (hl : ∀ x, (e x).length = sz) (he : ∀ x, e x = e' x) : Zcb (Zab e xs) (j * sz) ((e' x).map .d) := by
 have hj : j < xs.length := by
  grind
 have := Zf6 (z := x) hj hl he
 grind
theorem Zym {P : Program} {l l1 : Nat} {no no1 : Key → Prop} {H H1 : Hp} {c : AV} {aZ : List AV} {y : AV} (h : ZhL P l no H c aZ y) (hl : l ≤ l1) (hno : ∀ q : Key, q.1 ≤ l → ¬ no q → ¬ no1 q) (hH : ∀ q : Key, q.1 ≤ l → ¬ no q → H1 q = H q) : ZhL P l1 no1 H1 c aZ y := by
 obtain ⟨f, first, caps, e, h⟩ := h
 exact ⟨f, first, caps, e, fun l' H' hl' ho => h l' H' (Yad hl hl') fun k hk hn => by rw [ho k (Yad hk hl) (hno k hk hn), hH k hk hn]⟩
def ZA3 : Code → Operand
 | .cond o _ _ => o
 | _ => .tmp 0
def Ze0 (c : Code) (k : Nat) : Option Nat := match Zd7 c k with | some (d, _, _) => d | none => none
def callF (c : Code) (k : Nat) : Operand := match Zd7 c k with | some (_, f, _) => f | none => .tmp 0
def Zgj (c : Code) (k : Nat) : List Operand := match Zd7 c k with | some (_, _, xs) => xs | none => []
theorem ZjJ {P : Program} {n : Nat} {C : Cx} {Q : Exit → St → Prop} (hC : CxOk C) {os : Nat} {fx : List Nat} (hO : C.outs = os) (hF : C.fx = fx) {c : Code} {k : Nat} {ss : List (Nat × AV)} {hs : List (Key × Blk)}
  (f : FuncId) (first caps xs : List AV) (hop : Zd7 c k = some (Ze0 c k, callF c k, Zgj c k)) (hf : ev (lkS ss) (callF c k) = .fn (.func f) first caps) (hxs : first ++ (Zgj c k).map (ev (lkS ss)) ++ caps = xs) (ks : List Key) (hb : List (Key × Blk)) (hhb : (ks.map fun k => (k, lkH hs k)) = hb)
  (x : AV) (hb2 : List (Key × Blk)) (fr fl : List Key) (hok : (Zit os hb2 && ZyY fr hb2 && Zgw fr fx && Zg5 hs && ZkI n (Ze0 c k) && ks.all (okK os)) = true) (hwr : wrL C hb2) (hfl : flL (lkH hs) fl)
  (hcall : ∀ r : Ren, r.θ = C.θ → r.H0 = C.H0 → r.κ = C.κ → r.no = C.no → Zhf P C.l r f xs hb x hb2 fr)
  (h : LO P n C c (k + 1) (mkS (ZpD (Ze0 c k) x (Zej fr ss)) (hb2 ++ Zdj (hb2.map (·.1)) fr fl hs)) Q) : LO P n C c k (mkS ss hs) Q :=
 Zu5 hC hO hF _ _ _ hop f first caps xs hf hxs ks hb hhb x hb2 fr fl hok hwr hfl hcall h
end Go.Eng
namespace Go.Eng
open Go
set_option linter.all false
end Go.Eng
namespace Go.Eng
set_option linter.all false
open Go Go.RowKit Go.Shelf
theorem ZuY {α : Type} {e : α → List D} {xs : List α} {l h : Nat} (q : SlS l h xs.length) : SlS l h (xs.map e).length := by rw [Ys]; exact q
theorem ZwP {α : Type} {e : α → List D} {xs : List α} {sz : Nat} (he : ∀ x, (e x).length = sz) : ∀ d, d ∈ xs.map e → d.length = sz := fun d h => by
 grind
theorem Zxk {α : Type} {e : α → List D} {xs : List α} {sz l h : Nat} (he : ∀ x, (e x).length = sz) : SlD (xs.map e) sz l h (((xs.drop l).take (h - l)).map e) :=
 ⟨ZwP he, by rw [← List.map_drop, ← List.map_take]⟩
theorem ZoK {i : Int} {len sz : Nat} (h0 : 0 ≤ i) (h : i < len) : Zy8 i len 0 sz (i.toNat * sz) := ⟨h0, h, by simp⟩
theorem ZrU {α : Type} {e : α → List D} {xs : List α} {j sz fo : Nat} {z y : α} {vs : List D} (hj : j < xs.length) (hl : ∀ x, (e x).length = sz) (hf : fo + vs.length ≤ sz) (he : e y = (e (xs.getD j z)).take fo ++ vs ++ (e (xs.getD j z)).drop (fo + vs.length)) :
  StS (Zab e xs) (j * sz + fo) (vs.map .d) (Zab e (xs.set j y)) := by
 have h2 : (j + 1) * sz ≤ xs.length * sz := YE _ hj
 rw [Yx, YaA] at h2
 refine ⟨by rw [Ys, ZcF hl]; omega, ?_⟩
 have hx : xs.getD j z = xs[j] := by rw [Yr, Yb hj]; rfl
 rw [hx] at he
 have hs : Zab e xs = Zab e (xs.take j) ++ ((e xs[j]).map .d ++ Zab e (xs.drop (j + 1))) := by
  conv => lhs; rw [← YaF j xs, Y1 hj, Zfe, Zce]
 have ha : (Zab e (xs.take j)).length = j * sz := by rw [ZcF hl, YH, Y8 (by omega)]
 have hb : ((e xs[j]).map AV.d).length = sz := by rw [Ys, hl]
 rw [hs, List.take_append, YaB (by omega : (Zab e (xs.take j)).length ≤ j * sz + fo), ha, show j * sz + fo - j * sz = fo from by omega, Yam (by omega),
  List.drop_append, Ybb (by rw [ha]; omega), ha, Y9, show j * sz + fo + (vs.map AV.d).length - j * sz = fo + vs.length from by rw [Ys]; omega, YaN (by omega),
  YaC, if_pos hj, Zfe, Zce, he]
 simp only [Ya8, List.map_take, List.map_drop, YV]
end Go.Eng
namespace Go.Eng
set_option linter.all false
theorem Zfa {α : Type} {l : List α} {p : α → Bool} : ((match l.findIdx? p with | some k => (k : Int) | none => -1) ≥ 0) ↔ l.any p = true := by
 rw [YI]
 cases h : l.findIdx? p with
 | none =>
  rw [Ya0] at h
  constructor
  ·intro e; exact absurd e (by decide)
  ·rintro ⟨x, hx, hp⟩; rw [h x hx] at hp; cases hp
 | some k =>
  obtain ⟨h1, h2, _⟩ := Y6.1 h
  exact ⟨fun _ => ⟨l[k], Yaq h1, h2⟩, fun _ => Int.natCast_nonneg k⟩
theorem ZpP {α : Type} {e e' : α → List D} {xs : List α} {j sz : Nat} {y : α} (hj : j < xs.length) (hl : ∀ x, (e x).length = sz) (he : ∀ x, e x = e' x) : StS (Zab e xs) (j * sz) ((e' y).map .d) (Zab e (xs.set j y)) := by
 rw [← he]; exact ZvN hj hl
theorem Zh8 {α : Type} {sz : Nat} {e e' : α → List D} {y : α} (C : List AV) (hl : ∀ x, (e x).length = sz) (he : ∀ x, e x = e' x) : ZoN sz C (.d (.list [e' y])) 1 (Zab e [y]) := by
 rw [ZqS, he]; exact ZpQ C (by rw [← he]; exact hl y)
theorem Zvj {C : List AV} {o n m sz : Nat} {es : List (List D)} (h : n = m) (k : FzR C o m sz es) : FzR C o n sz es := h ▸ k
theorem ZuE {α : Type} {e : α → List D} {xs : List α} {n m off sz : Nat} (hn : n = m) (h : off ≤ xs.length) (hl : ∀ x, (e x).length = sz) : n = m ∧ off * sz ≤ (Zab e xs).length ∧ (Zab e xs).drop (off * sz) = Zab e (xs.drop off) :=
 ⟨hn, by rw [ZcF hl]; exact YE _ h, ZdP hl xs off⟩
theorem ZyS {α : Type} {e : α → List D} {z : α} {c : List AV} (hz : (e z).map .d = c) (m : Nat) : (List.replicate m c).flatten = Zab e (List.replicate m z) := by
 subst hz
 induction m with
 | zero => rfl
 | succ m ih => rw [YaO, Yab, ih, YaO, Zce]
end Go.Eng
namespace Go.Eng
set_option linter.all false
open Go Go.RowKit
section
variable {P : Program} {T : Nat → Option TI} {n : Nat} {C : Cx} {τ : St} {Q : Exit → St → Prop}
theorem Zv2 (hC : CxOk C) {os : Nat} {fx : List Nat} (hO : C.outs = os) (hF : C.fx = fx) {c : Code} (a : AT) (lf : Lf) (q : Ren → (St → Prop) → Prop)
  (hq : ∀ r Φ, Zdf r os a τ (fun τ _ => ZeY fx lf τ Φ) = q r Φ) (h : ∀ r, r.θ = C.θ → r.H0 = C.H0 → r.κ = C.κ → r.no = C.no → q r (fun τ' => LW P n C c τ' Q)) : LW P n C c τ Q := by
 subst hO
 subst hF
 intro γ σ hg hG
 have h1 := h (C.r γ) rfl rfl rfl rfl
 rw [← hq] at h1
 obtain ⟨τ₁, a₁, σ₁, h2, hG1, hw1⟩ := Zas (n := n) hC a h1 hG
 obtain ⟨γ', τ₄, σ₄, j0, j1, j2, j3⟩ := Zb5 (n := n) hC h2 hg hG1
 exact AWp.weak (j1 γ' σ₄ j0 j2) (hw1.trans j3)
end
theorem Zju {s : ByteArray} {i : Int} (h0 : 0 ≤ i) (h : i < s.size) : ZsU s i ((s.data.toList.getD i.toNat 0).toNat : Int) := by
 have := Zpv (s := s) (i := i.toNat) (by omega)
 rwa [Int.toNat_of_nonneg h0] at this
end Go.Eng
