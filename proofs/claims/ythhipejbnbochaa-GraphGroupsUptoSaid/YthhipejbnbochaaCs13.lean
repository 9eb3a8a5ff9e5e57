import Derived.Test.YthhipejbnbochaaCs12
import Derived.Shelf.Sort.Plain
import Derived.Shelf.Slices.In.SortNone
import Derived.Shelf.Slices.CompactS
import Derived.Sort.Walk0
import Derived.Test.YthhipejbnbochaaCs00
namespace Go.Eng
set_option linter.all false
open Go Go.RowKit Go.Shelf
theorem Ok.grown {l : Nat} {H : Hp} {m : Mu} {S : Nat → Prop} {w w' : World} (h : Ok l H m S w) (os : Array Obj) (hw : w'.heap = w.heap ++ os) (h1 : w'.os = w.os) (h2 : w'.tape = w.tape) (h3 : w'.output = w.output) : Ok l H m S w' ∧ Ext l H m S w H m S w' := by
 have hb : ∀ b, b < w.heap.size → w'.heap[b]? = w.heap[b]? := fun b hb => by rw [hw, Yat hb]
 have hext : Ext l H m S w H m S w' := ⟨fun _ h => h, fun b hs => hb b (h.sub b hs), fun _ _ => Yg _, fun k hk hg hl => ⟨hl, rfl, rfl⟩, h1, h2, h3, by rw [hw, Array.size_append]; omega⟩
 refine ⟨⟨fun b hs => by have := h.sub b hs; rw [hw, Array.size_append]; omega, h.empty, h.fresh, h.inj, fun k hk hl hc => ?_, h.mp.step (Yg _) (fun _ _ hv _ => ⟨hv, rfl, rfl⟩) (fun _ h => h) (fun _ h => .inl h) hext.blk (fun b o ho _ => (hb b (Zbc ho)).trans ho)⟩, hext⟩
 obtain ⟨C, c1, c2, c3, c4⟩ := h.blk k hk hl hc
 have hlt : (m k).b < w.heap.size := (YB.1 c1).1
 exact ⟨C, by rw [hb _ hlt]; exact c1, c2, c3, fun i x v hx hv => ⟨(c4 i x v hx hv).1, (c4 i x v hx hv).2.ext hext hk⟩⟩
theorem Zgg (xs : List ByteArray) : Zai Zaj xs = xs.map fun x => .d (.str x) := by
 induction xs with
 | nil => rfl
 | cons x l ih => rw [Zbp, ih]; rfl
def bl8 (x : ByteArray) : List UInt8 := x.data.toList
def Zho (xs : List ByteArray) : List ByteArray := xs.mergeSort fun x y => decide (bl8 x ≤ bl8 y)
theorem ZnQ (xs : List ByteArray) : (Zho xs).length = xs.length := List.length_mergeSort _
theorem ZmX (xs : List ByteArray) : (xs.map bl8).mergeSort (fun x y => decide (x ≤ y)) = (Zho xs).map bl8 := by
 unfold Zho
 rw [List.map_mergeSort (s := fun x y => decide (x ≤ y)) (f := bl8) (fun _ _ _ _ => rfl)]
theorem Zn1 (x : ByteArray) : Go.Proofs.encStr (bl8 x) = .string x := by
 unfold bl8
 obtain ⟨⟨l⟩⟩ := x
 rfl
theorem Zwj {off : Nat} {d : Array (List UInt8)} {C : Array Value} {i : Nat} (hi : i < d.size) (hC : off + i < C.size) : (Go.Sort.putCells Go.Proofs.encStr off d C)[off + i]? = some (Go.Proofs.encStr d[i]!) := by
 unfold Go.Sort.putCells
 rw [YbH, Yh hC, YH, if_pos (by omega)]
 rw [show off + i - off = i from by omega]
theorem ZpZ {off : Nat} {d : Array (List UInt8)} {C : Array Value} : (Go.Sort.putCells Go.Proofs.encStr off d C).size = C.size := by
 unfold Go.Sort.putCells
 rw [Array.size_mapIdx]
theorem ZqY (w : World) (b : Nat) (f : Array Value → Array Value) {C : Array Value} {e : TypeId} {fr : Nat × Nat} (h : w.heap[b]? = some (.cells C e fr)) (i : Nat) : (Go.Sort.mapBlock w b f).heap[i]? = if i = b then some (.cells (f C) e fr) else w.heap[i]? := by
 unfold Go.Sort.mapBlock
 show (w.heap.modify b _)[i]? = _
 rw [Ya3]
 by_cases hi : b = i
 ·subst hi; rw [if_pos rfl, if_pos rfl, h]; rfl
 ·rw [if_neg hi, if_neg fun e => hi e.symm]
theorem ZkZ {P : Program} {f : FuncId} (hb : ∃ fn c, P.funcs[f]? = some fn ∧ fn.body = some c ∧ (fn.name == "runtime.NumGoroutine") = false) {ℓ : Nat} {ℋ : Hp} {k : Key} (hk : k.1 ≤ ℓ) {g : Nat} {e : TypeId} (xs ys zs : List ByteArray)
  (hH : ℋ k = ⟨g, true, e, 1, Zai Zaj xs⟩) (hy : ys.length = xs.length) (hp : zs <+: ys) (z : AV) (R : Option Addr → Nat → Value)
  (p0 : xs = [] → ∀ a cap w, Calls P f #[.slice a 0 cap] w fun e' w' => e' = .returned (R a cap) ∧ w' = w)
  (p1 : ∀ blk off cap w, Go.Sort.Holds Go.Proofs.encStr w blk off (xs.map bl8).toArray → blk < w.heap.size → xs.length ≤ cap → Calls P f #[.slice (some ⟨blk, off, none⟩) xs.length cap] w fun e' w' =>
   e' = .returned (R (some ⟨blk, off, none⟩) cap) ∧ ∃ n os, w' = Go.Sort.grow (Go.Sort.putRow Go.Proofs.encStr (Go.Sort.ahead w n) blk off (ys.map bl8).toArray) os)
  (hz : ∀ (w' : World) (S' : Nat → Prop) (H' : Hp) (m' : Mu) (a : Option Addr), (H' k).g = g → (H' k).live = true → xs.length ≤ (m' k).cap → (0 < (m' k).cap → a = some ⟨(m' k).b, (m' k).o, none⟩) → RepA w' S' H' m' ℓ z (R a (m' k).cap))
  {Post : AV → Hp → Prop} (h : Post z (updH ℋ k ⟨g, true, e, 1, Zai Zaj zs⟩)) : Za3 P f ℓ [.ref k g 0 xs.length] ℋ Post :=
 ⟨hb, fun m S w vs hO hA => by
  obtain ⟨hs, hr⟩ := hA
  obtain ⟨vl⟩ := vs
  match vl, hs, hr with
  | [v0], _, hr =>
   have h0 := hr 0 _ v0 rfl rfl
   have hl : (ℋ k).live = true := by rw [hH]
   have hg : (ℋ k).g = g := by rw [hH]
   cases h0 with
   | refD _ _ _ _ _ _ _ hd _ => rw [hd hg.symm] at hl; cases hl
   | refL _ _ _ a _ _ hcap ha =>
    rw [YbM, Yy] at *
    have ha : 0 < (m k).cap → a = some ⟨(m k).b, (m k).o, none⟩ := fun q => by rw [ha q, Yae, Yad]
    by_cases hz0 : xs.length = 0
    ·have : xs = [] := YaS.1 hz0
     subst this
     have : ys = [] := YaS.1 hy
     subst this
     have : zs = [] := List.prefix_nil.1 hp
     subst this
     refine (p0 rfl a _ w).mono fun e' w' ⟨h1, h2⟩ => ?_
     subst h2
     have eq : updH ℋ k ⟨(ℋ k).g, true, e, 1, Zai Zaj []⟩ = ℋ := by
      funext q
      by_cases hq : q = k
      ·subst hq; rw [Zaa]; exact hH.symm
      ·rw [Zab _ _ hq]
     rw [eq] at h
     exact ⟨_, _, _, m, S, h1, h, hO, hz _ _ _ _ _ rfl hl hcap ha, ⟨fun _ h => h, fun _ _ => rfl, fun _ _ => Yg _, fun q hq hg hl => ⟨hl, rfl, rfl⟩, rfl, rfl, rfl, Yg _⟩⟩
    ·have hc0 : (m k).cap ≠ 0 := by omega
     obtain ⟨C, c1, c2, c3, c4⟩ := hO.blk k hk hl hc0
     rw [hH] at c1 c2 c3 c4
     have ha' := ha (by omega)
     subst ha'
     rw [Yap] at c2 c3
     have cell : ∀ (i : Nat) (x : ByteArray), xs[i]? = some x → C[(m k).o + i]? = some (.string x) := fun i x hx => by
      have hlt := (Yb.1 hx).1
      have hC : (m k).o + i < C.size := by omega
      obtain ⟨v, hv⟩ : ∃ v, C[(m k).o + i]? = some v := ⟨_, Yh hC⟩
      have := (c4 i (.d (.str x)) v (by show (Zai Zaj xs)[i]? = _; rw [Zgg, Ys, hx]; rfl) hv).2
      rw [hv]
      cases this with
      | d _ _ hd => cases hd with
       | str => rfl
     have hlt : (m k).b < w.heap.size := (YB.1 c1).1
     have hHolds : Go.Sort.Holds Go.Proofs.encStr w (m k).b (m k).o (xs.map bl8).toArray := fun j hj => by
      have hj' : j < xs.length := by simpa using hj
      have e1 : (xs.map bl8).toArray[j]! = bl8 xs[j] := by rw [getElem!_pos _ j hj]; simp
      rw [e1, Zn1]
      refine ⟨?_, ?_⟩
      ·unfold World.cell?
       simp only [c1]
       exact cell j xs[j] (Yd hj')
      ·unfold World.frozen?
       simp only [c1]
       simp
     refine (p1 (m k).b (m k).o (m k).cap w hHolds hlt hcap).mono fun e' w' ⟨h1, n, os, h2⟩ => ?_
     have hwr := hO.write k hk hl hc0 (Zai Zaj zs) (Go.Sort.putCells Go.Proofs.encStr (m k).o (ys.map bl8).toArray C) (by rw [ZpZ, c2, hH, Yap]) (by have := hp.length_le; rw [hH, Zgg, Yn, Yap]; omega)
      (Go.Sort.putRow Go.Proofs.encStr (Go.Sort.ahead w n) (m k).b (m k).o (ys.map bl8).toArray) (fun b => by rw [hH]; exact ZqY (Go.Sort.ahead w n) (m k).b _ c1 b) (by rw [Go.Sort.size_putRow]; rfl) rfl rfl rfl (fun i x v hx hv => by
       rw [Zgg, Ys] at hx
       cases hq' : zs[i]? with
       | none => rw [hq'] at hx; cases hx
       | some y =>
        rw [hq'] at hx
        cases hx
        have hq : ys[i]? = some y := by
         obtain ⟨t, rfl⟩ := hp
         rw [Yi (Yb.1 hq').1]; exact hq'
        have hi := (Yb.1 hq).1
        rw [Zwj (by simpa using hi) (by omega)] at hv
        have e2 : (ys.map bl8).toArray[i]! = bl8 y := by
         rw [getElem!_pos _ i (by simpa using hi)]
         simp [(Yb.1 hq).2]
        rw [e2, Zn1] at hv
        cases hv
        exact ⟨rfl, .d _ _ (.str _)⟩)
     rw [hH] at hwr
     obtain ⟨k1, k2⟩ := hwr
     obtain ⟨k3, k4⟩ := k1.grown os (w' := w') (by rw [h2]; rfl) (by rw [h2]; rfl) (by rw [h2]; rfl) (by rw [h2]; rfl)
     exact ⟨_, _, _, _, _, h1, h, k3, hz _ _ _ _ _ (by rw [Zaa]) (by rw [Zaa]) hcap (fun _ => rfl), k2.trans k4⟩⟩
theorem Zkp {P : Program} {ρ : Go.Shelf.Ren} (L : Go.Proofs.Lays.n190 P ρ) (hb : ∃ fn c, P.funcs[ρ.f 190]? = some fn ∧ fn.body = some c ∧ (fn.name == "runtime.NumGoroutine") = false) {ℓ : Nat} {ℋ : Hp} {k : Key} (hk : k.1 ≤ ℓ) {g : Nat} {e : TypeId} (xs : List ByteArray)
  (hH : ℋ k = ⟨g, true, e, 1, Zai Zaj xs⟩) (hn : xs.length < 4611686018427387904) {Post : AV → Hp → Prop} (h : Post (.tup []) (updH ℋ k ⟨g, true, e, 1, Zai Zaj (Zho xs)⟩)) : Za3 P (ρ.f 190) ℓ [.ref k g 0 xs.length] ℋ Post :=
 ZkZ hb hk xs (Zho xs) (Zho xs) hH (ZnQ xs) (List.prefix_refl _) (.tup []) (fun _ _ => .tuple #[]) (fun _ a cap w => Go.Proofs.Any.slices_Sort_string_none L a cap w)
  (fun blk off cap w hHo hlt _ => by
   have key := Go.Proofs.Any.slices_Sort_string L blk off cap (xs.map bl8) w hHo hlt (by rw [Yn]; exact hn)
   rw [Yn, ZmX] at key
   exact key)
  (fun _ _ _ _ _ _ _ _ _ => .tup _ _ rfl (fun i x v hx => by simp at hx)) h
def Zsm (xs : List ByteArray) : List ByteArray := (Go.Lib.compact (xs.map bl8)).map fun l => ⟨l.toArray⟩
theorem Zxv (l : List UInt8) : bl8 ⟨l.toArray⟩ = l := rfl
theorem Zhd (xs : List ByteArray) : (Zsm xs).map bl8 = Go.Lib.compact (xs.map bl8) := by
 unfold Zsm
 rw [Yaq]
 exact (YW fun l _ => Zxv l).trans (List.map_id _)
end Go.Eng
namespace Go.Eng
set_option linter.all false
open Go
theorem Zcy (a b : ByteArray) : sLt a b = true ↔ bl8 a < bl8 b := by
 unfold sLt bl8
 rw [ByteArray.toList_eq, ByteArray.toList_eq, Go.Proofs.bytesLess_eq, decide_eq_true_eq]
theorem ZdS {a b : ByteArray} (h : bl8 a = bl8 b) : a = b := by
 unfold bl8 at h
 obtain ⟨⟨a⟩⟩ := a
 obtain ⟨⟨b⟩⟩ := b
 simp only at h
 rw [h]
theorem Zpy {x y : List UInt8} (h : x ≤ y) (hn : x ≠ y) : x < y := by
 rcases Classical.em (x < y) with h1 | h1
 ·exact h1
 ·exact absurd (Ybu h h1) hn
theorem ZcD (a : ByteArray) : sLt a a = false := by
 cases h : sLt a a with
 | false => rfl
 | true => exact absurd ((Zcy a a).1 h) (List.lt_irrefl _)
theorem Zle {a b c : ByteArray} (h : sLt a b = true) (k : sLt b c = true) : sLt a c = true := (Zcy a c).2 (List.lt_trans ((Zcy a b).1 h) ((Zcy b c).1 k))
theorem Zmo {a b : ByteArray} (h : sLt a b = false) : bl8 b ≤ bl8 a := fun h2 => by rw [(Zcy a b).2 h2] at h; cases h
theorem Zun {a b : ByteArray} (h : sLt a b = false) (hne : a ≠ b) : sLt b a = true := (Zcy b a).2 (Zpy (Zmo h) fun e => hne (ZdS e).symm)
abbrev Asc (l : List ByteArray) : Prop := l.Pairwise fun x y => sLt x y = true
theorem ZcZ {l : List ByteArray} (h : Asc l) : l.Nodup := h.imp fun {a b} h e => by rw [e, ZcD] at h; cases h
theorem Znp {l r : List ByteArray} (h : Asc l) (k : Asc r) (hm : ∀ x, x ∈ l ↔ x ∈ r) : l = r :=
 ((List.perm_ext_iff_of_nodup (ZcZ h) (ZcZ k)).2 hm).eq_of_pairwise (fun a b _ _ h1 h2 => by have := Zle h1 h2; rw [ZcD] at this; cases this) h k
def ZtS (x : ByteArray) : List ByteArray → List ByteArray
 | [] => [x]
 | y :: l => match sLt y x with
  | true => y :: ZtS x l
  | false => x :: y :: l
def Zdp : List ByteArray → List ByteArray
 | [] => []
 | x :: l => ZtS x (Zdp l)
theorem Zfh (x : ByteArray) : ∀ l, (ZtS x l).Perm (x :: l)
 | [] => .refl _
 | y :: l => by
  unfold ZtS
  split
  ·exact ((Zfh x l).cons y).trans (.swap ..)
  ·exact .refl _
theorem Zbo : ∀ l, (Zdp l).Perm l
 | [] => .refl _
 | x :: l => (Zfh x _).trans ((Zbo l).cons x)
theorem Zld (x : ByteArray) : ∀ l, (l.Pairwise fun x y => bl8 x ≤ bl8 y) → ((ZtS x l).Pairwise fun x y => bl8 x ≤ bl8 y)
 | [], _ => by simp [ZtS]
 | y :: l, h => by
  rw [YaD] at h
  unfold ZtS
  split
  ·rename_i e
   rw [YaD]
   refine ⟨fun z hz => ?_, Zld x l h.2⟩
   rcases Yo.1 ((Zfh x l).mem_iff.1 hz) with rfl | hz
   ·exact List.le_of_lt ((Zcy y z).1 e)
   ·exact h.1 z hz
  ·rename_i e
   rw [YaD, YaD]
   refine ⟨fun z hz => ?_, h⟩
   rcases Yo.1 hz with rfl | hz
   ·exact Zmo e
   ·exact YbK (Zmo e) (h.1 z hz)
theorem Zc1 : ∀ l, (Zdp l).Pairwise fun x y => bl8 x ≤ bl8 y
 | [] => .nil
 | x :: l => Zld x _ (Zc1 l)
theorem ZoT (xs : List ByteArray) : (Zho xs).Pairwise fun x y => bl8 x ≤ bl8 y := by
 have := List.pairwise_mergeSort (le := fun x y : ByteArray => decide (bl8 x ≤ bl8 y)) (fun a b c h1 h2 => by simp only [decide_eq_true_eq] at *; exact YbK h1 h2) (fun a b => by simp only [Yz, decide_eq_true_eq]; exact List.le_total _ _) xs
 exact this.imp fun h => by simpa using h
theorem ZpG (l : List ByteArray) : Zdp l = Zho l :=
 ((Zbo l).trans (List.mergeSort_perm _ _).symm).eq_of_pairwise (fun a b _ _ h1 h2 => ZdS (Ybu h1 h2)) (Zc1 l) (ZoT l)
theorem ga {zs : List (List UInt8)} {j : Nat} (h : j < zs.length) : zs.toArray[j]! = zs[j] := by
 rw [getElem!_pos _ j (by simpa using h)]; simp
theorem Zkr {zs : List (List UInt8)} (h : zs.Pairwise fun x y => x ≤ y) : (Go.Lib.compact zs).Pairwise fun x y => x < y := by
 unfold Go.Lib.compact Go.Lib.compactUpTo
 rw [YaF]
 refine (List.pairwise_lt_range.filter _).imp_of_mem fun {a b} ha hb hab => ?_
 obtain ⟨a1, _⟩ := YJ.1 ha
 obtain ⟨b1, b2⟩ := YJ.1 hb
 rw [Yaa] at a1 b1
 unfold Go.Lib.keeps at b2
 have b3 := of_decide_eq_true b2
 have b4 : zs.toArray[b]! ≠ zs.toArray[b - 1]! := b3.resolve_left (by omega)
 rw [ga b1, ga (by omega)] at b4
 rw [ga a1, ga b1]
 have h1 : zs[a] ≤ zs[b - 1] := by
  by_cases e : a = b - 1
  ·subst e; exact List.le_refl _
  ·exact Y2.1 h a (b - 1) a1 (by omega) (by omega)
 have h2 : zs[b - 1] ≤ zs[b] := Y2.1 h (b - 1) b (by omega) b1 (by omega)
 have h3 : zs[b - 1] < zs[b] := Zpy h2 fun e => b4 e.symm
 refine Zpy (YbK h1 h2) fun e => ?_
 rw [e] at h1
 exact h1 h3
theorem Zin {zs : List (List UInt8)} (x : List UInt8) : x ∈ Go.Lib.compact zs ↔ x ∈ zs := by
 unfold Go.Lib.compact Go.Lib.compactUpTo
 constructor
 ·intro h
  obtain ⟨j, hj, rfl⟩ := Yr.1 h
  have := Yaa.1 (YJ.1 hj).1
  rw [ga this]
  exact Yay this
 ·intro h
  obtain ⟨j, hj, rfl⟩ := List.mem_iff_getElem.1 h
  have key : ∀ (n j : Nat) (hj : j < zs.length), j ≤ n → zs[j] ∈ ((List.range zs.length).filter (Go.Lib.keeps zs.toArray)).map (zs.toArray[·]!) := fun n => by
   induction n with
   | zero =>
    intro j hj hn
    have : j = 0 := by omega
    subst this
    exact Yr.2 ⟨0, YJ.2 ⟨Yaa.2 hj, by unfold Go.Lib.keeps; simp⟩, ga hj⟩
   | succ n ih =>
    intro j hj hn
    by_cases hk : Go.Lib.keeps zs.toArray j = true
    ·exact Yr.2 ⟨j, YJ.2 ⟨Yaa.2 hj, hk⟩, ga hj⟩
    ·unfold Go.Lib.keeps at hk
     rw [decide_eq_true_eq, not_or] at hk
     have e := Classical.not_not.1 hk.2
     rw [ga hj, ga (by omega)] at e
     rw [e]
     exact ih (j - 1) (by omega) (by omega)
  exact key j j hj (Yg _)
def ZdO (l : List ByteArray) : List ByteArray := Zsm (Zdp l)
theorem Zi1 (l : List ByteArray) : Asc (ZdO l) := by
 have h : ((Zdp l).map bl8).Pairwise fun x y => x ≤ y := YaF.2 (Zc1 l)
 have h2 := Zkr h
 rw [← Zhd] at h2
 exact (YaF.1 h2).imp fun h => (Zcy _ _).2 h
theorem ZdC (l : List ByteArray) (x : ByteArray) : x ∈ ZdO l ↔ x ∈ l := by
 have h1 : x ∈ ZdO l ↔ bl8 x ∈ (ZdO l).map bl8 := ⟨fun h => Yr.2 ⟨x, h, rfl⟩, fun h => by
  obtain ⟨y, hy, e⟩ := Yr.1 h
  rwa [← ZdS e]⟩
 have h2 : bl8 x ∈ (Zdp l).map bl8 ↔ x ∈ Zdp l := ⟨fun h => by
  obtain ⟨y, hy, e⟩ := Yr.1 h
  rwa [← ZdS e], fun h => Yr.2 ⟨x, h, rfl⟩⟩
 rw [h1]
 unfold ZdO
 rw [Zhd, Zin, h2]
 exact (Zbo l).mem_iff
theorem Ztk {l r : List ByteArray} (h : Asc r) (hm : ∀ x, x ∈ r ↔ x ∈ l) : ZdO l = r := Znp (Zi1 l) h fun x => by rw [ZdC, hm]
end Go.Eng
namespace Go.Eng
set_option linter.all false
open Go Go.RowKit
section
variable {α β : Type} (P : Program)
def Vp (s : Sem α) : Prop := ∀ w r w1, s.run P w = .ok r w1 → w1 = w ∧ ∀ w2, s.run P w2 = .ok r w2
def Rd (s : Sem α) : Prop := ∀ w r w1, s.run P w = .ok r w1 → w1 = w
variable {P}
theorem Vp.rd {s : Sem α} (h : Vp P s) : Rd P s := fun w r w1 e => (h w r w1 e).1
theorem Vp.pure (a : α) : Vp P (Pure.pure a : Sem α) := fun w r w1 e => by cases e; exact ⟨rfl, fun _ => rfl⟩
theorem Vp.halt (h : Halt) : Vp P (.halt h : Sem α) := fun w r w1 e => by cases e
theorem Vp.program : Vp P Go.program := fun w r w1 e => by cases e; exact ⟨rfl, fun _ => rfl⟩
theorem Vp.bind {s : Sem α} {f : α → Sem β} (h : Vp P s) (k : ∀ a, Vp P (f a)) : Vp P (s >>= f) := fun w r w1 e => by
 rw [Sem.run_bind] at e
 cases hs : s.run P w with
 | halt x w' => rw [hs] at e; cases e
 | ok a w' =>
  rw [hs] at e
  obtain ⟨rfl, h2⟩ := h w a w' hs
  obtain ⟨h3, h4⟩ := k a _ _ _ e
  exact ⟨h3, fun w2 => by rw [Sem.run_bind, h2 w2]; exact h4 w2⟩
theorem Rd.bind {s : Sem α} {f : α → Sem β} (h : Rd P s) (k : ∀ a, Rd P (f a)) : Rd P (s >>= f) := fun w r w1 e => by
 rw [Sem.run_bind] at e
 cases hs : s.run P w with
 | halt x w' => rw [hs] at e; cases e
 | ok a w' =>
  rw [hs] at e
  have h1 := h w a w' hs
  subst h1
  exact k a _ _ _ e
theorem Zds (t : TypeId) : Vp P (typeInfo t) := by
 unfold typeInfo
 refine Vp.program.bind fun p => ?_
 split
 ·exact .pure _
 ·exact .halt _
theorem ZaS (t : TypeId) : Vp P (underlying t) := by
 unfold underlying
 refine Vp.program.bind fun p => ?_
 split
 ·exact .pure _
 ·exact .halt _
theorem Za0 (t : TypeId) : Vp P (sizeOf t) := by unfold sizeOf; exact (Zds t).bind fun _ => .pure _
theorem Zc6 (t : TypeId) : Vp P (isAgg t) := by
 unfold isAgg
 refine (ZaS t).bind fun d => ?_
 split <;> exact .pure _
theorem Zt0 (t : TypeId) (cs : Array Value) (o : Nat) : Vp P (part t cs o) := by
 unfold part
 refine (Zc6 t).bind fun b => ?_
 cases b with
 | true => exact (Za0 t).bind fun _ => .pure _
 | false =>
  show Vp P (match cs[o]? with | some v => _ | none => _)
  split
  ·exact .pure _
  ·exact .halt _
theorem ZbE : ∀ (l : List FieldStep) (t : TypeId) (x : Option Value), Vp P (followBlind l t x)
 | [], t, x => .pure _
 | s :: rest, t, x => by
  unfold followBlind
  refine (ZaS _).bind fun d => ?_
  split
  ·split
   ·split
    ·exact .pure _
    ·exact ZbE rest _ _
    ·exact .halt _
    ·exact .pure _
    ·exact (Zt0 _ _ _).bind fun _ => ZbE rest _ _
    ·exact .halt _
    ·exact ZbE rest _ _
   ·exact .halt _
  ·exact .halt _
theorem Zfi : ∀ (n : Nat) (t : TypeId) (v : Value) (s : String), Vp P (nilAhead n t v s)
 | 0, t, v, s => .pure _
 | n + 1, t, v, s => by
  unfold nilAhead
  refine (Zds _).bind fun i => ?_
  split
  ·refine (ZbE _ _ _).bind fun r => ?_
   split
   ·exact .pure _
   ·split
    ·exact Zfi n _ _ _
    ·exact .pure _
    ·exact .halt _
    ·exact .pure _
    ·exact .pure _
    ·refine (ZaS _).bind fun d => ?_
     split <;> exact .pure _
  ·exact .halt _
def VV (P : Program) (s : Sem Next) : Prop := ∀ w r w1, s.run P w = .ok r w1 → ∃ v, r = .value v
theorem VV.val {s : Sem Value} : VV P (s >>= fun x => Pure.pure (Next.value x) : Sem Next) := fun w r w1 e => by
 rw [Sem.run_bind] at e
 cases hs : s.run P w with
 | halt x w' => rw [hs] at e; cases e
 | ok a w' => rw [hs] at e; cases e; exact ⟨a, rfl⟩
theorem Vp.val {s : Sem Value} (h : Vp P s) : Vp P (s >>= fun x => Pure.pure (Next.value x) : Sem Next) := h.bind fun _ => .pure _
theorem Rd.val {s : Sem Value} (h : Rd P s) : Rd P (s >>= fun x => Pure.pure (Next.value x) : Sem Next) := h.bind fun _ => (Vp.pure _).rd
end
theorem ZcV {P : Program} (t : TypeId) : Vp P (zeroValue t) := by
 unfold zeroValue
 refine (Zds t).bind fun i => ?_
 split
 ·exact .pure _
 ·exact .halt _
theorem Zne {α β : Type} {P : Program} {f : α → Sem β} (h : ∀ x, Vp P (f x)) : ∀ l : List α, Vp P (l.mapM f)
 | [] => by rw [List.mapM_nil]; exact .pure _
 | x :: l => by rw [Ybe]; exact (h x).bind fun _ => (Zne h l).bind fun _ => .pure _
theorem Zsp {α β : Type} {P : Program} {f : α → Sem β} (h : ∀ x, Vp P (f x)) (l : Array α) : Vp P (l.mapM f) := by
 rw [Ybr]
 exact (Zne h _).bind fun _ => .pure _
theorem ZoA {P : Program} (t : TypeId) (ps : Array (Nat × Value)) : Vp P (Instr.build t ps) := by
 unfold Instr.build
 refine (ZcV t).bind fun z => (ZaS t).bind fun d => ?_
 split
 ·refine (Zsp (fun f => (Za0 _).bind fun _ => .pure _) _).bind fun pl => ?_
  split
  ·exact .pure _
  ·exact .halt _
 ·refine (Za0 _).bind fun n => ?_
  split
  ·exact .pure _
  ·exact .halt _
 ·exact .halt _
def Nv {α : Type} (P : Program) (s : Sem α) : Prop := ∀ w r w1, s.run P w ≠ .ok r w1
theorem Nv.vp {α : Type} {P : Program} {s : Sem α} (h : Nv P s) : Vp P s := fun w r w1 e => absurd e (h w r w1)
theorem ZgW {α : Type} {P : Program} (k : IntKind) (x y : Int) (c : BoundsCode) : Nv P (boundsPanic k x y c : Sem α) := fun w r w1 e => by
 unfold boundsPanic at e
 dsimp only at e
 have h2 : ∀ (s : Bool) w r w1, (runtimePanic (.bounds (IntKind.i64.wrap x) y s c) : Sem α).run P w ≠ .ok r w1 := fun s w r w1 e => by
  unfold runtimePanic at e
  simp only [Sem.run_bind, run_program, Result.andThen_ok] at e
  repeat (first | (cases e; done) | split at e | (simp [goPanic, stuck, unsupported, Sem.run] at e; done))
 split at e
 all_goals
  rw [Sem.run_bind] at e
  generalize hs : Sem.run P _ w = q at e
  cases q with
  | halt x w' => cases e
  | ok a w' => exact h2 _ _ _ _ e
theorem Zxf {α : Type} {P : Program} : Nv P (runtimePanic .nilDeref : Sem α) := fun w r w1 e => by
 unfold runtimePanic at e
 simp only [Sem.run_bind, run_program, Result.andThen_ok] at e
 repeat (first | (cases e; done) | split at e | (simp [goPanic, stuck, unsupported, Sem.run] at e; done))
theorem ZfN {P : Program} (v : Value) : Vp P (asIntOf v) := by
 unfold asIntOf
 split
 ·exact .pure _
 ·exact .halt _
 ·exact .halt _
theorem ZnP {P : Program} (v : Value) : Vp P (Instr.sureAddr v) := by
 unfold Instr.sureAddr
 split
 ·exact .pure _
 ·exact .halt _
theorem ZlE {P : Program} (v : Value) : Vp P (asAddr v) := by
 unfold asAddr
 split
 ·exact .pure _
 ·first | exact Zxf.vp | exact .halt _
 ·exact .halt _
theorem ZgR {P : Program} (x : Value) (y : Nat) (c : BoundsCode) : Vp P (Instr.sliceBound x y c) := by
 unfold Instr.sliceBound
 refine (ZfN _).bind fun p => ?_
 dsimp only
 split
 ·exact .pure _
 ·exact (ZgW _ _ _ _).vp
theorem Zdg {P : Program} (b : Bool) (n m : Nat) (lo hi mx : Option Value) : Vp P (Instr.sliceBounds b n m lo hi mx) := by
 unfold Instr.sliceBounds
 dsimp only
 repeat' (first | exact Vp.pure _ | exact ZgR _ _ _ | exact Vp.halt _ | refine Vp.bind ?_ fun _ => ?_ | split)
theorem Zo8 {P : Program} (t : TypeId) (x : Value) (lo hi mx : Option Value) : Vp P (Instr.slice t x lo hi mx) := by
 unfold Instr.slice
 dsimp only
 repeat' (first | exact Vp.pure _ | exact Zdg _ _ _ _ _ _ | exact ZaS _ | exact Za0 _ | exact ZlE _ | exact Vp.halt _ | refine Vp.bind ?_ fun _ => ?_ | split)
theorem Zkh {P : Program} (t : TypeId) (x : Value) (lo hi mx : Option Value) : Vp P (Instr.sliceAt t x lo hi mx) := by
 unfold Instr.sliceAt
 repeat' (first | exact Vp.pure _ | exact Zdg _ _ _ _ _ _ | exact ZaS _ | exact Za0 _ | exact ZnP _ | exact Zo8 _ _ _ _ _ | exact Vp.halt _ | refine Vp.bind ?_ fun _ => ?_ | split)
theorem ZkH {P : Program} (t : TypeId) (x i : Value) : Vp P (Instr.indexAt t x i) := by
 unfold Instr.indexAt
 dsimp only
 repeat' (first | exact Vp.pure _ | exact ZfN _ | exact ZaS _ | exact Za0 _ | exact ZnP _ | exact (ZgW _ _ _ _).vp | exact Vp.halt _ | refine Vp.bind ?_ fun _ => ?_ | split)
theorem Zj1 {P : Program} (v : Value) (i : Nat) : Vp P (Instr.extract v i) := by
 unfold Instr.extract
 split
 ·split
  ·exact .pure _
  ·exact .halt _
 ·exact .halt _
def ZzH (P : Program) (c : Call) : Bool := match c.callee, c.args.toList, c.argTypes.toList with
 | .builtin .len, [_], [t] => (match P.underlying t with | some (.slice _) => true | some .string => true | _ => false)
 | _, _, _ => false
theorem Zw3 {P : Program} {t : TypeId} {ty : TypeId} (x : Value) (h : (match P.underlying t with | some (.slice _) => true | some .string => true | _ => false) = true) : Vp P (Builtin.len_ #[t] ty #[x]) := by
 unfold Builtin.len_
 simp only [Ya1, YO]
 intro w r w1 e
 have hu : ∃ d, P.underlying t = some d ∧ ((∃ q, d = .slice q) ∨ d = .string) := by
  grind
 obtain ⟨d, hu, hd⟩ := hu
 simp only [Sem.run_bind, run_underlying hu, Result.andThen_ok] at e ⊢
 rcases hd with ⟨q, rfl⟩ | rfl
 ·cases x <;> first | (cases e; exact ⟨rfl, fun _ => rfl⟩) | (cases e; done)
 ·cases x <;> first | (cases e; exact ⟨rfl, fun _ => rfl⟩) | (cases e; done)
def vpO (P : Program) (o : Oper) : Bool := match o.op with
 | .build _ _ => true
 | .extract _ _ => true
 | .indexAddr _ _ _ => true
 | .slice _ _ _ _ _ => true
 | .makeFunc _ _ _ => true
 | .call c => ZzH P c
 | .move _ => true
 | .assign _ => true
 | .nilCheck _ => true
 | .fieldAddr t _ i => (match P.underlying t with | some (.struct fs) => (match fs[i]? with | some f => !(Nat.beq (P.cellsOf f.type) 0) | none => false) | _ => false)
 | _ => false
def rdO (P : Program) (o : Oper) : Bool := vpO P o || match o.op with | .load _ _ => true | _ => false
section
variable {P : Program} {ρ : Operand → Value} {o : Oper}
theorem Zfj (h : vpO P o = true) : Vp P (execOp ρ o) ∧ VV P (execOp ρ o) := by
 obtain ⟨dst, op, type, pos, after, guard⟩ := o
 cases op <;> simp only [vpO] at h <;> first | (cases h; done) | skip
 case move x => exact ⟨.pure _, fun w r w1 e => by cases e; exact ⟨_, rfl⟩⟩
 case assign x => exact ⟨.pure _, fun w r w1 e => by cases e; exact ⟨_, rfl⟩⟩
 case build t ps => exact ⟨(ZoA _ _).val, VV.val⟩
 case makeFunc f a b => exact ⟨(Vp.pure _).val, VV.val⟩
 case extract x i => exact ⟨(Zj1 _ _).val, VV.val⟩
 case indexAddr t x i => exact ⟨(ZkH _ _ _).val, VV.val⟩
 case slice t x a b c => exact ⟨(Zkh _ _ _ _ _).val, VV.val⟩
 case call c =>
  unfold ZzH at h
  split at h
  ·rename_i x t hc ha ht
   obtain ⟨cal, az, ts⟩ := c
   simp only at hc ha ht
   subst hc
   have e1 : az = #[x] := Y1 (by simpa using ha)
   have e2 : ts = #[t] := Y1 (by simpa using ht)
   subst e1; subst e2
   have : execOp ρ ⟨dst, .call ⟨.builtin .len, #[x], #[t]⟩, type, pos, after, guard⟩ = (Builtin.len_ #[t] type #[ρ x] >>= fun v => (Pure.pure (Next.value v) : Sem Next)) := by
    simp [execOp, resolve, invoke, Go.builtin]
   rw [this]
   exact ⟨(Zw3 _ h).val, VV.val⟩
  ·cases h
 case nilCheck x =>
  have hp : ∀ v : Value, Vp P (pure (.value v) : Sem Next) ∧ VV P (pure (.value v) : Sem Next) := fun v => ⟨.pure _, fun w r w1 e => by cases e; exact ⟨_, rfl⟩⟩
  have hr : Vp P (runtimePanic .nilDeref : Sem Next) ∧ VV P (runtimePanic .nilDeref : Sem Next) := by
   have : ∀ w r w1, (runtimePanic .nilDeref : Sem Next).run P w ≠ .ok r w1 := fun w r w1 e => by
    unfold runtimePanic at e
    simp only [Sem.run_bind, run_program, Result.andThen_ok] at e
    repeat (first | (cases e; done) | split at e | (simp [goPanic, stuck, unsupported, Sem.run] at e; done))
   exact ⟨fun w r w1 e => absurd e (this w r w1), fun w r w1 e => absurd e (this w r w1)⟩
  show Vp P (execOp ρ _) ∧ _
  simp only [execOp]
  split
  ·exact hr
  ·exact hr
  ·exact hr
  ·split
   ·exact hr
   ·refine ⟨Vp.program.bind fun p => (Zfi _ _ _ _).bind fun b => ?_, fun w r w1 e => ?_⟩
    ·split
     ·exact .halt _
     grind
    ·simp only [Sem.run_bind, run_program, Result.andThen_ok] at e
     cases hs : (nilAhead _ _ _ _).run P w with
     | halt x w' => rw [hs] at e; cases e
     | ok a w' =>
      rw [hs] at e
      simp only [Result.andThen_ok] at e
      split at e
      ·cases e
      ·cases e; exact ⟨_, rfl⟩
   grind
  ·grind
 case fieldAddr t x i =>
  refine ⟨Vp.val ?_, VV.val⟩
  unfold Instr.fieldAt
  intro w r w1 e
  split at h
  ·rename_i fs hu
   split at h
   ·rename_i f hf
    have hz : P.cellsOf f.type ≠ 0 := fun h0 => by rw [h0] at h; cases h
    have run : ∀ (ad : Addr) (w : World), (Instr.fieldAt t (.pointer (some ad)) i).run P w = .ok (.pointer (some (ad.add f.offset))) w := fun ad w => by
     simp [Instr.fieldAt, run_underlying hu, hf, Instr.sureAddr, fieldPlace, Zbh hz, hz]
    have bad : ∀ v : Value, (∀ ad, v ≠ .pointer (some ad)) → (Instr.fieldAt t v i).run P w ≠ .ok r w1 := fun v hv e => by
     have hs : Instr.sureAddr v = .halt (.stuck "an address expected (no nilCheck in front?)") := by
      unfold Instr.sureAddr
      split
      ·grind
      ·rfl
     simp only [Instr.fieldAt, Sem.run_bind, run_underlying hu, Result.andThen_ok, hf, hs] at e
     cases e
    change (Instr.fieldAt t (ρ x) i).run P w = .ok r w1 at e
    show w1 = w ∧ ∀ w2, (Instr.fieldAt t (ρ x) i).run P w2 = .ok r w2
    grind
   ·cases h
  ·cases h
theorem Zf5 (a : Addr) : Rd P (load a) := fun w r w1 e => by
 unfold load at e
 simp only [Sem.run] at e
 grind
theorem Zb5 (a : Addr) : ∀ (n i : Nat) (acc : Array Value), Rd P (loadCellsFrom a i n acc)
 | 0, i, acc => (Vp.pure _).rd
 | n + 1, i, acc => by unfold loadCellsFrom; exact (Zf5 _).bind fun v => Zb5 a n (i + 1) _
theorem Zd3 (t : TypeId) (a : Addr) : Rd P (loadVar t a) := by
 unfold loadVar
 refine (Zc6 t).rd.bind fun b => ?_
 cases b with
 | true => exact (Za0 t).rd.bind fun n => (Zb5 a n 0 _).bind fun _ => (Vp.pure _).rd
 | false => exact Zf5 a
theorem ZdQ (h : rdO P o = true) : Rd P (execOp ρ o) ∧ VV P (execOp ρ o) := by
 unfold rdO at h
 rw [Yz] at h
 rcases h with h | h
 ·obtain ⟨h1, h2⟩ := Zfj (ρ := ρ) h
  exact ⟨h1.rd, h2⟩
 ·obtain ⟨dst, op, type, pos, after, guard⟩ := o
  cases op <;> simp only at h <;> first | (cases h; done) | skip
  refine ⟨Rd.val ?_, VV.val⟩
  unfold Instr.loadAt
  refine Rd.bind ?_ fun a => Zd3 _ _
  unfold Instr.sureAddr
  split
  ·exact (Vp.pure _).rd
  ·exact (Vp.halt _).rd
def Zna (w w1 : World) : Prop := ∀ (k : Nat) (o : Obj), w.heap[k]? = some o → w1.heap[k]? = some o
theorem Zna.refl (w : World) : Zna w w := fun _ _ h => h
theorem Zna.cell {w w1 : World} {a : Addr} {v : Value} (h : Zna w w1) (hc : w.cell? a = some v) : w1.cell? a = some v := by
 unfold World.cell? at hc ⊢
 cases hb : w.heap[a.block]? with
 | none => rw [hb] at hc; cases hc
 | some o => rw [hb] at hc; rw [h _ _ hb]; exact hc
theorem Zna.seen {w w1 : World} {p : Program} {at_ : Addr} {u : TypeId} {k : Addr} {b : Bool} (h : Zna w w1) {r} (hc : w.seen p at_ u k b = .ok r) : w1.seen p at_ u k b = .ok r := by
 cases hb : w.heap[at_.block]? with
 | none =>
  exfalso
  unfold World.seen at hc
  rw [hb] at hc
  have T : ∀ (α : Type) (e : String), (MonadExcept.throw e : Except String α) = .error e := fun _ _ => rfl
  simp only [bind, Except.bind, pure, Except.pure, throw, throwThe, T] at hc
  grind
 | some o =>
  unfold World.seen at hc ⊢
  rw [h _ _ hb]
  grind
theorem Zna.far {w w1 : World} {p : Program} {a : Addr} {b : Bool} (h : Zna w w1) {r} (hc : w.farLoad p a b = .ok r) : w1.farLoad p a b = .ok r := by
 unfold World.farLoad at hc ⊢
 cases hb : w.heap[a.block]? with
 | none => rw [hb] at hc; cases hc
 | some o =>
  rw [hb] at hc
  rw [h _ _ hb]
  cases o <;> simp only at hc ⊢ <;> first | (cases hc; done) | skip
  rename_i at_ u
  cases hv : w.viewLoad p at_ u a b with
  | error e => rw [hv] at hc; cases hc
  | ok q =>
   rw [hv] at hc
   have : w1.viewLoad p at_ u a b = .ok q := by
    unfold World.viewLoad at hv ⊢
    cases hs : w.seen p at_ u a b with
    | error e => rw [hs] at hv; cases hv
    | ok z => rw [hs] at hv; rw [h.seen hs]; exact hv
   grind
variable {α β : Type}
def Sta (P : Program) (s : Sem α) : Prop := ∀ w r w1 w2, s.run P w = .ok r w1 → Zna w w2 → s.run P w2 = .ok r w2
theorem Vp.sta {s : Sem α} (h : Vp P s) : Sta P s := fun w r w1 w2 e _ => (h w r w1 e).2 w2
theorem Sta.bind {s : Sem α} {f : α → Sem β} (hr : Rd P s) (h : Sta P s) (k : ∀ a, Sta P (f a)) : Sta P (s >>= f) := fun w r w1 w2 e hx => by
 rw [Sem.run_bind] at e ⊢
 cases hs : s.run P w with
 | halt x w' => rw [hs] at e; cases e
 | ok a w' =>
  rw [hs] at e
  have h1 := hr w a w' hs
  subst h1
  rw [h _ _ _ _ hs hx]
  exact k a _ _ _ _ e hx
theorem Zjd (a : Addr) : Sta P (load a) := fun w r w1 w2 e hx => by
 unfold load at e ⊢
 simp only [Sem.run] at e ⊢
 cases hc : w.cell? a with
 | some v => rw [hc] at e; rw [hx.cell hc]; cases e; rfl
 | none =>
  rw [hc] at e
  cases hf : w.farLoad P a (Mode.plain == Mode.atomic) with
  | error x => rw [hf] at e; cases e
  | ok q =>
   have e2 : w2.cell? a = none := by
    unfold World.farLoad at hf
    unfold World.cell?
    cases hb : w.heap[a.block]? with
    | none => rw [hb] at hf; cases hf
    | some o =>
     rw [hb] at hf
     rw [hx _ _ hb]
     grind
   rw [hf] at e
   rw [e2, hx.far hf]
   grind
theorem ZdF (a : Addr) : ∀ (n i : Nat) (acc : Array Value), Sta P (loadCellsFrom a i n acc)
 | 0, i, acc => (Vp.pure _).sta
 | n + 1, i, acc => by unfold loadCellsFrom; exact .bind (Zf5 _) (Zjd _) fun v => ZdF a n (i + 1) _
theorem Ziy (t : TypeId) (a : Addr) : Sta P (loadVar t a) := by
 unfold loadVar
 refine .bind (Zc6 t).rd (Zc6 t).sta fun b => ?_
 cases b with
 | true => exact .bind (Za0 t).rd (Za0 t).sta fun n => .bind (Zb5 a n 0 _) (ZdF a n 0 _) fun _ => (Vp.pure _).sta
 | false => exact Zjd a
theorem ZjK (h : rdO P o = true) : Sta P (execOp ρ o) := by
 unfold rdO at h
 rw [Yz] at h
 rcases h with h | h
 ·exact (Zfj (ρ := ρ) h).1.sta
 ·obtain ⟨dst, op, type, pos, after, guard⟩ := o
  cases op <;> simp only at h <;> first | (cases h; done) | skip
  have hs : ∀ v : Value, Rd P (Instr.sureAddr v) ∧ Sta P (Instr.sureAddr v) := fun v => by
   unfold Instr.sureAddr
   split
   ·exact ⟨(Vp.pure _).rd, (Vp.pure _).sta⟩
   ·exact ⟨(Vp.halt _).rd, (Vp.halt _).sta⟩
  refine Sta.bind (s := Instr.loadAt _ _) (Rd.bind (hs _).1 fun a => Zd3 _ _) (.bind (hs _).1 (hs _).2 fun a => Ziy _ _) fun _ => (Vp.pure _).sta
def grO (o : Oper) : Bool := match o.op with | .buildSlice _ _ _ => true | .alloc _ => true | _ => false
theorem ZoC {w : World} {o : Obj} : Zna w { w with heap := w.heap.push o } := fun k o' h => by
 grind
def Gr (P : Program) (s : Sem α) : Prop := ∀ w r w1, s.run P w = .ok r w1 → Zna w w1
theorem Rd.gr {s : Sem α} (h : Rd P s) : Gr P s := fun w r w1 e => by rw [h w r w1 e]; exact .refl _
theorem Gr.bind {s : Sem α} {f : α → Sem β} (h : Gr P s) (k : ∀ a, Gr P (f a)) : Gr P (s >>= f) := fun w r w1 e => by
 rw [Sem.run_bind] at e
 cases hs : s.run P w with
 | halt x w' => rw [hs] at e; cases e
 | ok a w' =>
  rw [hs] at e
  exact fun q o hq => k a _ _ _ e _ _ (h _ _ _ hs _ _ hq)
theorem Ze7 (t : TypeId) (cs : Array Value) : Gr P (newRow t cs) := fun w r w1 e => by
 unfold newRow newObj at e
 cases e
 exact ZoC
theorem Zgq (t : TypeId) (n : Nat) (ps : Array (Nat × Value)) : Gr P (Instr.buildSlice t n ps) := by
 unfold Instr.buildSlice
 refine (ZaS t).rd.gr.bind fun d => ?_
 split
 ·refine (Za0 _).rd.gr.bind fun size => ?_
  by_cases h1 : n * size > 2 ^ 24
  ·rw [if_pos h1]
   intro w r w1 e
   cases e
  ·rw [if_neg h1]
   by_cases h2 : n * size = 0
   ·rw [if_pos h2]
    refine Gr.bind (s := Pure.pure _) (Vp.pure _).rd.gr fun z => ?_
    dsimp only
    split
    ·exact (Ze7 _ _).bind fun _ => (Vp.pure _).rd.gr
    ·exact (Vp.halt _).rd.gr
   ·rw [if_neg h2]
    refine (ZcV _).rd.gr.bind fun z => Gr.bind (s := Pure.pure _) (Vp.pure _).rd.gr fun z => ?_
    dsimp only
    split
    ·exact (Ze7 _ _).bind fun _ => (Vp.pure _).rd.gr
    ·exact (Vp.halt _).rd.gr
 ·exact (Vp.halt _).rd.gr
theorem ZtC (h : grO o = true) : Gr P (execOp ρ o) ∧ VV P (execOp ρ o) := by
 obtain ⟨dst, op, type, pos, after, guard⟩ := o
 cases op <;> simp only [grO] at h <;> first | (cases h; done) | skip
 case buildSlice => exact ⟨(Zgq _ _ _).bind fun _ => (Vp.pure _).rd.gr, VV.val⟩
 case alloc t => exact ⟨Gr.bind (s := Instr.alloc _ _ _) ((ZcV _).rd.gr.bind fun z => Gr.bind (s := newVar _ _) (Ze7 _ _ |>.bind fun _ => (Vp.pure _).rd.gr) fun _ => (Vp.pure _).rd.gr) fun _ => (Vp.pure _).rd.gr, VV.val⟩
theorem Zij (h : (rdO P o || grO o) = true) : Gr P (execOp ρ o) ∧ VV P (execOp ρ o) := by
 rw [Yz] at h
 rcases h with h | h
 ·exact ⟨(ZdQ h).1.gr, (ZdQ h).2⟩
 ·exact ZtC h
end
inductive Waits (ops : Array Oper) : Nat → Nat → Prop
 | one {j i : Nat} {oj : Oper} {e : Edge} (hj : ops[j]? = some oj) (he : e ∈ oj.after) (hb : Region.binds .any e = true) (hi : e.on = i) : Waits ops j i
 | more {j m i : Nat} {oj : Oper} {e : Edge} (hj : ops[j]? = some oj) (he : e ∈ oj.after) (hb : Region.binds .any e = true) (hm : e.on = m) (h : Waits ops m i) : Waits ops j i
def Zjr (L : List Oper) (i : Nat) : Nat → Nat → Bool
 | 0, _ => false
 | fu + 1, j => match nth L j with | some oj => oj.after.toList.any fun e => Region.binds .any e && (Nat.beq e.on i || Zjr L i fu e.on) | none => false
theorem Zfa {L : List Oper} {i : Nat} : ∀ (fu j : Nat), Zjr L i fu j = true → Waits L.toArray j i
 | 0, j, h => by cases h
 | fu + 1, j, h => by
  unfold Zjr at h
  rw [Za2] at h
  split at h
  ·rename_i oj ho
   obtain ⟨e, he, h⟩ := YL.1 h
   rw [Yc, Yz] at h
   have hj : L.toArray[j]? = some oj := by simpa using ho
   rcases h.2 with h2 | h2
   ·exact .one hj (by simpa using he) h.1 (Ya h2)
   ·exact .more hj (by simpa using he) h.1 rfl (Zfa fu _ h2)
  ·cases h
def DC (ops : Array Oper) (listed : Array Bool) : Prop := ∀ (m : Nat) (om : Oper), ops[m]? = some om → listed.getD m false = true → ∀ e ∈ om.after, Region.binds .any e = true → listed.getD e.on false = true
theorem DC.waits {ops : Array Oper} {listed : Array Bool} (h : DC ops listed) {j i : Nat} (hw : Waits ops j i) : listed.getD j false = true → listed.getD i false = true := by
 induction hw with
 | one hj he hb hi => intro hl; rw [← hi]; exact h _ _ hj hl _ he hb
 | more hj he hb hm _ ih => intro hl; exact ih (by rw [← hm]; exact h _ _ hj hl _ he hb)
theorem Zsy {listed : Array Bool} {i : Nat} (h : listed.getD i true = false) : listed.getD i false = false := by
 grind
theorem DC.ready {ops : Array Oper} {listed : Array Bool} (h : DC ops listed) {j : Nat} (hj : j ∈ Region.ready .any ops listed) : DC ops (listed.setIfInBounds j true) := by
 obtain ⟨h0, oj, hoj, hall⟩ := mem_ready.1 hj
 intro m om hm hl e he hb
 by_cases hmj : j = m
 ·subst hmj
  rw [hoj] at hm
  cases hm
  exact getD_set_true (hall e he hb)
 ·rw [getD_set_ne false hmj] at hl
  exact getD_set_true (h m om hm hl e he hb)
theorem DC.nowait {ops : Array Oper} {listed : Array Bool} (h : DC ops listed) {j i : Nat} (hj : j ∈ Region.ready .any ops listed) (hi : listed.getD i true = false) : ¬ Waits ops j i := fun hw => by
 obtain ⟨h0, oj, hoj, hall⟩ := mem_ready.1 hj
 have hi := Zsy hi
 cases hw with
 | one hj' he hb he2 =>
  grind
 | more hj' he hb hm hw' =>
  rw [hoj] at hj'
  cases hj'
  have := h.waits hw' (by rw [← hm]; exact hall _ he hb)
  grind
section
variable {P : Program} {ops : Array Oper} {Q : Exit → Act → World → Prop}
theorem Zj6 {i : Nat} {oi : Oper} {v : Value} (hi : ops[i]? = some oi) (hro : rdO P oi = true) (hu : ∀ (j : Nat) (o : Oper), ops[j]? = some o → o.guard = none) (hsel : ∀ (j : Nat) (o : Oper) cs b, ops[j]? = some o → o.op ≠ .select cs b)
  (hQ : ∀ c a w, ¬ Q (.panic c) a w) (hO : ¬ LetsOut Q) : ∀ (fuel : Nat) (listed : Array Bool) (a : Act) (w : World), DC ops listed →
   (∀ j oj, ops[j]? = some oj → j ≠ i → listed.getD j true = false → ¬ Waits ops j i → oi.apart ops oj = true ∧ (rdO P oj || grO oj) = true) →
   i ∈ Region.ready .any ops listed → (execOp a.eval oi).run P w = .ok (.value v) w →
   wpAny P .any ops Q fuel (listed.setIfInBounds i true) (a.put oi.dst v) w → wpAny P .any ops Q (fuel + 1) listed a w := by
 have self : ∀ {a : Act} {w : World} {K : Act → World → Prop}, (execOp a.eval oi).run P w = .ok (.value v) w → K (a.put oi.dst v) w → wpOp P ops Q i K a w := fun hy h => by
  unfold wpOp
  simp only [hi]
  rw [if_pos (by simp [Region.wanted, hu i oi hi])]
  left
  unfold Oper.wp
  rw [hy]
  exact h
 intro fuel
 induction fuel with
 | zero =>
  intro listed a w _ _ hr hy H
  refine ⟨fun h => (by rw [h] at hr; cases hr), fun j hj => ?_⟩
  by_cases hji : j = i
  ·grind
  ·have := ready_mono hj hji
   rw [H.1] at this
   cases this
 | succ fuel ih =>
  intro listed a w hD hF hr hy H
  refine ⟨fun h => (by rw [h] at hr; cases hr), fun j hj => ?_⟩
  by_cases hji : j = i
  ·grind
  ·have h1 := H.2 j (ready_mono hj hji)
   obtain ⟨hjun, oj, hoj, hall⟩ := mem_ready.1 hj
   have hiun := (mem_ready.1 hr).1
   obtain ⟨hap, hrd⟩ := hF j oj hoj hji hjun (hD.nowait hj hiun)
   obtain ⟨p1, p2, p3⟩ := Oper.apart_spec hap
   obtain ⟨q1, q2⟩ := Zij (P := P) (ρ := a.eval) hrd
   unfold wpOp at h1 ⊢
   simp only [hoj] at h1 ⊢
   have hwt : ∀ y, Region.wanted oj y = true := fun y => by simp [Region.wanted, hu j oj hoj]
   rw [if_pos (hwt _)] at h1 ⊢
   rcases h1 with h1 | ⟨_, h1⟩
   case inr => exact absurd h1 hO
   left
   unfold Oper.wp at h1 ⊢
   rw [execOp_put oj (fun cs b => hsel j oj cs b hoj) a oi.dst v p1] at h1
   cases hrun : (execOp a.eval oj).run P w with
   | halt x w' =>
    rw [hrun] at h1
    cases x <;> simp only [Oper.upon] at h1
    grind
   | ok n w' =>
    have hw' := q1 _ _ _ hrun
    obtain ⟨u, rfl⟩ := q2 _ _ _ hrun
    rw [hrun] at h1
    simp only [Oper.upon] at h1 ⊢
    refine ih (listed.setIfInBounds j true) (a.put oj.dst u) w' (hD.ready hj) (fun k ok hk hki hun hno => ?_) (ready_mono hr (Ne.symm hji)) ?_ ?_
    ·refine hF k ok hk hki ?_ hno
     by_cases hjk : j = k
     ·grind
     ·rw [getD_set_ne true hjk] at hun; exact hun
    ·rw [execOp_put oi (fun cs b => hsel i oi cs b hi) a oj.dst u p3]; exact ZjK hro _ _ _ _ hy hw'
    ·rw [YaP _ _ hji, ← Act.put_comm a v u p2]; exact h1
end
def Zxo (P : Program) (L : List Oper) (listed : List Nat) (i : Nat) (oi : Oper) : Nat → List Oper → Bool
 | _, [] => true
 | j, oj :: r => (listed.any (Nat.beq j) || Nat.beq j i || Zjr L i L.length j || (oi.apart L.toArray oj && (vpO P oi || (rdO P oi && (rdO P oj || grO oj))))) && Zxo P L listed i oi (j + 1) r
def ZgL (P : Program) (L : List Oper) : List Nat → List Nat → Bool
 | listed, [] => (List.range L.length).all fun j => listed.any (Nat.beq j)
 | listed, i :: rest => (match nth L i with
  | some oi => !(listed.any (Nat.beq i)) && oi.after.toList.all (fun e => !Region.binds .any e || listed.any (Nat.beq e.on)) && (match vpO P oi with | true => chkV P L listed i oi 0 L | false => Zxo P L listed i oi 0 L)
  | none => false) && ZgL P L (i :: listed) rest
where chkV (P : Program) (L : List Oper) (listed : List Nat) (i : Nat) (oi : Oper) : Nat → List Oper → Bool
 | _, [] => true
 | j, oj :: r => (listed.any (Nat.beq j) || Nat.beq j i || oj.after.toList.any (fun e => Region.binds .any e && Nat.beq e.on i) || oi.apart L.toArray oj) && chkV P L listed i oi (j + 1) r
theorem Zbv {l : List Nat} {j : Nat} : l.any (Nat.beq j) = true ↔ j ∈ l := by
 rw [YL]
 exact ⟨fun ⟨x, hx, h⟩ => Ya h ▸ hx, fun h => ⟨j, h, Ybs j⟩⟩
theorem Zh2 {P : Program} {L : List Oper} {listed : List Nat} {i : Nat} {oi : Oper} : ∀ {r : List Oper} {j0 k : Nat} {oj : Oper}, Zxo P L listed i oi j0 r = true → r[k]? = some oj →
  (j0 + k) ∈ listed ∨ j0 + k = i ∨ Waits L.toArray (j0 + k) i ∨ (oi.apart L.toArray oj = true ∧ (vpO P oi = true ∨ rdO P oi = true ∧ (rdO P oj || grO oj) = true))
 | [], j0, k, oj, _, h => by simp at h
 | q :: r, j0, k, oj, hc, h => by
  unfold Zxo at hc
  rw [Yc] at hc
  cases k with
  | zero =>
   simp only [YO, Ye] at h
   subst h
   have h1 := hc.1
   simp only [Yz, Yc] at h1
   rcases h1 with ((h1 | h1) | h1) | h1
   ·exact .inl (Zbv.1 h1)
   ·exact .inr (.inl (Ya h1))
   ·exact .inr (.inr (.inl (Zfa _ _ h1)))
   grind
  | succ k =>
   have := Zh2 (k := k) hc.2 (by simpa using h)
   grind
theorem ZiA {P : Program} {L : List Oper} {listed : List Nat} {i : Nat} {oi : Oper} : ∀ {r : List Oper} {j0 k : Nat} {oj : Oper}, ZgL.chkV P L listed i oi j0 r = true → r[k]? = some oj →
  (j0 + k) ∈ listed ∨ j0 + k = i ∨ (∃ e ∈ oj.after, Region.binds .any e = true ∧ e.on = i) ∨ oi.apart L.toArray oj = true
 | [], j0, k, oj, _, h => by simp at h
 | q :: r, j0, k, oj, hc, h => by
  unfold ZgL.chkV at hc
  rw [Yc] at hc
  cases k with
  | zero =>
   simp only [YO, Ye] at h
   subst h
   have h1 := hc.1
   simp only [Yz] at h1
   rcases h1 with ((h1 | h1) | h1) | h1
   ·exact .inl (Zbv.1 h1)
   ·exact .inr (.inl (Ya h1))
   ·obtain ⟨e, he, h2⟩ := YL.1 h1
    rw [Yc] at h2
    exact .inr (.inr (.inl ⟨e, by simpa using he, h2.1, Ya h2.2⟩))
   grind
  | succ k =>
   have := ZiA (k := k) hc.2 (by simpa using h)
   grind
section
variable {P : Program} {Q : Exit → Act → World → Prop} {L : List Oper}
theorem Zhs {A : Array Oper} (hu : ∀ (j : Nat) (o : Oper), L.toArray[j]? = some o → o.guard = none) (hsel : ∀ (j : Nat) (o : Oper) cs b, L.toArray[j]? = some o → o.op ≠ .select cs b) (hQ : ∀ c a w, ¬ Q (.panic c) a w) (hO : ¬ LetsOut Q) :
  ∀ (π listed : List Nat) (la : Array Bool) (a : Act) (w : World), la.size = L.length → (∀ j, j < L.length → (la.getD j true = true ↔ j ∈ listed)) → (∀ x ∈ listed, x < L.length) → DC L.toArray la → ZgL P L listed π = true →
   wpList P A Q (π.filterMap (nth L)) a w → wpAny P .any L.toArray Q π.length la a w
 | [], listed, la, a, w, hs, hl, hlt, hD, hc, h => by
  unfold ZgL at hc
  rw [Yj] at hc
  refine ⟨?_, h⟩
  cases hr : Region.ready .any L.toArray la with
  | nil => rfl
  | cons x xs =>
   have hx : x ∈ Region.ready .any L.toArray la := by rw [hr]; exact Yu ..
   obtain ⟨h0, o, ho, _⟩ := mem_ready.1 hx
   have hlt : x < L.length := by have := (YB.1 ho).1; simpa using this
   have := (hl x hlt).2 (Zbv.1 (hc x (Yaa.2 hlt)))
   rw [h0] at this
   cases this
 | i :: rest, listed, la, a, w, hs, hl, hlt, hD, hc, h => by
  unfold ZgL at hc
  rw [Za2] at hc
  cases hi : L[i]? with
  | none => rw [hi] at hc; simp at hc
  | some oi =>
   rw [hi] at hc
   simp only [Yc, YQ] at hc
   obtain ⟨⟨⟨c1, c2⟩, c3⟩, c4⟩ := hc
   have hiL : i < L.length := (Yb.1 hi).1
   have hiA : L.toArray[i]? = some oi := by simpa using hi
   have hun : la.getD i true = false := by
    cases hb : la.getD i true with
    | false => rfl
    | true => have := Zbv.2 ((hl i hiL).1 hb); rw [c1] at this; cases this
   have hr : i ∈ Region.ready .any L.toArray la := mem_ready.2 ⟨hun, oi, hiA, fun e he hb => by
    have h1 := Yj.1 c2 e (by simpa using he)
    rw [hb] at h1
    simp only [YbJ, YaW] at h1
    have hm := Zbv.1 h1
    have h2 := hlt _ hm
    have h3 := (hl _ h2).2 hm
    simp only [Yq] at h3 ⊢
    rw [Yh (by omega)] at h3 ⊢
    simpa using h3⟩
   have hl' : ∀ j, j < L.length → ((la.setIfInBounds i true).getD j true = true ↔ j ∈ i :: listed) := fun j hj => by
    by_cases hji : i = j
    ·subst hji
     simp only [Yo, true_or, iff_true]
     simp [hs, hj]
    ·rw [getD_set_ne true hji, hl j hj, Yo]
     exact ⟨.inr, fun h => h.resolve_left (Ne.symm hji)⟩
   have hlt' : ∀ x ∈ i :: listed, x < L.length := fun x hx => by
    rcases Yo.1 hx with rfl | hx
    ·exact hiL
    ·exact hlt x hx
   have ih : ∀ a w, wpList P A Q (rest.filterMap (nth L)) a w → wpAny P .any L.toArray Q rest.length (la.setIfInBounds i true) a w := fun a w h =>
    Zhs hu hsel hQ hO rest (i :: listed) _ a w (by simp [hs]) hl' hlt' (hD.ready hr) c4 h
   rw [List.filterMap_cons_some (by rw [Za2]; exact hi)] at h
   unfold wpList at h
   rw [if_pos (by simp [Region.wanted, hu i oi hiA])] at h
   rcases h with h | ⟨_, h⟩
   case inr => exact absurd h hO
   have hli : ∀ j, j < L.length → la.getD j true = false → j ∉ listed := fun j hj hun hm => by
    have := (hl j hj).2 hm
    rw [hun] at this
    cases this
   show wpAny P .any L.toArray Q (rest.length + 1) la a w
   by_cases hv : vpO P oi = true
   ·rw [hv] at c3
    obtain ⟨v1, v2⟩ := Zfj (P := P) (ρ := a.eval) hv
    have h2 := h
    unfold Oper.wp at h
    cases hrun : (execOp a.eval oi).run P w with
    | halt x w' =>
     rw [hrun] at h
     cases x <;> simp only [Oper.upon] at h
     exact absurd h (hQ _ _ _)
    | ok n w' =>
     obtain ⟨rfl, v3⟩ := v1 _ _ _ hrun
     obtain ⟨u, rfl⟩ := v2 _ _ _ hrun
     rw [hrun] at h
     simp only [Oper.upon] at h
     refine wpAny_first hiA hsel (fun c a w hq => absurd hq (hQ _ _ _)) rest.length la a w' (fun j oj hoj hji hjun hno => ?_) hr (.inl ⟨by simp [Region.wanted, hu i oi hiA], v3⟩) (ih _ _ h)
     have hjl : j < L.length := by have := (YB.1 hoj).1; simpa using this
     have := ZiA (k := j) c3 (by simpa using hoj)
     rw [Yy] at this
     rcases this with h3 | h3 | ⟨e, he, hb, he2⟩ | h3
     ·exact absurd h3 (hli j hjl hjun)
     ·exact absurd h3 hji
     ·exact absurd he2 (hno e he hb)
     ·exact h3
   ·have hv' : vpO P oi = false := by cases hq : vpO P oi with | false => rfl | true => exact absurd hq hv
    rw [hv'] at c3
    have at_ : ∀ j oj, L.toArray[j]? = some oj → j ≠ i → la.getD j true = false → ¬ Waits L.toArray j i → oi.apart L.toArray oj = true ∧ rdO P oi = true ∧ (rdO P oj || grO oj) = true := fun j oj hoj hji hjun hno => by
     have hjl : j < L.length := by have := (YB.1 hoj).1; simpa using this
     have := Zh2 (k := j) c3 (by simpa using hoj)
     rw [Yy] at this
     rcases this with h3 | h3 | h3 | ⟨h3, h4⟩
     ·exact absurd h3 (hli j hjl hjun)
     ·exact absurd h3 hji
     ·exact absurd h3 hno
     ·rcases h4 with h4 | h4
      ·exact absurd h4 hv
      ·exact ⟨h3, h4⟩
    by_cases hrd : rdO P oi = true
    ·obtain ⟨v1, v2⟩ := ZdQ (P := P) (ρ := a.eval) hrd
     unfold Oper.wp at h
     cases hrun : (execOp a.eval oi).run P w with
     | halt x w' =>
      rw [hrun] at h
      cases x <;> simp only [Oper.upon] at h
      exact absurd h (hQ _ _ _)
     | ok n w' =>
      have e := v1 _ _ _ hrun
      subst e
      obtain ⟨u, rfl⟩ := v2 _ _ _ hrun
      rw [hrun] at h
      simp only [Oper.upon] at h
      exact Zj6 hiA hrd hu hsel hQ hO rest.length la a w' hD (fun j oj hoj hji hjun hno => ⟨(at_ j oj hoj hji hjun hno).1, (at_ j oj hoj hji hjun hno).2.2⟩) hr hrun (ih _ _ h)
    ·refine ⟨fun h0 => (by rw [h0] at hr; cases hr), fun j hj => ?_⟩
     have hji : j = i := by
      apply YaN
      intro hji
      obtain ⟨hjun, oj, hoj, _⟩ := mem_ready.1 hj
      exact hrd (at_ j oj hoj hji hjun (hD.nowait hj hun)).2.1
     subst hji
     unfold wpOp
     simp only [hiA]
     rw [if_pos (by simp [Region.wanted, hu j oi hiA])]
     exact .inl (Oper.wp_mono (fun a w h => ih a w h) h)
end
def perm (π : List Nat) : Code → Code
 | .region id ops _ => .region id (π.filterMap (nth ops.toList)).toArray false
 | c => c
def noG (o : Oper) : Bool := (match o.guard with | none => true | _ => false) && (match o.op with | .select _ _ => false | _ => true)
def ZyT (P : Program) (π : List Nat) : Code → Bool
 | .region _ ops true => ops.toList.all noG && Nat.beq π.length ops.toList.length && ZgL P ops.toList [] π
 | _ => false
theorem drw {P : Program} {n : Nat} {C : Cx} {τ : St} {Q : Exit → St → Prop} {c : Code} (hm : P.follows .mixedOrders = true) (π : List Nat) (h : LO P n C (perm π c) 0 τ (fun e τ' => match e with | .normal => Q .normal τ' | _ => False)) (hk : ZyT P π c = true := by kernel_rfl) : LW P n C c τ Q := by
 cases c with
 | region id ops dr =>
  cases dr with
  | false => cases hk
  | true =>
   obtain ⟨L, rfl⟩ : ∃ l : List Oper, ops = l.toArray := ⟨ops.toList, by simp⟩
   simp only [ZyT, Yc] at hk
   obtain ⟨⟨k1, k2⟩, k3⟩ := hk
   intro γ σ hg hG a w hR
   have hR' : R C.l n C.B σ a { w with drawn := w.drawn + 1 } := by
    obtain ⟨s, H⟩ := σ
    obtain ⟨m, S, hO, hn, hdf, hS, hex⟩ := hR.un
    obtain ⟨h1, h2⟩ := hO.drew (w' := { w with drawn := w.drawn + 1 }) rfl rfl rfl rfl
    exact R.keep h1 hn hdf hS hex h2
   have h1 := h γ σ a _ hg hG hR'
   have hG1 : ∀ (j : Nat) (o : Oper), L.toArray[j]? = some o → noG o = true := fun j o ho => Yj.1 k1 o (Ym (by simpa using ho))
   have hu : ∀ (j : Nat) (o : Oper), L.toArray[j]? = some o → o.guard = none := fun j o ho => by
    have := hG1 j o ho
    unfold noG at this
    rw [Yc] at this
    cases hg : o.guard with
    | none => rfl
    | some _ => rw [hg] at this; simp at this
   have hsel : ∀ (j : Nat) (o : Oper) cs b, L.toArray[j]? = some o → o.op ≠ .select cs b := fun j o cs b ho he => by
    have := hG1 j o ho
    unfold noG at this
    rw [he, Yc] at this
    simp at this
   have hw := Zhs (P := P) (L := L) (A := (π.filterMap (nth L)).toArray) (Q := fun e a' w' => ∃ σ', Is n C (match e with | .normal => Q .normal | _ => fun _ => False) σ' ∧ R C.l n C.B σ' a' w') hu hsel
    (fun c a w ⟨σ', ⟨_, _, _, _, hf, _⟩, _⟩ => hf) (fun ⟨a, w, σ', ⟨_, _, _, _, hf, _⟩, _⟩ => hf) π [] (Array.replicate L.toArray.size false) a { w with drawn := w.drawn + 1 } (by simp) (fun j hj => by simp [hj]) (fun x hx => by cases hx)
    (fun m om hm hl => by
     have : (Array.replicate L.toArray.size false).getD m false = false := by
      simp only [Yq, Ybv]
      split <;> rfl
     rw [this] at hl
     cases hl) (by simpa using k3) (by
     have e : ∀ e : Exit, (fun τ' => match e with | .normal => Q .normal τ' | _ => False) = (match e with | .normal => Q .normal | _ => fun _ => False) := fun e => by cases e <;> rfl
     simp only [perm, Zb4, YaG] at h1
     simpa only [e] using h1)
   have hs : π.length = L.toArray.size := by simpa using Ya k2
   rw [hs] at hw
   refine wp_mono (wp_region_any hm hw) fun e a' w' ⟨σ', h1, h2⟩ => ⟨σ', ?_, h2⟩
   cases e with
   | normal => exact h1
   | _ => obtain ⟨_, _, _, _, hf, _⟩ := h1; exact hf.elim
 | _ => cases hk
end Go.Eng
