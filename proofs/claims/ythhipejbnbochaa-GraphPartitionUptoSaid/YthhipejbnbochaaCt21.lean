import Derived.Test.YthhipejbnbochaaCt20
import Derived.Test.YthhipejbnbochaaCt12
import Derived.Test.YthhipejbnbochaaCt14
import Derived.Test.YthhipejbnbochaaCt15
import Derived.Test.YthhipejbnbochaaCt13
import Derived.Test.YthhipejbnbochaaCt00
namespace Go.Proofs.Ythhipejbnbochaa
set_option linter.all false
open Go Go.Eng
section
variable {H : Type} {enc : TypeId × Value → H} {W : World}
set_option maxRecDepth 100000
theorem Zv0 (n : Nat) : RdN enc Try.prog W n 159 ZoM := fun cs x hx => by
 obtain ⟨xs, m, rfl, rfl, hcl, hxl, hf⟩ := DataW.trod_struct Try.underlying159 hx
 obtain ⟨v0, r0, b0⟩ := rf (Zcc Try.underlying3) (hf 0 _ rfl) hxl
 obtain ⟨v1, r1, b1⟩ := rf (Zcc Try.underlying3) (hf 1 _ rfl) hxl
 obtain ⟨v2, r2, b2⟩ := rf (Zcc Try.underlying49) (hf 2 _ rfl) hxl
 obtain ⟨v3, r3, b3⟩ := rf (Zcd Try.underlying9) (hf 3 _ rfl) hxl
 have q := Zcb (Zax b0 (Zax b1 (Zax b2 (Zb6 b3))))
 exact ⟨.mk v0 v1 v2 v3, ⟨by rw [hcl]; kernel_rfl, (r0.at.app (r1.at.app (r2.at.app r3.at)))⟩, q⟩
theorem Zp4 (n : Nat) (h : ∀ k, k < n → RdN enc Try.prog W k 55 ZrY) : RdN enc Try.prog W n 155 ePr := fun cs x hx => by
 obtain ⟨xs, m, rfl, rfl, hcl, hxl, hf⟩ := DataW.trod_struct Try.underlying155 hx
 obtain ⟨v0, r0, b0⟩ := rf (h m (by omega)) (hf 0 _ rfl) hxl
 obtain ⟨v1, r1, b1⟩ := rf (h m (by omega)) (hf 1 _ rfl) hxl
 have q := Zcb (Zax b0 (Zb6 b1))
 exact ⟨.mk v0 v1, ⟨by rw [hcl]; kernel_rfl, (r0.at.app r1.at)⟩, q⟩
theorem Zlx (n : Nat) (h : ∀ k, k < n → RdN enc Try.prog W k 55 ZrY) : RdN enc Try.prog W n 157 ZxV := fun cs x hx => by
 obtain ⟨xs, m, rfl, rfl, hcl, hxl, hf⟩ := DataW.trod_struct Try.underlying157 hx
 obtain ⟨v0, r0, b0⟩ := rf (Zcc Try.underlying3) (hf 0 _ rfl) hxl
 obtain ⟨v1, r1, b1⟩ := rf (h m (by omega)) (hf 1 _ rfl) hxl
 have q := Zcb (Zax b0 (Zb6 b1))
 exact ⟨.mk v0 v1, ⟨by rw [hcl]; kernel_rfl, (r0.at.app r1.at)⟩, q⟩
theorem Zql (n : Nat) : RdN enc Try.prog W n 55 ZrY := by
 induction n using Nat.strongRecOn with
 | ind n ih =>
 intro cs x hx
 obtain ⟨xs, m, rfl, rfl, hcl, hxl, hf⟩ := DataW.trod_struct Try.underlying55 hx
 obtain ⟨v0, r0, b0⟩ := rf (Zcc Try.underlying3) (hf 0 _ rfl) hxl
 obtain ⟨v1, r1, b1⟩ := rf (Zcc Try.underlying49) (hf 1 _ rfl) hxl
 obtain ⟨v2, r2, b2⟩ := rf (Zcd Try.underlying9) (hf 2 _ rfl) hxl
 obtain ⟨v3, r3, b3⟩ := rf (ZaJ Try.underlying50 (by kernel_rfl : Try.prog.cellsOf 55 = 7) (by decide) (fun x => by rw [Zgc]; rfl) (fun k hk => (Zmm Zgc (ih k (by omega))))) (hf 3 _ rfl) hxl
 obtain ⟨v4, r4, b4⟩ := rf (ZaJ Try.underlying51 (by kernel_rfl : Try.prog.cellsOf 155 = 14) (by decide) (fun x => by rw [Zqa]; rfl) (fun k hk => (Zmm Zqa (Zp4 k (fun j hj => ih j (by omega)))))) (hf 4 _ rfl) hxl
 obtain ⟨v5, r5, b5⟩ := rf (ZaJ Try.underlying52 (by kernel_rfl : Try.prog.cellsOf 157 = 8) (by decide) (fun x => by rw [ZmI]; rfl) (fun k hk => (Zmm ZmI (Zlx k (fun j hj => ih j (by omega)))))) (hf 5 _ rfl) hxl
 obtain ⟨v6, r6, b6⟩ := rf (ZaJ Try.underlying53 (by kernel_rfl : Try.prog.cellsOf 159 = 4) (by decide) (fun _ => rfl) (fun k hk => (Zv0 k))) (hf 6 _ rfl) hxl
 have q := Zcb (Zax b0 (Zax b1 (Zax b2 (Zax b3 (Zax b4 (Zax b5 (Zb6 b6)))))))
 exact ⟨.mk v0 v1 v2 v3 v4 v5 v6, ⟨by rw [hcl]; kernel_rfl, (r0.at.app (r1.at.app (r2.at.app (r3.at.app (r4.at.app (r5.at.app r6.at))))))⟩, q⟩
theorem ZwE (n : Nat) : RdN enc Try.prog W n 48 Zzf := fun cs x hx => by
 obtain ⟨xs, m, rfl, rfl, hcl, hxl, hf⟩ := DataW.trod_struct Try.underlying48 hx
 obtain ⟨v0, r0, b0⟩ := rf (Zcc Try.underlying3) (hf 0 _ rfl) hxl
 obtain ⟨v1, r1, b1⟩ := rf (Zcd Try.underlying9) (hf 1 _ rfl) hxl
 have q := Zcb (Zax b0 (Zb6 b1))
 exact ⟨.mk v0 v1, ⟨by rw [hcl]; kernel_rfl, (r0.at.app r1.at)⟩, q⟩
theorem Zj0 (n : Nat) : RdN enc Try.prog W n 153 eNt := fun cs x hx => by
 obtain ⟨xs, m, rfl, rfl, hcl, hxl, hf⟩ := DataW.trod_struct Try.underlying153 hx
 obtain ⟨v0, r0, b0⟩ := rf (Zcd Try.underlying9) (hf 0 _ rfl) hxl
 obtain ⟨v1, r1, b1⟩ := rf (Zql m) (hf 1 _ rfl) hxl
 have q := Zcb (Zax b0 (Zb6 b1))
 exact ⟨.mk v0 v1, ⟨by rw [hcl]; kernel_rfl, (r0.at.app r1.at)⟩, q⟩
theorem ZuK (n : Nat) : RdN enc Try.prog W n 57 ZdK := fun cs x hx => by
 obtain ⟨xs, m, rfl, rfl, hcl, hxl, hf⟩ := DataW.trod_struct Try.underlying57 hx
 obtain ⟨v0, r0, b0⟩ := rf (Zcc Try.underlying3) (hf 0 _ rfl) hxl
 obtain ⟨v1, r1, b1⟩ := rf (Zcd Try.underlying9) (hf 1 _ rfl) hxl
 obtain ⟨v2, r2, b2⟩ := rf (Zcc Try.underlying3) (hf 2 _ rfl) hxl
 obtain ⟨v3, r3, b3⟩ := rf (Zcc Try.underlying3) (hf 3 _ rfl) hxl
 obtain ⟨v4, r4, b4⟩ := rf (ZwE m) (hf 4 _ rfl) hxl
 obtain ⟨v5, r5, b5⟩ := rf (Zcd Try.underlying9) (hf 5 _ rfl) hxl
 obtain ⟨v6, r6, b6⟩ := rf (ZkU Try.underlying4) (hf 6 _ rfl) hxl
 obtain ⟨v7, r7, b7⟩ := rf (Zql m) (hf 7 _ rfl) hxl
 obtain ⟨v8, r8, b8⟩ := rf (ZaJ Try.underlying40 (by kernel_rfl : Try.prog.cellsOf 153 = 8) (by decide) (fun _ => rfl) (fun k hk => (Zj0 k))) (hf 8 _ rfl) hxl
 have q := Zcb (Zax b0 (Zax b1 (Zax b2 (Zax b3 (Zax b4 (Zax b5 (Zax b6 (Zax b7 (Zb6 b8)))))))))
 exact ⟨.mk v0 v1 v2 v3 v4 v5 v6 v7 v8, ⟨by rw [hcl]; kernel_rfl, (r0.at.app (r1.at.app (r2.at.app (r3.at.app (r4.at.app (r5.at.app (r6.at.app (r7.at.app r8.at))))))))⟩, q⟩
theorem Zqt (n : Nat) : RdN enc Try.prog W n 151 Zi0 := fun cs x hx => by
 obtain ⟨xs, m, rfl, rfl, hcl, hxl, hf⟩ := DataW.trod_struct Try.underlying151 hx
 obtain ⟨v0, r0, b0⟩ := rf (Zcc Try.underlying3) (hf 0 _ rfl) hxl
 obtain ⟨v1, r1, b1⟩ := rf (Zcc Try.underlying3) (hf 1 _ rfl) hxl
 have q := Zcb (Zax b0 (Zb6 b1))
 exact ⟨.mk v0 v1, ⟨by rw [hcl]; kernel_rfl, (r0.at.app r1.at)⟩, q⟩
theorem Zvq (n : Nat) : RdN enc Try.prog W n 42 Zcx := fun cs x hx => by
 obtain ⟨xs, m, rfl, rfl, hcl, hxl, hf⟩ := DataW.trod_struct Try.underlying42 hx
 obtain ⟨v0, r0, b0⟩ := rf (Zcd Try.underlying9) (hf 0 _ rfl) hxl
 obtain ⟨v1, r1, b1⟩ := rf (ZaJ Try.underlying38 (by kernel_rfl : Try.prog.cellsOf 57 = 16) (by decide) (fun _ => rfl) (fun k hk => (ZuK k))) (hf 1 _ rfl) hxl
 obtain ⟨v2, r2, b2⟩ := rf (ZaJ Try.underlying39 (by kernel_rfl : Try.prog.cellsOf 151 = 2) (by decide) (fun _ => rfl) (fun k hk => (Zqt k))) (hf 2 _ rfl) hxl
 obtain ⟨v3, r3, b3⟩ := rf (ZaJ Try.underlying31 (by kernel_rfl : Try.prog.cellsOf 9 = 1) (by decide) (fun _ => rfl) (fun k hk => (Zcd Try.underlying9))) (hf 3 _ rfl) hxl
 obtain ⟨v4, r4, b4⟩ := rf (ZaJ Try.underlying40 (by kernel_rfl : Try.prog.cellsOf 153 = 8) (by decide) (fun _ => rfl) (fun k hk => (Zj0 k))) (hf 4 _ rfl) hxl
 have q := Zcb (Zax b0 (Zax b1 (Zax b2 (Zax b3 (Zb6 b4)))))
 exact ⟨.mk v0 v1 v2 v3 v4, ⟨by rw [hcl]; kernel_rfl, (r0.at.app (r1.at.app (r2.at.app (r3.at.app r4.at))))⟩, q⟩
theorem Zwv (n : Nat) : RdN enc Try.prog W n 161 Zyd := fun cs x hx => by
 obtain ⟨xs, m, rfl, rfl, hcl, hxl, hf⟩ := DataW.trod_struct Try.underlying161 hx
 obtain ⟨v0, r0, b0⟩ := rf (Zcd Try.underlying9) (hf 0 _ rfl) hxl
 obtain ⟨v1, r1, b1⟩ := rf (Zcc Try.underlying3) (hf 1 _ rfl) hxl
 obtain ⟨v2, r2, b2⟩ := rf (ZaJ Try.underlying40 (by kernel_rfl : Try.prog.cellsOf 153 = 8) (by decide) (fun _ => rfl) (fun k hk => (Zj0 k))) (hf 2 _ rfl) hxl
 have q := Zcb (Zax b0 (Zax b1 (Zb6 b2)))
 exact ⟨.mk v0 v1 v2, ⟨by rw [hcl]; kernel_rfl, (r0.at.app (r1.at.app r2.at))⟩, q⟩
theorem ZwI (n : Nat) : RdN enc Try.prog W n 89 ZdO := fun cs x hx => by
 obtain ⟨xs, m, rfl, rfl, hcl, hxl, hf⟩ := DataW.trod_struct Try.underlying89 hx
 obtain ⟨v0, r0, b0⟩ := rf (Zcd Try.underlying9) (hf 0 _ rfl) hxl
 obtain ⟨v1, r1, b1⟩ := rf (ZkU Try.underlying4) (hf 1 _ rfl) hxl
 obtain ⟨v2, r2, b2⟩ := rf (ZaJ Try.underlying87 (by kernel_rfl : Try.prog.cellsOf 161 = 3) (by decide) (fun _ => rfl) (fun k hk => (Zwv k))) (hf 2 _ rfl) hxl
 obtain ⟨v3, r3, b3⟩ := rf (ZaJ Try.underlying39 (by kernel_rfl : Try.prog.cellsOf 151 = 2) (by decide) (fun _ => rfl) (fun k hk => (Zqt k))) (hf 3 _ rfl) hxl
 obtain ⟨v4, r4, b4⟩ := rf (ZaJ Try.underlying40 (by kernel_rfl : Try.prog.cellsOf 153 = 8) (by decide) (fun _ => rfl) (fun k hk => (Zj0 k))) (hf 4 _ rfl) hxl
 have q := Zcb (Zax b0 (Zax b1 (Zax b2 (Zax b3 (Zb6 b4)))))
 exact ⟨.mk v0 v1 v2 v3 v4, ⟨by rw [hcl]; kernel_rfl, (r0.at.app (r1.at.app (r2.at.app (r3.at.app r4.at))))⟩, q⟩
theorem Zvw (n : Nat) : RdN enc Try.prog W n 164 Zyw := fun cs x hx => by
 obtain ⟨xs, m, rfl, rfl, hcl, hxl, hf⟩ := DataW.trod_struct Try.underlying164 hx
 obtain ⟨v0, r0, b0⟩ := rf (Zcd Try.underlying9) (hf 0 _ rfl) hxl
 obtain ⟨v1, r1, b1⟩ := rf (Zcd Try.underlying9) (hf 1 _ rfl) hxl
 obtain ⟨v2, r2, b2⟩ := rf (Zcd Try.underlying9) (hf 2 _ rfl) hxl
 obtain ⟨v3, r3, b3⟩ := rf (Zcc Try.underlying3) (hf 3 _ rfl) hxl
 obtain ⟨v4, r4, b4⟩ := rf (ZaJ Try.underlying40 (by kernel_rfl : Try.prog.cellsOf 153 = 8) (by decide) (fun _ => rfl) (fun k hk => (Zj0 k))) (hf 4 _ rfl) hxl
 have q := Zcb (Zax b0 (Zax b1 (Zax b2 (Zax b3 (Zb6 b4)))))
 exact ⟨.mk v0 v1 v2 v3 v4, ⟨by rw [hcl]; kernel_rfl, (r0.at.app (r1.at.app (r2.at.app (r3.at.app r4.at))))⟩, q⟩
theorem ZuX (n : Nat) : RdN enc Try.prog W n 149 Zes := fun cs x hx => by
 obtain ⟨xs, m, rfl, rfl, hcl, hxl, hf⟩ := DataW.trod_struct Try.underlying149 hx
 obtain ⟨v0, r0, b0⟩ := rf (Zcd Try.underlying9) (hf 0 _ rfl) hxl
 obtain ⟨v1, r1, b1⟩ := rf (ZaJ Try.underlying147 (by kernel_rfl : Try.prog.cellsOf 164 = 5) (by decide) (fun _ => rfl) (fun k hk => (Zvw k))) (hf 1 _ rfl) hxl
 obtain ⟨v2, r2, b2⟩ := rf (ZaJ Try.underlying40 (by kernel_rfl : Try.prog.cellsOf 153 = 8) (by decide) (fun _ => rfl) (fun k hk => (Zj0 k))) (hf 2 _ rfl) hxl
 have q := Zcb (Zax b0 (Zax b1 (Zb6 b2)))
 exact ⟨.mk v0 v1 v2, ⟨by rw [hcl]; kernel_rfl, (r0.at.app (r1.at.app r2.at))⟩, q⟩
theorem Zwr (n : Nat) : RdN enc Try.prog W n 26 Zb0 := fun cs x hx => by
 obtain ⟨xs, m, rfl, rfl, hcl, hxl, hf⟩ := DataW.trod_struct Try.underlying26 hx
 obtain ⟨v0, r0, b0⟩ := rf (ZaJ Try.underlying22 (by kernel_rfl : Try.prog.cellsOf 42 = 5) (by decide) (fun _ => rfl) (fun k hk => (Zvq k))) (hf 0 _ rfl) hxl
 obtain ⟨v1, r1, b1⟩ := rf (ZaJ Try.underlying23 (by kernel_rfl : Try.prog.cellsOf 89 = 5) (by decide) (fun _ => rfl) (fun k hk => (ZwI k))) (hf 1 _ rfl) hxl
 obtain ⟨v2, r2, b2⟩ := rf (ZaJ Try.underlying24 (by kernel_rfl : Try.prog.cellsOf 149 = 3) (by decide) (fun _ => rfl) (fun k hk => (ZuX k))) (hf 2 _ rfl) hxl
 have q := Zcb (Zax b0 (Zax b1 (Zb6 b2)))
 exact ⟨.mk v0 v1 v2, ⟨by rw [hcl]; kernel_rfl, (r0.at.app (r1.at.app r2.at))⟩, q⟩
end
end Go.Proofs.Ythhipejbnbochaa
namespace Go.Eng
set_option linter.all false
open Go Go.RowKit
section
variable {σ ξ ρ α β γ : Type}
def Zke (g : β → α → β ⊕ ρ) : β → List α → β ⊕ ρ
 | b, [] => .inl b
 | b, x :: l => match g b x with
  | .inl b' => Zke g b' l
  | .inr r => .inr r
theorem Zhd {B : σ → Option (Lv σ ξ ρ)} {N : Nat} (l : List α) (mk : Nat → β → σ) (I : Nat → β → Prop) (g : β → α → β ⊕ ρ) (e : β → ξ)
  (hs : ∀ i b x, l[i]? = some x → I i b → B (mk i b) = some (Sum.elim (fun b' => Lv.nx (mk (i + 1) b')) Lv.rt (g b x)) ∧ ∀ b', g b x = .inl b' → I (i + 1) b')
  (he : ∀ b, I l.length b → B (mk l.length b) = some (.ex (e b))) (b0 : β) (h0 : I 0 b0) (hN : l.length < N) : ZaE B N (mk 0 b0) = some (Sum.map e id (Zke g b0 l)) := by
 suffices H : ∀ k i b N, i + k = l.length → I i b → k < N → ZaE B N (mk i b) = some (Sum.map e id (Zke g b (l.drop i))) by
  have := H l.length 0 b0 N (by omega) h0 hN
  simpa using this
 intro k
 induction k with
 | zero =>
  intro i b N hi hI hN
  obtain ⟨N, rfl⟩ : ∃ m, N = m + 1 := ⟨N - 1, by omega⟩
  have : i = l.length := by omega
  subst this
  rw [ZaE, he b hI, Yby]
  rfl
 | succ k ih =>
  intro i b N hi hI hN
  obtain ⟨N, rfl⟩ : ∃ m, N = m + 1 := ⟨N - 1, by omega⟩
  have hlt : i < l.length := by omega
  obtain ⟨h1, h2⟩ := hs i b l[i] (Yc hlt) hI
  rw [ZaE, h1, YW hlt, Zke]
  cases hg : g b l[i] with
  | inl b' => exact ih (i + 1) b' N (by omega) (h2 b' hg) (by omega)
  | inr r => rfl
theorem ZdG {B : Nat → Option (Lv Nat ξ ρ)} {N : Nat} (l : List α) (p : α → Bool) (f : Nat → ρ) (e : ξ)
  (hs : ∀ i x, l[i]? = some x → B i = some (if p x = true then .rt (f i) else .nx (i + 1))) (he : B l.length = some (.ex e)) (hN : l.length < N) :
  ZaE B N 0 = some (match l.findIdx? p with | some i => .inr (f i) | none => .inl e) := by
 suffices H : ∀ k i N, i + k = l.length → k < N → ZaE B N i = some (match (l.drop i).findIdx? p with | some j => .inr (f (i + j)) | none => .inl e) by
  have := H l.length 0 N (by omega) hN
  simpa using this
 intro k
 induction k with
 | zero =>
  intro i N hi hN
  obtain ⟨N, rfl⟩ : ∃ m, N = m + 1 := ⟨N - 1, by omega⟩
  have : i = l.length := by omega
  subst this
  rw [ZaE, he, Yby]
  rfl
 | succ k ih =>
  intro i N hi hN
  obtain ⟨N, rfl⟩ : ∃ m, N = m + 1 := ⟨N - 1, by omega⟩
  have hlt : i < l.length := by omega
  rw [ZaE, hs i l[i] (Yc hlt), YW hlt, Ybo]
  cases hp : p l[i] with
  | true => simp
  | false =>
   simp only [YaB, if_false]
   rw [ih (i + 1) N (by omega) (by omega)]
   cases (List.drop (i + 1) l).findIdx? p with
   | none => rfl
   | some j => simp [Yw, Ybv 1 j]
theorem ZeH {g : β → α → β ⊕ ρ} (h : β → α → β) (hg : ∀ b x, g b x = .inl (h b x)) : ∀ (l : List α) (b : β), Zke g b l = .inl (l.foldl h b)
 | [], b => rfl
 | x :: l, b => by rw [Zke, hg]; exact ZeH h hg l _
def ZfS (R : List α → α → Option ρ) : List α → List α → Option ρ
 | _, [] => none
 | p, x :: l => match R p x with
  | some r => some r
  | none => ZfS R (p ++ [x]) l
theorem Zpf {B : σ → Option (Lv σ ξ ρ)} {N : Nat} (l : List α) (S : List α → β) (R : List α → α → Option ρ) (mk : Nat → β → σ) (e : β → ξ)
  (hs : ∀ i x, l[i]? = some x → B (mk i (S (l.take i))) = some (match R (l.take i) x with | some r => .rt r | none => .nx (mk (i + 1) (S (l.take i ++ [x])))))
  (he : B (mk l.length (S l)) = some (.ex (e (S l)))) (hN : l.length < N) : ZaE B N (mk 0 (S [])) = some ((ZfS R [] l).elim (.inl (e (S l))) .inr) := by
 suffices H : ∀ k i N, i + k = l.length → k < N → ZaE B N (mk i (S (l.take i))) = some ((ZfS R (l.take i) (l.drop i)).elim (.inl (e (S l))) .inr) by
  have := H l.length 0 N (by omega) hN
  grind
 intro k
 induction k with
 | zero =>
  intro i N hi hN
  obtain ⟨N, rfl⟩ : ∃ m, N = m + 1 := ⟨N - 1, by omega⟩
  have : i = l.length := by omega
  subst this
  rw [ZaE, Ya3, he, Yby]
  rfl
 | succ k ih =>
  intro i N hi hN
  obtain ⟨N, rfl⟩ : ∃ m, N = m + 1 := ⟨N - 1, by omega⟩
  have hlt : i < l.length := by omega
  rw [ZaE, hs i l[i] (Yc hlt), YW hlt, ZfS]
  cases R (l.take i) l[i] with
  | some r => rfl
  | none =>
   have := ih (i + 1) N (by omega) (by omega)
   rw [Y4 hlt] at this
   exact this
theorem ZeE {R : List α → α → Option ρ} (h : ∀ p x, R p x = none) : ∀ (l p : List α), ZfS R p l = none
 | [], p => rfl
 | x :: l, p => by rw [ZfS, h]; exact ZeE h l _
theorem ZeP {B : σ → Option (Lv σ ξ ρ)} {N : Nat} (l : List α) (S : List α → β) (mk : Nat → β → σ) (e : β → ξ)
  (hs : ∀ i x, l[i]? = some x → B (mk i (S (l.take i))) = some (.nx (mk (i + 1) (S (l.take i ++ [x])))))
  (he : B (mk l.length (S l)) = some (.ex (e (S l)))) (hN : l.length < N) : ZaE B N (mk 0 (S [])) = some (.inl (e (S l))) := by
 rw [Zpf l S (fun _ _ => none) mk e hs he hN, ZeE fun _ _ => rfl]
 rfl
theorem Zbk {B : σ → Option (Lv σ ξ ρ)} (I : Nat → σ → Prop) (Q : ξ ⊕ ρ → Prop)
  (h : ∀ k v, I k v → ∃ o, B v = some o ∧ match o with | .nx v' => ∃ k', k' < k ∧ I k' v' | .ex b => Q (.inl b) | .rt y => Q (.inr y)) :
  ∀ N k v, k < N → I k v → ∃ o, ZaE B N v = some o ∧ Q o
 | 0, k, v, hk, _ => absurd hk (Yar _)
 | N + 1, k, v, hk, hI => by
  obtain ⟨o, h1, h2⟩ := h k v hI
  rw [ZaE, h1]
  cases o with
  | nx v' => obtain ⟨k', h3, h4⟩ := h2; exact Zbk I Q h N k' v' (by omega) h4
  | ex b => exact ⟨_, rfl, h2⟩
  | rt y => exact ⟨_, rfl, h2⟩
theorem Zdr {l : List α} {i : Nat} {x : α} (h : l[i]? = some x) : (i : Int) < (l.length : Int) := by
 grind
theorem ZaZ {n : Nat} (h : n < 4611686018427387904) : n < big := h
end
end Go.Eng
namespace Go.Eng
set_option linter.all false
open Go
section
variable {σ ξ ρ β γ : Type}
def ZeS (M : Option (List β)) (Q : β → Prop) : Prop := ∃ ys, M = some ys ∧ ys ≠ [] ∧ ∀ y ∈ ys, Q y
theorem ZeS.imp {M : Option (List β)} {Q R : β → Prop} (h : ZeS M Q) (k : ∀ y, Q y → R y) : ZeS M R := by
 obtain ⟨ys, a, b, c⟩ := h
 exact ⟨ys, a, b, fun y hy => k y (c y hy)⟩
theorem ZaI {y : β} {Q : β → Prop} (h : Q y) : ZeS (some [y]) Q := ⟨[y], rfl, by simp, fun z hz => by rw [YT.1 hz]; exact h⟩
theorem Ze4 {Q : β → Prop} : ∀ {l : List (Option (List β))}, l ≠ [] → (∀ x ∈ l, ZeS x Q) → ZeS (Zfs l) Q
 | [], h, _ => absurd rfl h
 | x :: r, _, h => by
  obtain ⟨ys, rfl, b, c⟩ := h _ (Yt ..)
  by_cases hr : r = []
  ·subst hr
   exact ⟨ys ++ [], rfl, by simpa using b, fun y hy => c y (by simpa using hy)⟩
  ·obtain ⟨zs, a', b', c'⟩ := Ze4 hr fun x hx => h x (List.mem_cons_of_mem _ hx)
   refine ⟨ys ++ zs, by rw [Zfs, a'], by simp [b], fun y hy => ?_⟩
   rcases YO.1 hy with hy | hy
   ·exact c y hy
   ·exact c' y hy
theorem ZbX {M : Option (List γ)} {k : γ → Option (List β)} {Q : γ → Prop} {R : β → Prop} (h : ZeS M Q) (hk : ∀ z, Q z → ZeS (k z) R) : ZeS (Zed M k) R := by
 obtain ⟨ys, rfl, b, c⟩ := h
 show ZeS (Zfs (ys.map k)) R
 refine Ze4 (by simpa using b) fun x hx => ?_
 obtain ⟨y, hy, rfl⟩ := Yq.1 hx
 exact hk y (c y hy)
theorem Zl1 {os : Nat} {V : Type} [Mv V] {xs : List (ByteArray × V)} {k0 : PT os (List β)} {k1 : ByteArray × V → List (ByteArray × V) → PT os (List β)} {Q : β → Prop}
  (h0 : xs = [] → ZeS k0.m Q) (h1 : ∀ i x, xs[i]? = some x → ZeS (k1 x (xs.eraseIdx i)).m Q) : ZeS (nxN xs k0 k1).m Q := by
 cases xs with
 | nil => exact h0 rfl
 | cons a r =>
  show ZeS (Zfs _) Q
  refine Ze4 (by simp) fun x hx => ?_
  obtain ⟨i, hi, rfl⟩ := Yq.1 hx
  have hi := Yaa.1 hi
  have e : (a :: r)[i]? = some ((a :: r)[i]) := Yc hi
  have e2 : (a :: r).getD i (⟨#[]⟩, Mv.z) = (a :: r)[i] := by rw [Yu, e]; rfl
  rw [e2]
  exact h1 i _ e
theorem Zcq {B : σ → Option (List (Lv σ ξ ρ))} (I : Nat → σ → Prop) (Q : ξ ⊕ ρ → Prop)
  (h : ∀ k v, I k v → ZeS (B v) fun o => match o with | .nx v' => ∃ k', k' < k ∧ I k' v' | .ex b => Q (.inl b) | .rt y => Q (.inr y)) :
  ∀ N k v, k < N → I k v → ZeS (Zdg B N v) Q
 | 0, k, v, hk, _ => absurd hk (Yar _)
 | N + 1, k, v, hk, hI => by
  rw [Zdg]
  refine ZbX (h k v hI) fun o ho => ?_
  cases o with
  | nx v' => obtain ⟨k', h3, h4⟩ := ho; exact Zcq I Q h N k' v' (by omega) h4
  | ex b => exact ZaI ho
  | rt y => exact ZaI ho
theorem Znk [DecidableEq β] {M : Option (List β)} {y : β} (h : ZeS M fun z => z = y) : ZtY M = some y := by
 obtain ⟨ys, a, b, c⟩ := h
 exact Zmu a b c
end
section
variable {V : Type}
def Zbo (r : List (ByteArray × V)) : List ByteArray := r.map (·.1)
theorem ZbA (x y : ByteArray) (v : V) : ∀ r : List (ByteArray × V), Zbx y (ZbM x v r) = if x = y then some v else Zbx y r
 | [] => by
  unfold ZbM Zbx
  by_cases h : x = y <;> simp [h, Zbx]
 | p :: r => by
  unfold ZbM
  by_cases h : p.1 = x
  ·rw [show decide (p.1 = x) = true from decide_eq_true h]
   show Zbx y ((x, v) :: r) = _
   unfold Zbx
   by_cases h2 : x = y
   ·simp [h2]
   ·simp [h2, show ¬ p.1 = y from fun h3 => h2 (h.symm.trans h3)]
  ·rw [show decide (p.1 = x) = false from decide_eq_false h]
   show Zbx y (p :: ZbM x v r) = _
   unfold Zbx
   rw [ZbA x y v r]
   by_cases h2 : p.1 = y
   ·simp [h2, show ¬ x = y from fun h3 => h (h2.trans h3.symm)]
   ·simp [h2]
theorem ZeV (x : ByteArray) (v : V) : ∀ r : List (ByteArray × V), (x ∈ Zbo r ∧ Zbo (ZbM x v r) = Zbo r) ∨ (x ∉ Zbo r ∧ Zbo (ZbM x v r) = Zbo r ++ [x])
 | [] => .inr ⟨by simp [Zbo], rfl⟩
 | p :: r => by
  have ih := ZeV x v r
  unfold ZbM
  by_cases h : p.1 = x
  ·rw [show decide (p.1 = x) = true from decide_eq_true h]
   exact .inl ⟨by unfold Zbo; simp [h], by unfold Zbo; simp [h]⟩
  ·rw [show decide (p.1 = x) = false from decide_eq_false h]
   have h2 : ¬ x = p.1 := fun e => h e.symm
   show (x ∈ p.1 :: Zbo r ∧ p.1 :: Zbo (ZbM x v r) = p.1 :: Zbo r) ∨ (x ∉ p.1 :: Zbo r ∧ p.1 :: Zbo (ZbM x v r) = p.1 :: Zbo r ++ [x])
   rcases ih with ⟨h3, h4⟩ | ⟨h3, h4⟩
   ·exact .inl ⟨List.mem_cons_of_mem _ h3, by rw [h4]⟩
   ·exact .inr ⟨fun hm => (Yo.1 hm).elim h2 h3, by rw [h4]; rfl⟩
theorem ZiD (x : ByteArray) (v : V) {r : List (ByteArray × V)} (h : (Zbo r).Nodup) : (Zbo (ZbM x v r)).Nodup := by
 rcases ZeV x v r with ⟨_, e⟩ | ⟨hx, e⟩
 ·rw [e]; exact h
 ·rw [e, Ybr]
  exact ⟨h, by simp, fun a ha b hb => by simp at hb; subst hb; exact fun e => hx (e ▸ ha)⟩
theorem Zcz (x : ByteArray) : ∀ r : List (ByteArray × V), x ∈ Zbo r ↔ (Zbx x r).isSome = true
 | [] => by simp [Zbo, Zbx]
 | p :: r => by
  have ih := Zcz x r
  unfold Zbx
  by_cases h : p.1 = x
  ·simp [Zbo, h]
  ·have h2 : ¬ x = p.1 := fun e => h e.symm
   simp only [h, decide_false, Zbo, YR, Yo, h2, false_or]
   exact ih
theorem ZtR (x : ByteArray) (v : V) (r : List (ByteArray × V)) : (ZbM x v r).length ≤ r.length + 1 := by
 have e : ∀ r : List (ByteArray × V), r.length = (Zbo r).length := fun r => (Yk _).symm
 rw [e, e r]
 rcases ZeV x v r with ⟨_, e⟩ | ⟨_, e⟩ <;> rw [e] <;> simp
theorem Zm8 {x : ByteArray} {v : V} : ∀ {r : List (ByteArray × V)}, (Zbo r).Nodup → (x, v) ∈ r → Zbx x r = some v
 | p :: r, hn, h => by
  simp only [Zbo, YR, Ybf] at hn
  unfold Zbx
  rcases Yo.1 h with rfl | h
  ·simp
  ·have : ¬ p.1 = x := fun e => hn.1 (e ▸ Yq.2 ⟨_, h, rfl⟩)
   simp only [this, decide_false]
   exact Zm8 hn.2 h
end
def ZpK (s : Scm) (n : ByteArray) : Option Msg := s.messages.find? fun m => decide (m.name = n)
def isM (s : Scm) (n : ByteArray) : Bool := (ZpK s n).isSome
def isE (s : Scm) (n : ByteArray) : Bool := s.enums.any fun e => decide (e.name = n)
def Zdd (s : Scm) (n : ByteArray) : List Fld := ((ZpK s n).map Msg.fields).getD []
def toF (s : Scm) (f : Fld) : Bool := isM s f.type.name && decide (f.type.kind = 10)
def ldF (s : Scm) (f : Fld) : Bool := toF s f || (decide (f.type.kind = 9) && isE s f.type.name)
def Za7 (s : Scm) (n : ByteArray) : List ByteArray := ((Zdd s n).filter (toF s)).map fun f => f.type.name
def Zt6 (s : Scm) (n : ByteArray) : List ByteArray := ((Zdd s n).filter (ldF s)).map fun f => f.type.name
structure Fw (s : Scm) : Prop where
 m : s.messages.length ≤ 8
 e : s.enums.length ≤ 8
 f : ∀ m ∈ s.messages, m.fields.length ≤ 10
theorem Fw.fl {s : Scm} (h : Fw s) (n : ByteArray) : (Zdd s n).length ≤ 10 := by
 unfold Zdd
 cases hm : ZpK s n with
 | none => simp
 | some m => exact h.f m (List.mem_of_find?_eq_some hm)
theorem Fw.nl {s : Scm} (h : Fw s) (n : ByteArray) : (Za7 s n).length ≤ 10 := by
 unfold Za7
 rw [Yk]
 exact Y0 (Yab _ _) (h.fl n)
theorem Zep {s : Scm} {n x : ByteArray} (h : x ∈ Za7 s n) : isM s x = true := by
 unfold Za7 at h
 obtain ⟨f, hf, rfl⟩ := Yq.1 h
 have := (YH.1 hf).2
 unfold toF at this
 exact (Yay.1 this).1
def nmM (s : Scm) : List ByteArray := s.messages.map Msg.name
theorem Zcg {s : Scm} {n : ByteArray} : isM s n = true ↔ n ∈ nmM s := by
 unfold isM ZpK nmM
 rw [List.find?_isSome]
 simp [Yq]
theorem Ztu {s : Scm} {n : ByteArray} : isE s n = true ↔ n ∈ s.enums.map Enm.name := by
 unfold isE
 simp [YM, Yq]
theorem ZnC {s : Scm} {n : ByteArray} {m : Msg} (h : ZpK s n = some m) : m.name = n := by
 have := List.find?_some h
 exact of_decide_eq_true this
structure WOk (s : Scm) (w : Web) : Prop where
 m : ∀ n, Zbx n w.messages = ZpK s n
 e : ∀ n, lkM n w.enums = isE s n
 nd : (Zbo w.messages).Nodup
 l : w.messages.length ≤ s.messages.length
theorem WOk.im {s : Scm} {w : Web} (h : WOk s w) (n : ByteArray) : inM n w.messages = isM s n := by unfold inM isM; rw [h.m]
theorem WOk.fl {s : Scm} {w : Web} (h : WOk s w) (n : ByteArray) : (lkM n w.messages).fields = Zdd s n := by
 unfold lkM Zdd
 rw [h.m]
 cases ZpK s n <;> rfl
theorem WOk.key {s : Scm} {w : Web} (h : WOk s w) (n : ByteArray) : n ∈ Zbo w.messages ↔ isM s n = true := by rw [Zcz, h.m]; rfl
end Go.Eng
namespace Go.Proofs.Ythhipejbnbochaa
set_option linter.all false
open Go Go.Eng
def wvM (l : List Msg) : List (ByteArray × Msg) := l.foldl (fun r m => if inM m.name r = true then r else ZbM m.name m r) []
def wvE (l : List Enm) : List (ByteArray × Bool) := l.foldl (fun r e => ZbM e.name true r) []
theorem ZiH (l : List Msg) (m : Msg) : wvM (l ++ [m]) = if inM m.name (wvM l) = true then wvM l else ZbM m.name m (wvM l) := by unfold wvM; rw [YaV]; rfl
theorem Zjs (l : List Enm) (e : Enm) : wvE (l ++ [e]) = ZbM e.name true (wvE l) := by unfold wvE; rw [YaV]; rfl
theorem Znw {α : Type} {P : List α → Prop} (h0 : P []) (h1 : ∀ l x, P l → P (l ++ [x])) (l : List α) : P l := by
 have : ∀ l : List α, P l.reverse := fun l => by
  induction l with
  | nil => exact h0
  | cons x l ih => rw [List.reverse_cons]; exact h1 _ _ ih
 simpa using this l.reverse
theorem Zwb (l : List Msg) : (∀ n, Zbx n (wvM l) = l.find? fun m => decide (m.name = n)) ∧ (Zbo (wvM l)).Nodup ∧ (wvM l).length ≤ l.length := by
 refine Znw (P := fun l => (∀ n, Zbx n (wvM l) = l.find? fun m => decide (m.name = n)) ∧ (Zbo (wvM l)).Nodup ∧ (wvM l).length ≤ l.length) ⟨fun n => rfl, by simp [wvM, Zbo], Yg _⟩ (fun l m ⟨a, b, c⟩ => ?_) l
 rw [ZiH]
 split
 ·rename_i h
  refine ⟨fun n => ?_, b, by simp; omega⟩
  rw [a, List.find?_append]
  cases hf : l.find? fun m => decide (m.name = n) with
  | some x => rfl
  | none =>
   have : ¬ m.name = n := fun e => by
    subst e
    unfold inM at h
    rw [a, hf] at h
    cases h
   simp [this]
 ·rename_i h
  refine ⟨fun n => ?_, ZiD _ _ b, Y0 (ZtR ..) (by simp; omega)⟩
  rw [ZbA, List.find?_append, a]
  by_cases e : m.name = n
  ·subst e
   have : l.find? (fun x => decide (x.name = m.name)) = none := by
    unfold inM at h
    rw [a] at h
    simpa using h
   simp [this]
  ·simp only [e, if_false]
   cases l.find? fun m => decide (m.name = n) <;> simp [e]
theorem Zuu (l : List Enm) (n : ByteArray) : lkM n (wvE l) = l.any fun e => decide (e.name = n) := by
 refine Znw (P := fun l => lkM n (wvE l) = l.any fun e => decide (e.name = n)) rfl (fun l e ih => ?_) l
 rw [Zjs, List.any_append, ← ih]
 unfold lkM
 rw [ZbA]
 by_cases h : e.name = n <;> simp [h]
def Zwe (s : Scm) : Web := ⟨wvM s.messages, wvE s.enums⟩
theorem ZhI (s : Scm) : WOk s (Zwe s) := by
 obtain ⟨a, b, c⟩ := Zwb s.messages
 exact ⟨a, Zuu s.enums, b, c⟩
theorem m32 {s : Scm} (h : Fw s) : ZcF s = some (Zwe s) := by
 have hm := h.m
 have he := h.e
 have q1 : ZaE (Zj1 s) big (0, []) = some (.inl (wvM s.messages)) := by
  have := ZeP (B := Zj1 s) (N := big) s.messages wvM (fun i b => (i, b)) id (hN := ZaZ (by omega)) (he := by simp [Zj1, ZoV, br, ix, vw, vs, ln, lxe, wa, mlk, mpu]) (hs := fun i x hx => by
   have g1 := Zdr hx
   have g0 := (Yb.1 hx).1
   have g2 : i + 1 < 9223372036854775808 := by omega
   dsimp only [Zj1, ZoV, br, ix, vw, vs, ln, lxe, wa, mlk, mpu]
   simp only [g1, g2, hx, decide_true, if_true, Option.bind_some, ZiH]
   cases inM x.name (wvM (s.messages.take i)) <;> simp)
  exact this
 have q2 : ZaE (Zj3 s (wvM s.messages)) big (0, []) = some (.inl (wvE s.enums)) := by
  have := ZeP (B := Zj3 s (wvM s.messages)) (N := big) s.enums wvE (fun i b => (i, b)) id (hN := ZaZ (by omega)) (he := by simp [Zj3, Zot, br, ix, vw, vs, ln, lxe, wa, mpu]) (hs := fun i x hx => by
   have g1 := Zdr hx
   have g0 := (Yb.1 hx).1
   have g2 : i + 1 < 9223372036854775808 := by omega
   dsimp only [Zj3, Zot, br, ix, vw, vs, ln, lxe, wa, mpu]
   simp only [g1, g2, hx, decide_true, if_true, Option.bind_some, Zjs])
  exact this
 dsimp only [ZcF, Ztz, Zt1, Zsm, Ztl, vz, vw, lr, lc, eqL]
 rw [q1]
 simp only [Option.bind_some, Sum.elim_inl, q2]
 rfl
section
variable {s : Scm} {w : Web} (hw : WOk s w) (h : Fw s)
include hw
theorem m62 (f : Fld) : Zcj w f = some (toF s f) := by
 dsimp only [Zcj, Zq4, vw, lr, mlk]
 rw [hw.im]
 rfl
include h
theorem m56 (n : ByteArray) : Za9 w n = some (Za7 s n) := by
 have hl := h.fl n
 have e := hw.fl n
 have q1 : ZaE (Zko w (lkM n w.messages)) big ([], 0) = some (.inl (Za7 s n)) := by
  have := ZeP (B := Zko w (lkM n w.messages)) (N := big) (Zdd s n) (fun p => (p.filter (toF s)).map fun f => f.type.name) (fun i b => (b, i)) id (hN := ZaZ (by omega)) (he := by simp [Zko, ZoA, br, ix, vz, vw, vs, ln, lxe, ap, cl, wa, fl, e]) (hs := fun i x hx => by
   have g1 := Zdr hx
   have g0 := (Yb.1 hx).1
   have g2 : i + 1 < 9223372036854775808 := by omega
   have g3 : ((((Zdd s n).take i).filter (toF s)).map fun f => f.type.name).length < 549755813887 := by
    rw [Yk]
    have := Yab (toF s) ((Zdd s n).take i)
    rw [YX] at this
    omega
   dsimp only [Zko, ZoA, br, ix, vz, vw, vs, ln, lxe, ap, cl, wa, fl]
   simp only [e, g1, g2, g3, hx, m62 hw, decide_true, if_true, Option.bind_some, YaF, YaM]
   cases hb : toF s x <;> simp [List.filter_cons, hb])
  exact this
 dsimp only [Za9, ZsH, Zrs, ZsP, ZrP, vz, vw, lr, lc, mv, mlk, fl, eqL]
 rw [q1]
 rfl
end
theorem ZhF {l r : List ByteArray} (h : l.Perm r) : Zdv l = Zdv r :=
 (((Zbn l).trans h).trans (Zbn r).symm).eq_of_pairwise (fun a b _ _ h1 h2 => ZdU (Ybw h1 h2)) (Zc0 l) (Zc0 r)
theorem Zk2 {l : List ByteArray} (h : l.Nodup) : Asc (Zdv l) := by
 have h1 := Zc0 l
 have h2 : (Zdv l).Nodup := (Zbn l).nodup_iff.2 h
 exact (List.pairwise_and_iff.2 ⟨h1, h2⟩).imp fun {a b} ⟨h3, h4⟩ => (ZcD a b).2 (ZoY h3 fun e => h4 (ZdU e))
theorem ZcU {l r : List ByteArray} (h : l.Nodup) (hs : ∀ x ∈ l, x ∈ r) : l.length ≤ r.length := List.Nodup.length_le_of_subset h hs
theorem Zc4 {α : Type} : ∀ {l : List α} {i : Nat} {x : α}, l[i]? = some x → (x :: l.eraseIdx i).Perm l
 | a :: l, 0, x, h => by simp at h; subst h; exact .refl _
 | a :: l, i + 1, x, h => by
  simp at h
  exact (List.Perm.swap ..).trans ((Zc4 h).cons a)
def nmW (w : Web) : List ByteArray := Zdv (Zbo w.messages)
section
variable {s : Scm} {w : Web} (hw : WOk s w) (h : Fw s)
include hw
theorem ZrJ : Asc (nmW w) := Zk2 hw.nd
theorem Zio (n : ByteArray) : n ∈ nmW w ↔ isM s n = true := by
 unfold nmW
 rw [(Zbn _).mem_iff, hw.key]
include h
theorem Zfc : (nmW w).length ≤ 8 := by
 unfold nmW
 rw [(Zbn _).length_eq]
 have := hw.l
 have := h.m
 simp only [Zbo, Yk]
 omega
theorem n33 : Zcv w = some (nmW w) := by
 have hl := hw.l
 have hm := h.m
 refine Znk ?_
 have q1 : ZeS (Zdg ZkN big ([], w.messages)) fun o => Sum.elim (fun l => l.Perm (Zbo w.messages)) (fun _ => False) o := by
  refine Zcq (B := ZkN) (fun k v => v.2.length = k ∧ (v.1 ++ Zbo v.2).Perm (Zbo w.messages)) _ (fun k v hI => ?_) big w.messages.length ([], w.messages) (ZaZ (by omega)) ⟨rfl, .refl _⟩
  obtain ⟨r1, r2⟩ := v
  obtain ⟨h1, h2⟩ := hI
  simp only at h1 h2
  have hlen : r1.length ≤ 8 := by
   have := h2.length_eq
   simp only [List.length_append, Zbo, Yk] at this
   omega
  unfold ZkN
  simp only
  unfold Zor
  refine Zl1 (fun e => ?_) (fun i x hx => ?_)
  ·subst e
   refine ZaI ?_
   simpa [Zbo] using h2
  ·have hlt := (Yb.1 hx).1
   dsimp only [ZkN, Zor, vz, vw, ap, nxN, lnN, ZkD, fl]
   rw [if_pos (by omega)]
   refine ZaI ⟨(r2.eraseIdx i).length, by rw [Yau hlt]; omega, rfl, ?_⟩
   have e := (Yb.1 hx).2
   have hp : (x :: r2.eraseIdx i).Perm r2 := Zc4 hx
   refine .trans ?_ h2
   rw [YQ]
   refine Ya8 _ ?_
   exact hp.map (·.1)
 dsimp only [ZbG, Zru, Zrn, ZsO, ZrW, ZrN, ZsX, vz, vw, lc, rn, lrN, fl, fr]
 refine ZbX q1 fun o ho => ?_
 cases o with
 | inr _ => exact ho.elim
 | inl l =>
  have ho : l.Perm (Zbo w.messages) := ho
  have hlen : l.length ≤ 8 := by
   have := ho.length_eq
   simp only [Zbo, Yk] at this
   omega
  have hs : (Zdv l).length = l.length := (Zbn l).length_eq
  simp only [Sum.elim_inl]
  unfold Zcy
  rw [if_pos (by omega)]
  simp only [Option.bind_some, hs, if_true]
  exact ZaI (ZhF ho)
end
inductive Rch (s : Scm) (a : ByteArray) : ByteArray → Prop
 | one {b : ByteArray} : b ∈ Za7 s a → Rch s a b
 | tl {b c : ByteArray} : Rch s a b → c ∈ Za7 s b → Rch s a c
theorem Rch.isM {s : Scm} {a b : ByteArray} (h : Rch s a b) : isM s b = true := by
 cases h with
 | one h => exact Zep h
 | tl _ h => exact Zep h
theorem Rch.trans {s : Scm} {a b c : ByteArray} (h : Rch s a b) (k : Rch s b c) : Rch s a c := by
 induction k with
 | one k => exact .tl h k
 | tl _ k ih => exact .tl ih k
theorem Rch.hd {s : Scm} {a b c : ByteArray} (h : b ∈ Za7 s a) (k : Rch s b c) : Rch s a c := (Rch.one h).trans k
structure ROk (s : Scm) (n : ByteArray) (r : List (ByteArray × Bool)) : Prop where
 i : ∀ x, lkM x r = true ↔ Rch s n x
 k : ∀ x, x ∈ Zbo r ↔ lkM x r = true
 nd : (Zbo r).Nodup
 l : r.length ≤ 8
structure RInv (s : Scm) (n : ByteArray) (todo : List ByteArray) (r : List (ByteArray × Bool)) : Prop where
 t : ∀ x ∈ todo, Rch s n x
 o : ∀ x, lkM x r = true → Rch s n x
 c0 : ∀ x ∈ Za7 s n, x ∈ todo ∨ lkM x r = true
 c : ∀ y, lkM y r = true → ∀ x ∈ Za7 s y, x ∈ todo ∨ lkM x r = true
 k : ∀ x, x ∈ Zbo r ↔ lkM x r = true
 nd : (Zbo r).Nodup
theorem ZfA (x y : ByteArray) (r : List (ByteArray × Bool)) : lkM y (ZbM x true r) = true ↔ x = y ∨ lkM y r = true := by
 unfold lkM
 rw [ZbA]
 by_cases h : x = y <;> simp [h]
def ZoF (s : Scm) (r : List (ByteArray × Bool)) : Nat := ((nmM s).filter fun x => !lkM x r).length
theorem Zow {s : Scm} {x : ByteArray} {r : List (ByteArray × Bool)} (h : isM s x = true) (hx : lkM x r = false) : ZoF s (ZbM x true r) < ZoF s r := by
 unfold ZoF
 have hm := Zcg.1 h
 have e : ((nmM s).filter fun y => !lkM y (ZbM x true r)) = ((nmM s).filter fun y => !lkM y r).filter fun y => decide (y ≠ x) := by
  rw [List.filter_filter]
  refine List.filter_congr fun y _ => ?_
  have := ZfA x y r
  by_cases e : x = y
  ·subst e
   simp [this.2 (.inl rfl)]
  ·have e2 : ¬ y = x := fun q => e q.symm
   cases hy : lkM y r with
   | true => simp [this.2 (.inr hy)]
   | false =>
    have : lkM y (ZbM x true r) = false := by
     cases hq : lkM y (ZbM x true r) with
     | false => rfl
     | true => rcases this.1 hq with q | q; exact absurd q e; rw [hy] at q; cases q
    simp [this, e2]
 rw [e]
 refine Nat.lt_of_le_of_ne (Yab _ _) fun q => ?_
 rw [List.length_filter_eq_length_iff] at q
 have := q x (YH.2 ⟨hm, by rw [hx]; rfl⟩)
 simp at this
section
variable {s : Scm} {w : Web} (hw : WOk s w) (h : Fw s)
include hw h
theorem m34 (n : ByteArray) : ∃ r, ZbD w n = some r ∧ ROk s n r := by
 have hl8 : (nmM s).length ≤ 8 := by unfold nmM; rw [Yk]; exact h.m
 have q1 := Zbk (B := Zkr w) (I := fun k v => ZoF s v.2 * 11 + v.1.length = k ∧ k ≤ 98 ∧ RInv s n v.1 v.2) (Q := fun o => Sum.elim (fun r => ROk s n r) (fun _ => False) o) (fun k v hI => by
  obtain ⟨r2, r3⟩ := v
  obtain ⟨h1, h2, hI⟩ := hI
  simp only at h1 hI
  cases r2 with
  | nil =>
   refine ⟨.ex r3, by simp [Zkr, ZlC, ZkZ, ZlN, Zmn, Zl3, ZnE, ZmZ, Znj, br, vz, vw, vs, ln, lxe, lc, ar, ir, ca, sR, rb, mlk, mpu, fl, eqN, Bd.c, Bd.vl], ?_⟩
   have hi : ∀ x, lkM x r3 = true ↔ Rch s n x := fun x => ⟨hI.o x, fun hr => by
    induction hr with
    | one hx => exact (hI.c0 _ hx).resolve_left (by simp)
    | tl _ hx ih => exact (hI.c _ ih _ hx).resolve_left (by simp)⟩
   refine ⟨hi, hI.k, hI.nd, ?_⟩
   have := ZcU hI.nd (r := nmM s) fun x hx => Zcg.1 ((hi x).1 ((hI.k x).1 hx)).isM
   simp only [Zbo, Yk] at this
   omega
  | cons x r2 =>
   simp only [Y6] at h1
   have hx := hI.t x (Yt ..)
   have g0 : (0 : Int) < ((r2.length + 1 : Nat) : Int) := by omega
   have hnl := h.nl x
   cases hk : lkM x r3 with
   | true =>
    refine ⟨.nx (r2, r3), by dsimp only [Zkr, ZlC, ZkZ, ZlN, Zmn, Zl3, ZnE, ZmZ, Znj, br, vz, vw, vs, ln, lxe, lc, ar, ir, ca, sR, rb, mlk, mpu, fl, eqN, Bd.c, Bd.vl]; simp [hk] <;> omega, ZoF s r3 * 11 + r2.length, by omega, rfl, by omega, ⟨fun y hy => hI.t y (List.mem_cons_of_mem _ hy), hI.o, fun y hy => ?_, fun z hz y hy => ?_, hI.k, hI.nd⟩⟩
    ·rcases hI.c0 y hy with q | q
     ·rcases Yo.1 q with rfl | q
      ·exact .inr hk
      ·exact .inl q
     ·exact .inr q
    ·rcases hI.c z hz y hy with q | q
     ·rcases Yo.1 q with rfl | q
      ·exact .inr hk
      ·exact .inl q
     ·exact .inr q
   | false =>
    have hp := Zow (s := s) (x := x) (r := r3) hx.isM hk
    refine ⟨.nx (r2 ++ Za7 s x, ZbM x true r3), by dsimp only [Zkr, ZlC, ZkZ, ZlN, Zmn, Zl3, ZnE, ZmZ, Znj, br, vz, vw, vs, ln, lxe, lc, ar, ir, ca, sR, rb, mlk, mpu, fl, eqN, Bd.c, Bd.vl]; simp [hk, m56 hw h] <;> omega, ZoF s (ZbM x true r3) * 11 + (r2 ++ Za7 s x).length, by rw [List.length_append]; omega, rfl, by rw [List.length_append]; omega, ⟨fun y hy => ?_, fun y hy => ?_, fun y hy => ?_, fun z hz y hy => ?_, fun y => ?_, ZiD _ _ hI.nd⟩⟩
    ·rcases YO.1 hy with q | q
     ·exact hI.t y (List.mem_cons_of_mem _ q)
     ·exact .tl hx q
    ·rcases (ZfA x y r3).1 hy with rfl | q
     ·exact hx
     ·exact hI.o y q
    ·rw [ZfA]
     rcases hI.c0 y hy with q | q
     ·rcases Yo.1 q with rfl | q
      ·exact .inr (.inl rfl)
      ·exact .inl (YS _ q)
     ·exact .inr (.inr q)
    ·rw [ZfA]
     rcases (ZfA x z r3).1 hz with rfl | hz
     ·exact .inl (Yaq _ hy)
     ·rcases hI.c z hz y hy with q | q
      ·rcases Yo.1 q with rfl | q
       ·exact .inr (.inl rfl)
       ·exact .inl (YS _ q)
      ·exact .inr (.inr q)
    ·rw [ZfA, ← hI.k y]
     rcases ZeV x true r3 with ⟨a, e⟩ | ⟨a, e⟩
     ·rw [e]
      exact ⟨.inr, fun q => q.elim (fun q => q ▸ a) id⟩
     ·rw [e, YO, YT]
      exact ⟨fun q => q.elim .inr fun q => .inl q.symm, fun q => q.elim (fun q => .inr q.symm) .inl⟩) big (ZoF s [] * 11 + (Za7 s n).length) (Za7 s n, []) (ZaZ (by
   have h1 : ZoF s [] ≤ (nmM s).length := Yab _ _
   have := h.nl n
   omega)) ⟨rfl, by
   have h1 : ZoF s [] ≤ (nmM s).length := Yab _ _
   have := h.nl n
   omega, ⟨fun x hx => .one hx, fun x hx => by simp [lkM, Zbx, Mv.z] at hx, fun x hx => .inl hx, fun y hy => by simp [lkM, Zbx, Mv.z] at hy, fun x => by simp [Zbo, lkM, Zbx, Mv.z], by simp [Zbo]⟩⟩
 obtain ⟨o, e, hq⟩ := q1
 cases o with
 | inr _ => exact hq.elim
 | inl r =>
  refine ⟨r, ?_, hq⟩
  dsimp only [ZbD, Zlw, Zlb, Zla, Zse, vz, vw, lr, lc, fl]
  simp only [m56 hw h, Option.bind_some, e, Sum.elim_inl]
end
theorem ZgC {α : Type} (p : α → Bool) : ∀ l : List α, l.find? p = (l.findIdx? p).bind fun i => l[i]?
 | [] => rfl
 | x :: l => by
  rw [List.find?_cons, Ybo]
  cases h : p x with
  | true => simp
  | false =>
   rw [ZgC p l]
   cases List.findIdx? p l <;> simp
theorem Zeo {α : Type} {p : α → Bool} : ∀ {l : List α}, (l.findIdx? p).isSome = l.any p
 | [] => rfl
 | x :: l => by
  rw [Ybo, List.any_cons, ← Zeo (l := l)]
  cases p x <;> simp
def ixM (s : Scm) (n : ByteArray) : Option Nat := s.messages.findIdx? fun m => decide (m.name = n)
def ixE (s : Scm) (n : ByteArray) : Option Nat := s.enums.findIdx? fun m => decide (m.name = n)
def zM : Msg := ⟨⟨#[]⟩, [], [], [], []⟩
def zE : Enm := ⟨⟨#[]⟩, false, [], [], []⟩
def ZfJ (s : Scm) (n : ByteArray) : Msg × Int := (ixM s n).elim (zM, -1) fun i => (s.messages.getD i zM, (i : Int))
def Zt7 (s : Scm) (n : ByteArray) : Enm × Int := (ixE s n).elim (zE, -1) fun i => (s.enums.getD i zE, (i : Int))
theorem Zib (s : Scm) (n : ByteArray) : ZpK s n = (ixM s n).bind fun i => s.messages[i]? := ZgC _ _
theorem ZmL {s : Scm} {n : ByteArray} {i : Nat} (h : ixM s n = some i) : i < s.messages.length := by
 unfold ixM at h
 rw [Yaf] at h
 exact h.1
theorem Zf7 (s : Scm) (n : ByteArray) : (ixM s n).isSome = isM s n := by
 unfold isM
 rw [Zib]
 cases h : ixM s n with
 | none => rfl
 | some i => simp [Yc (ZmL h)]
theorem ZqJ (s : Scm) (n : ByteArray) : (ZfJ s n).1.fields = Zdd s n := by
 unfold ZfJ Zdd
 rw [Zib]
 cases h : ixM s n with
 | none => rfl
 | some i => simp [Yc (ZmL h), Yu]
theorem Zqr (s : Scm) (n : ByteArray) : decide (0 ≤ (ZfJ s n).2) = isM s n := by
 rw [← Zf7]
 unfold ZfJ
 cases ixM s n with
 | none => rfl
 | some i => simp
theorem ZuE (s : Scm) (n : ByteArray) : decide ((ZfJ s n).2 < 0) = !isM s n := by
 rw [← Zqr]
 by_cases h : (ZfJ s n).2 < 0
 ·rw [decide_eq_true h, decide_eq_false (by omega)]; rfl
 ·rw [decide_eq_false h, decide_eq_true (by omega)]; rfl
theorem Zvp (s : Scm) (n : ByteArray) : decide (0 ≤ (Zt7 s n).2) = isE s n := by
 have e : (ixE s n).isSome = isE s n := Zeo
 rw [← e]
 unfold Zt7
 cases ixE s n with
 | none => rfl
 | some i => simp
theorem Zva (s : Scm) (n : ByteArray) : decide ((Zt7 s n).2 < 0) = !isE s n := by
 rw [← Zvp]
 by_cases h : (Zt7 s n).2 < 0
 ·rw [decide_eq_true h, decide_eq_false (by omega)]; rfl
 ·rw [decide_eq_false h, decide_eq_true (by omega)]; rfl
theorem m18 {s : Scm} (h : Fw s) (n : ByteArray) : ZaS s n = some (ZfJ s n) := by
 have hm := h.m
 have q1 := ZdG (B := Zly s n) (N := big) s.messages (fun m => decide (m.name = n)) (fun i => (s.messages.getD i zM, (i : Int))) () (fun i x hx => by
  have g1 := Zdr hx
  have g0 := (Yb.1 hx).1
  have g2 : i + 1 < 9223372036854775808 := by omega
  dsimp only [Zly, ZpL, br, ix, vz, vw, vs, lrt, ln, lxe, wa, eqL]
  simp only [g1, g2, hx, decide_true, if_true, Option.bind_some, Yu, Y3]
  cases decide (x.name = n) <;> simp) (by simp [Zly, ZpL, br, ix, vz, vw, vs, lrt, ln, lxe, wa, eqL]) (ZaZ (by omega))
 dsimp only [ZaS, Zr8, Zr1, Ztf, vw, lr, lc]
 rw [q1]
 unfold ZfJ ixM
 cases s.messages.findIdx? fun m => decide (m.name = n) <;> rfl
theorem m46 {s : Scm} (h : Fw s) (n : ByteArray) : Zbc s n = some (Zt7 s n) := by
 have hm := h.e
 have q1 := ZdG (B := ZnG s n) (N := big) s.enums (fun m => decide (m.name = n)) (fun i => (s.enums.getD i zE, (i : Int))) () (fun i x hx => by
  have g1 := Zdr hx
  have g0 := (Yb.1 hx).1
  have g2 : i + 1 < 9223372036854775808 := by omega
  dsimp only [ZnG, ZpH, br, ix, vz, vw, vs, lrt, ln, lxe, wa, eqL]
  simp only [g1, g2, hx, decide_true, if_true, Option.bind_some, Yu, Y3]
  cases decide (x.name = n) <;> simp) (by simp [ZnG, ZpH, br, ix, vz, vw, vs, lrt, ln, lxe, wa, eqL]) (ZaZ (by omega))
 dsimp only [Zbc, ZtQ, ZrS, Zre, vw, lr, lc]
 rw [q1]
 unfold Zt7 ixE
 cases s.enums.findIdx? fun m => decide (m.name = n) <;> rfl
def ZhM (l : List ByteArray) (x : ByteArray) : Bool := l.any fun y => decide (y = x)
theorem Zby {l : List ByteArray} {x : ByteArray} : ZhM l x = true ↔ x ∈ l := by
 unfold ZhM
 simp [YM]
theorem m27 {l : List ByteArray} (h : l.length < 4611686018427387904) (x : ByteArray) : Zbh l x = some (ZhM l x) := by
 have q1 := ZdG (B := ZnZ l x) (N := big) l (fun y => decide (y = x)) (fun i => true) () (fun i y hy => by
  have g1 := Zdr hy
  have g0 := (Yb.1 hy).1
  have g2 : i + 1 < 9223372036854775808 := by omega
  dsimp only [ZnZ, Zoj, br, ix, vz, vs, lrt, ln, lxe, wa, eqL]
  simp only [g1, g2, hy, decide_true, if_true, Option.bind_some]
  cases decide (y = x) <;> simp) (by simp [ZnZ, Zoj, br, ix, vz, vs, lrt, ln, lxe, wa, eqL]) (ZaZ h)
 dsimp only [Zbh, ZsS, ZtH, Zrw, lr, lc]
 rw [q1]
 unfold ZhM
 rw [← Zeo]
 cases l.findIdx? fun y => decide (y = x) <;> rfl
def ZbT (l : List ByteArray) (x : ByteArray) : List ByteArray := if ZhM l x = true then l else (l.takeWhile (fun y => sLt y x) ++ [x]) ++ l.drop (l.takeWhile fun y => sLt y x).length
theorem Zig {α : Type} (p : α → Bool) (l : List α) : l.drop (l.takeWhile p).length = l.dropWhile p := by
 conv => lhs; arg 2; rw [← Yai (p := p) (l := l)]
 rw [List.drop_left]
theorem Zg4 (l : List ByteArray) (x : ByteArray) : (ZbT l x).length ≤ l.length + 1 := by
 unfold ZbT
 split
 ·omega
 ·rw [Zig, List.length_append, List.length_append]
  have := congrArg List.length (Yai (p := fun y => sLt y x) (l := l))
  rw [List.length_append] at this
  simp
  omega
theorem Zmr (l : List ByteArray) (x y : ByteArray) : y ∈ ZbT l x ↔ y = x ∨ y ∈ l := by
 unfold ZbT
 split
 ·rename_i h
  exact ⟨.inr, fun h2 => h2.elim (fun e => e ▸ Zby.1 h) id⟩
 ·rw [Zig]
  have h2 : y ∈ l ↔ y ∈ l.takeWhile (fun y => sLt y x) ∨ y ∈ l.dropWhile (fun y => sLt y x) := by
   conv => lhs; rw [← Yai (p := fun y => sLt y x) (l := l)]
   exact YO
  rw [YO, YO, YT, h2]
  constructor
  ·rintro ((h | h) | h)
   ·exact .inr (.inl h)
   ·exact .inl h
   ·exact .inr (.inr h)
  ·rintro (h | h | h)
   ·exact .inl (.inr h)
   ·exact .inl (.inl h)
   ·exact .inr h
theorem Zqg {p : ByteArray → Bool} {x : ByteArray} : ∀ {l : List ByteArray}, x ∈ l.takeWhile p → p x = true
 | [], h => by cases h
 | y :: l, h => by
  rw [Ybi] at h
  split at h
  ·rename_i hy
   rcases Yo.1 h with rfl | h
   ·exact hy
   ·exact Zqg h
  ·cases h
theorem Znb {l : List ByteArray} (h : Asc l) (x : ByteArray) : Asc (ZbT l x) := by
 unfold ZbT
 split
 ·exact h
 ·rename_i hx
  have hs : x ∉ l := fun q => hx (Zby.2 q)
  rw [Zig, YQ]
  have e := Yai (p := fun y => sLt y x) (l := l)
  have h' := h
  rw [← e] at h'
  obtain ⟨h1, h2, h3⟩ := Ybg.1 h'
  have t2 : ∀ y ∈ l.dropWhile (fun y => sLt y x), sLt x y = true := fun y hy => by
   cases hd : l.dropWhile (fun y => sLt y x) with
   | nil => rw [hd] at hy; cases hy
   | cons b r =>
    have hb : sLt b x = false := by
     have := List.head?_dropWhile_not (fun y => sLt y x) l
     rw [hd] at this
     simpa using this
    have hbl : b ∈ l := by
     rw [← e, hd]
     exact Yaq _ (Yt ..)
    have hsb : sLt x b = true := Zr3 hb fun e => hs (e ▸ hbl)
    rw [hd] at hy h2
    rcases Yo.1 hy with rfl | hy
    ·exact hsb
    ·exact Zqv hsb (List.rel_of_pairwise_cons h2 hy)
  refine Ybg.2 ⟨h1, YaE.2 ⟨t2, h2⟩, fun a ha b hb => ?_⟩
  rcases Yo.1 hb with rfl | hb
  ·exact Zqg (p := fun y => sLt y b) ha
  ·exact h3 a ha b hb
theorem Zij {α : Type} {p : α → Bool} : ∀ {l : List α} {i : Nat}, (∀ y ∈ l.take i, p y = true) → (∀ y, l[i]? = some y → p y = false) → l.takeWhile p = l.take i
 | [], i, _, _ => by simp
 | x :: l, 0, _, h => by rw [Ybi, h x rfl]; rfl
 | x :: l, i + 1, h1, h2 => by
  rw [Ybi, h1 x (by simp), List.take_succ_cons]
  simp only [if_true]
  rw [Zij (i := i) (fun y hy => h1 y (by simp [hy])) (fun y hy => h2 y (by simpa using hy))]
theorem m53 {l : List ByteArray} (h : l.length ≤ 1000000) (x : ByteArray) : Zbe l x = some (ZbT l x) := by
 have q1 := Zbk (B := ZjZ l x) (I := fun k v => k + v.2 = l.length ∧ v.1 = l.take v.2 ∧ ∀ y ∈ v.1, sLt y x = true) (Q := fun o => o = .inl (l.takeWhile fun y => sLt y x)) (fun k v hI => by
  obtain ⟨r, i⟩ := v
  obtain ⟨h1, h2, h3⟩ := hI
  simp only at h1 h2 h3
  subst h2
  have hl : (l.take i).length = i := by rw [YX]; omega
  cases hk : l[i]? with
  | none =>
   have hge := YL.1 hk
   refine ⟨.ex (l.take i), by dsimp only [ZjZ, Zmk, br, ix, ixg, vz, vw, vs, ln, lxe, ap, wa, fl, eqL]; simp [show ¬ (i : Int) < (l.length : Int) by omega], ?_⟩
   rw [Zij h3 (fun y hy => by rw [hk] at hy; cases hy)]
  | some y =>
   have g1 := Zdr hk
   obtain ⟨g0, rfl⟩ := Yb.1 hk
   have g2 : i + 1 < 9223372036854775808 := by omega
   have e : l.getD i (Rw.z) = l[i] := by rw [Yu, hk]; rfl
   cases hy : sLt l[i] x with
   | false =>
    refine ⟨.ex (l.take i), by dsimp only [ZjZ, Zmk, br, ix, ixg, vz, vw, vs, ln, lxe, ap, wa, fl, eqL]; simp [g1, g0, e, hy], ?_⟩
    rw [Zij h3 (fun z hz => by rw [hk] at hz; cases hz; exact hy)]
   | true =>
    refine ⟨.nx (l.take i ++ [l[i]], i + 1), by dsimp only [ZjZ, Zmk, br, ix, ixg, vz, vw, vs, ln, lxe, ap, wa, fl, eqL]; simp [g1, g0, g2, e, hy, hk, hl]; omega, k - 1, by omega, by simp only; omega, ?_, fun z hz => ?_⟩
    ·simp only
     rw [Y4 g0]
    ·rcases YO.1 hz with q | q
     ·exact h3 z q
     ·rw [YT.1 q]; exact hy) big l.length ([], 0) (ZaZ (by omega)) ⟨rfl, by simp, fun y hy => by cases hy⟩
 obtain ⟨o, e, rfl⟩ := q1
 have hlt : (l.takeWhile fun y => sLt y x).length ≤ l.length := (List.takeWhile_sublist _).length_le
 dsimp only [Zbe, ZtX, ZtL, Zsx, Ztr, Ztj, br, vz, vw, lr, lc, ap, aq, cl, sL, fl, fr, eqN, Bd.c, Bd.vl]
 simp only [m27 (l := l) (by omega), Option.bind_some, e, Sum.elim_inl]
 unfold ZbT
 cases ZhM l x with
 | true => rfl
 | false =>
  simp [hlt]
  exact ⟨by omega, by omega, Y7 (by rw [Yah]; exact Yg _)⟩
theorem ZiL (l a : List ByteArray) : (l.foldl ZbT a).length ≤ a.length + l.length := by
 induction l generalizing a with
 | nil => exact Yg _
 | cons x l ih => rw [Yak]; have := ih (ZbT a x); have := Zg4 a x; simp; omega
theorem Zjt (l a : List ByteArray) (y : ByteArray) : y ∈ l.foldl ZbT a ↔ y ∈ l ∨ y ∈ a := by
 induction l generalizing a with
 | nil => simp
 | cons x l ih => rw [Yak, ih, Zmr, Yo, or_assoc, or_left_comm]
theorem ZiW {l a : List ByteArray} (h : Asc a) : Asc (l.foldl ZbT a) := by
 induction l generalizing a with
 | nil => exact h
 | cons x l ih => rw [Yak]; exact ih (Znb h x)
theorem Zf1 (l : List ByteArray) : l.foldl ZbT [] = ZgF l := (Zst (ZiW .nil) fun x => by rw [Zjt]; simp).symm
theorem Ziq (l : List ByteArray) : (ZgF l).length ≤ l.length := by rw [← Zf1]; have := ZiL l []; simpa using this
theorem Zex {α ρ : Type} {B : List ByteArray × Nat → Option (Lv (List ByteArray × Nat) (List ByteArray) ρ)} (l : List α) (c : α → Option ByteArray) (a : List ByteArray) (ha : a.length + l.length ≤ 1000000)
  (hs : ∀ (i : Nat) b x, l[i]? = some x → b.length ≤ 1000000 → i + 1 < 9223372036854775808 → (i : Int) < (l.length : Int) → B (b, i) = some (.nx ((c x).elim b (ZbT b), i + 1))) (he : ∀ b, B (b, l.length) = some (.ex b)) : ZaE B big (a, 0) = some (.inl ((l.filterMap c).foldl ZbT a)) := by
 have := Zhd (B := B) (N := big) l (fun i b => (b, i)) (fun i b => b.length ≤ a.length + i) (fun b x => (.inl ((c x).elim b (ZbT b)) : List ByteArray ⊕ ρ)) id (fun i b x hx hI => by
  have hlt := (Yb.1 hx).1
  refine ⟨hs i b x hx (by omega) (by omega) (Zdr hx), fun b' e => ?_⟩
  cases e
  cases c x with
  | none => simp; omega
  | some y => have := Zg4 b y; simp; omega) (fun b _ => he b) a (by omega) (ZaZ (by omega))
 rw [this, ZeH (fun b x => (c x).elim b (ZbT b)) (fun _ _ => rfl)]
 congr 2
 clear this hs he ha
 show _ = _
 induction l generalizing a with
 | nil => rfl
 | cons x l ih =>
  rw [Yak, ih, List.filterMap_cons]
  cases c x <;> rfl
end Go.Proofs.Ythhipejbnbochaa
