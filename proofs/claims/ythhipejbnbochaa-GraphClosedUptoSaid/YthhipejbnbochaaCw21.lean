import Derived.Test.YthhipejbnbochaaCw20
import Derived.Test.YthhipejbnbochaaCw12
import Derived.Test.YthhipejbnbochaaCw14
import Derived.Test.YthhipejbnbochaaCw15
import Derived.Test.YthhipejbnbochaaCw13
import Derived.Test.YthhipejbnbochaaCw00
namespace Go.Proofs.Ythhipejbnbochaa
set_option linter.all false
open Go Go.Eng
section
variable {H : Type} {enc : TypeId × Value → H} {W : World}
set_option maxRecDepth 100000
theorem Zu0 (n : Nat) : RdN enc Try.prog W n 159 ZnD := fun cs x hx => by
 obtain ⟨xs, m, rfl, rfl, hcl, hxl, hf⟩ := DataW.trod_struct Try.underlying159 hx
 obtain ⟨v0, r0, b0⟩ := rf (ZbU Try.underlying3) (hf 0 _ rfl) hxl
 obtain ⟨v1, r1, b1⟩ := rf (ZbU Try.underlying3) (hf 1 _ rfl) hxl
 obtain ⟨v2, r2, b2⟩ := rf (ZbU Try.underlying49) (hf 2 _ rfl) hxl
 obtain ⟨v3, r3, b3⟩ := rf (ZbM Try.underlying9) (hf 3 _ rfl) hxl
 have q := ZbZ (Zan b0 (Zan b1 (Zan b2 (ZbT b3))))
 exact ⟨.mk v0 v1 v2 v3, ⟨by rw [hcl]; kernel_rfl, (r0.at.app (r1.at.app (r2.at.app r3.at)))⟩, q⟩
theorem Znz (n : Nat) (h : ∀ k, k < n → RdN enc Try.prog W k 55 Zrq) : RdN enc Try.prog W n 155 ePr := fun cs x hx => by
 obtain ⟨xs, m, rfl, rfl, hcl, hxl, hf⟩ := DataW.trod_struct Try.underlying155 hx
 obtain ⟨v0, r0, b0⟩ := rf (h m (by omega)) (hf 0 _ rfl) hxl
 obtain ⟨v1, r1, b1⟩ := rf (h m (by omega)) (hf 1 _ rfl) hxl
 have q := ZbZ (Zan b0 (ZbT b1))
 exact ⟨.mk v0 v1, ⟨by rw [hcl]; kernel_rfl, (r0.at.app r1.at)⟩, q⟩
theorem Zla (n : Nat) (h : ∀ k, k < n → RdN enc Try.prog W k 55 Zrq) : RdN enc Try.prog W n 157 Zxu := fun cs x hx => by
 obtain ⟨xs, m, rfl, rfl, hcl, hxl, hf⟩ := DataW.trod_struct Try.underlying157 hx
 obtain ⟨v0, r0, b0⟩ := rf (ZbU Try.underlying3) (hf 0 _ rfl) hxl
 obtain ⟨v1, r1, b1⟩ := rf (h m (by omega)) (hf 1 _ rfl) hxl
 have q := ZbZ (Zan b0 (ZbT b1))
 exact ⟨.mk v0 v1, ⟨by rw [hcl]; kernel_rfl, (r0.at.app r1.at)⟩, q⟩
theorem ZpU (n : Nat) : RdN enc Try.prog W n 55 Zrq := by
 induction n using Nat.strongRecOn with
 | ind n ih =>
 intro cs x hx
 obtain ⟨xs, m, rfl, rfl, hcl, hxl, hf⟩ := DataW.trod_struct Try.underlying55 hx
 obtain ⟨v0, r0, b0⟩ := rf (ZbU Try.underlying3) (hf 0 _ rfl) hxl
 obtain ⟨v1, r1, b1⟩ := rf (ZbU Try.underlying49) (hf 1 _ rfl) hxl
 obtain ⟨v2, r2, b2⟩ := rf (ZbM Try.underlying9) (hf 2 _ rfl) hxl
 obtain ⟨v3, r3, b3⟩ := rf (Zay Try.underlying50 (by kernel_rfl : Try.prog.cellsOf 55 = 7) (by decide) (fun x => by rw [Zf8]; rfl) (fun k hk => (Zmi Zf8 (ih k (by omega))))) (hf 3 _ rfl) hxl
 obtain ⟨v4, r4, b4⟩ := rf (Zay Try.underlying51 (by kernel_rfl : Try.prog.cellsOf 155 = 14) (by decide) (fun x => by rw [ZpF]; rfl) (fun k hk => (Zmi ZpF (Znz k (fun j hj => ih j (by omega)))))) (hf 4 _ rfl) hxl
 obtain ⟨v5, r5, b5⟩ := rf (Zay Try.underlying52 (by kernel_rfl : Try.prog.cellsOf 157 = 8) (by decide) (fun x => by rw [ZlV]; rfl) (fun k hk => (Zmi ZlV (Zla k (fun j hj => ih j (by omega)))))) (hf 5 _ rfl) hxl
 obtain ⟨v6, r6, b6⟩ := rf (Zay Try.underlying53 (by kernel_rfl : Try.prog.cellsOf 159 = 4) (by decide) (fun _ => rfl) (fun k hk => (Zu0 k))) (hf 6 _ rfl) hxl
 have q := ZbZ (Zan b0 (Zan b1 (Zan b2 (Zan b3 (Zan b4 (Zan b5 (ZbT b6)))))))
 exact ⟨.mk v0 v1 v2 v3 v4 v5 v6, ⟨by rw [hcl]; kernel_rfl, (r0.at.app (r1.at.app (r2.at.app (r3.at.app (r4.at.app (r5.at.app r6.at))))))⟩, q⟩
theorem ZuN (n : Nat) : RdN enc Try.prog W n 48 ZzP := fun cs x hx => by
 obtain ⟨xs, m, rfl, rfl, hcl, hxl, hf⟩ := DataW.trod_struct Try.underlying48 hx
 obtain ⟨v0, r0, b0⟩ := rf (ZbU Try.underlying3) (hf 0 _ rfl) hxl
 obtain ⟨v1, r1, b1⟩ := rf (ZbM Try.underlying9) (hf 1 _ rfl) hxl
 have q := ZbZ (Zan b0 (ZbT b1))
 exact ⟨.mk v0 v1, ⟨by rw [hcl]; kernel_rfl, (r0.at.app r1.at)⟩, q⟩
theorem Zj5 (n : Nat) : RdN enc Try.prog W n 153 eNt := fun cs x hx => by
 obtain ⟨xs, m, rfl, rfl, hcl, hxl, hf⟩ := DataW.trod_struct Try.underlying153 hx
 obtain ⟨v0, r0, b0⟩ := rf (ZbM Try.underlying9) (hf 0 _ rfl) hxl
 obtain ⟨v1, r1, b1⟩ := rf (ZpU m) (hf 1 _ rfl) hxl
 have q := ZbZ (Zan b0 (ZbT b1))
 exact ⟨.mk v0 v1, ⟨by rw [hcl]; kernel_rfl, (r0.at.app r1.at)⟩, q⟩
theorem Ztq (n : Nat) : RdN enc Try.prog W n 57 Zdj := fun cs x hx => by
 obtain ⟨xs, m, rfl, rfl, hcl, hxl, hf⟩ := DataW.trod_struct Try.underlying57 hx
 obtain ⟨v0, r0, b0⟩ := rf (ZbU Try.underlying3) (hf 0 _ rfl) hxl
 obtain ⟨v1, r1, b1⟩ := rf (ZbM Try.underlying9) (hf 1 _ rfl) hxl
 obtain ⟨v2, r2, b2⟩ := rf (ZbU Try.underlying3) (hf 2 _ rfl) hxl
 obtain ⟨v3, r3, b3⟩ := rf (ZbU Try.underlying3) (hf 3 _ rfl) hxl
 obtain ⟨v4, r4, b4⟩ := rf (ZuN m) (hf 4 _ rfl) hxl
 obtain ⟨v5, r5, b5⟩ := rf (ZbM Try.underlying9) (hf 5 _ rfl) hxl
 obtain ⟨v6, r6, b6⟩ := rf (ZkR Try.underlying4) (hf 6 _ rfl) hxl
 obtain ⟨v7, r7, b7⟩ := rf (ZpU m) (hf 7 _ rfl) hxl
 obtain ⟨v8, r8, b8⟩ := rf (Zay Try.underlying40 (by kernel_rfl : Try.prog.cellsOf 153 = 8) (by decide) (fun _ => rfl) (fun k hk => (Zj5 k))) (hf 8 _ rfl) hxl
 have q := ZbZ (Zan b0 (Zan b1 (Zan b2 (Zan b3 (Zan b4 (Zan b5 (Zan b6 (Zan b7 (ZbT b8)))))))))
 exact ⟨.mk v0 v1 v2 v3 v4 v5 v6 v7 v8, ⟨by rw [hcl]; kernel_rfl, (r0.at.app (r1.at.app (r2.at.app (r3.at.app (r4.at.app (r5.at.app (r6.at.app (r7.at.app r8.at))))))))⟩, q⟩
theorem ZpI (n : Nat) : RdN enc Try.prog W n 151 Zk3 := fun cs x hx => by
 obtain ⟨xs, m, rfl, rfl, hcl, hxl, hf⟩ := DataW.trod_struct Try.underlying151 hx
 obtain ⟨v0, r0, b0⟩ := rf (ZbU Try.underlying3) (hf 0 _ rfl) hxl
 obtain ⟨v1, r1, b1⟩ := rf (ZbU Try.underlying3) (hf 1 _ rfl) hxl
 have q := ZbZ (Zan b0 (ZbT b1))
 exact ⟨.mk v0 v1, ⟨by rw [hcl]; kernel_rfl, (r0.at.app r1.at)⟩, q⟩
theorem Zv2 (n : Nat) : RdN enc Try.prog W n 42 Zbe := fun cs x hx => by
 obtain ⟨xs, m, rfl, rfl, hcl, hxl, hf⟩ := DataW.trod_struct Try.underlying42 hx
 obtain ⟨v0, r0, b0⟩ := rf (ZbM Try.underlying9) (hf 0 _ rfl) hxl
 obtain ⟨v1, r1, b1⟩ := rf (Zay Try.underlying38 (by kernel_rfl : Try.prog.cellsOf 57 = 16) (by decide) (fun _ => rfl) (fun k hk => (Ztq k))) (hf 1 _ rfl) hxl
 obtain ⟨v2, r2, b2⟩ := rf (Zay Try.underlying39 (by kernel_rfl : Try.prog.cellsOf 151 = 2) (by decide) (fun _ => rfl) (fun k hk => (ZpI k))) (hf 2 _ rfl) hxl
 obtain ⟨v3, r3, b3⟩ := rf (Zay Try.underlying31 (by kernel_rfl : Try.prog.cellsOf 9 = 1) (by decide) (fun _ => rfl) (fun k hk => (ZbM Try.underlying9))) (hf 3 _ rfl) hxl
 obtain ⟨v4, r4, b4⟩ := rf (Zay Try.underlying40 (by kernel_rfl : Try.prog.cellsOf 153 = 8) (by decide) (fun _ => rfl) (fun k hk => (Zj5 k))) (hf 4 _ rfl) hxl
 have q := ZbZ (Zan b0 (Zan b1 (Zan b2 (Zan b3 (ZbT b4)))))
 exact ⟨.mk v0 v1 v2 v3 v4, ⟨by rw [hcl]; kernel_rfl, (r0.at.app (r1.at.app (r2.at.app (r3.at.app r4.at))))⟩, q⟩
theorem Zwj (n : Nat) : RdN enc Try.prog W n 161 Zye := fun cs x hx => by
 obtain ⟨xs, m, rfl, rfl, hcl, hxl, hf⟩ := DataW.trod_struct Try.underlying161 hx
 obtain ⟨v0, r0, b0⟩ := rf (ZbM Try.underlying9) (hf 0 _ rfl) hxl
 obtain ⟨v1, r1, b1⟩ := rf (ZbU Try.underlying3) (hf 1 _ rfl) hxl
 obtain ⟨v2, r2, b2⟩ := rf (Zay Try.underlying40 (by kernel_rfl : Try.prog.cellsOf 153 = 8) (by decide) (fun _ => rfl) (fun k hk => (Zj5 k))) (hf 2 _ rfl) hxl
 have q := ZbZ (Zan b0 (Zan b1 (ZbT b2)))
 exact ⟨.mk v0 v1 v2, ⟨by rw [hcl]; kernel_rfl, (r0.at.app (r1.at.app r2.at))⟩, q⟩
theorem ZwJ (n : Nat) : RdN enc Try.prog W n 89 Zby := fun cs x hx => by
 obtain ⟨xs, m, rfl, rfl, hcl, hxl, hf⟩ := DataW.trod_struct Try.underlying89 hx
 obtain ⟨v0, r0, b0⟩ := rf (ZbM Try.underlying9) (hf 0 _ rfl) hxl
 obtain ⟨v1, r1, b1⟩ := rf (ZkR Try.underlying4) (hf 1 _ rfl) hxl
 obtain ⟨v2, r2, b2⟩ := rf (Zay Try.underlying87 (by kernel_rfl : Try.prog.cellsOf 161 = 3) (by decide) (fun _ => rfl) (fun k hk => (Zwj k))) (hf 2 _ rfl) hxl
 obtain ⟨v3, r3, b3⟩ := rf (Zay Try.underlying39 (by kernel_rfl : Try.prog.cellsOf 151 = 2) (by decide) (fun _ => rfl) (fun k hk => (ZpI k))) (hf 3 _ rfl) hxl
 obtain ⟨v4, r4, b4⟩ := rf (Zay Try.underlying40 (by kernel_rfl : Try.prog.cellsOf 153 = 8) (by decide) (fun _ => rfl) (fun k hk => (Zj5 k))) (hf 4 _ rfl) hxl
 have q := ZbZ (Zan b0 (Zan b1 (Zan b2 (Zan b3 (ZbT b4)))))
 exact ⟨.mk v0 v1 v2 v3 v4, ⟨by rw [hcl]; kernel_rfl, (r0.at.app (r1.at.app (r2.at.app (r3.at.app r4.at))))⟩, q⟩
theorem ZvJ (n : Nat) : RdN enc Try.prog W n 164 Zyt := fun cs x hx => by
 obtain ⟨xs, m, rfl, rfl, hcl, hxl, hf⟩ := DataW.trod_struct Try.underlying164 hx
 obtain ⟨v0, r0, b0⟩ := rf (ZbM Try.underlying9) (hf 0 _ rfl) hxl
 obtain ⟨v1, r1, b1⟩ := rf (ZbM Try.underlying9) (hf 1 _ rfl) hxl
 obtain ⟨v2, r2, b2⟩ := rf (ZbM Try.underlying9) (hf 2 _ rfl) hxl
 obtain ⟨v3, r3, b3⟩ := rf (ZbU Try.underlying3) (hf 3 _ rfl) hxl
 obtain ⟨v4, r4, b4⟩ := rf (Zay Try.underlying40 (by kernel_rfl : Try.prog.cellsOf 153 = 8) (by decide) (fun _ => rfl) (fun k hk => (Zj5 k))) (hf 4 _ rfl) hxl
 have q := ZbZ (Zan b0 (Zan b1 (Zan b2 (Zan b3 (ZbT b4)))))
 exact ⟨.mk v0 v1 v2 v3 v4, ⟨by rw [hcl]; kernel_rfl, (r0.at.app (r1.at.app (r2.at.app (r3.at.app r4.at))))⟩, q⟩
theorem Zs5 (n : Nat) : RdN enc Try.prog W n 149 ZbP := fun cs x hx => by
 obtain ⟨xs, m, rfl, rfl, hcl, hxl, hf⟩ := DataW.trod_struct Try.underlying149 hx
 obtain ⟨v0, r0, b0⟩ := rf (ZbM Try.underlying9) (hf 0 _ rfl) hxl
 obtain ⟨v1, r1, b1⟩ := rf (Zay Try.underlying147 (by kernel_rfl : Try.prog.cellsOf 164 = 5) (by decide) (fun _ => rfl) (fun k hk => (ZvJ k))) (hf 1 _ rfl) hxl
 obtain ⟨v2, r2, b2⟩ := rf (Zay Try.underlying40 (by kernel_rfl : Try.prog.cellsOf 153 = 8) (by decide) (fun _ => rfl) (fun k hk => (Zj5 k))) (hf 2 _ rfl) hxl
 have q := ZbZ (Zan b0 (Zan b1 (ZbT b2)))
 exact ⟨.mk v0 v1 v2, ⟨by rw [hcl]; kernel_rfl, (r0.at.app (r1.at.app r2.at))⟩, q⟩
theorem Zum (n : Nat) : RdN enc Try.prog W n 26 ZbR := fun cs x hx => by
 obtain ⟨xs, m, rfl, rfl, hcl, hxl, hf⟩ := DataW.trod_struct Try.underlying26 hx
 obtain ⟨v0, r0, b0⟩ := rf (Zay Try.underlying22 (by kernel_rfl : Try.prog.cellsOf 42 = 5) (by decide) (fun _ => rfl) (fun k hk => (Zv2 k))) (hf 0 _ rfl) hxl
 obtain ⟨v1, r1, b1⟩ := rf (Zay Try.underlying23 (by kernel_rfl : Try.prog.cellsOf 89 = 5) (by decide) (fun _ => rfl) (fun k hk => (ZwJ k))) (hf 1 _ rfl) hxl
 obtain ⟨v2, r2, b2⟩ := rf (Zay Try.underlying24 (by kernel_rfl : Try.prog.cellsOf 149 = 3) (by decide) (fun _ => rfl) (fun k hk => (Zs5 k))) (hf 2 _ rfl) hxl
 have q := ZbZ (Zan b0 (Zan b1 (ZbT b2)))
 exact ⟨.mk v0 v1 v2, ⟨by rw [hcl]; kernel_rfl, (r0.at.app (r1.at.app r2.at))⟩, q⟩
end
end Go.Proofs.Ythhipejbnbochaa
namespace Go.Eng
set_option linter.all false
open Go Go.RowKit
section
variable {σ ξ ρ α β γ : Type}
def Zj8 (g : β → α → β ⊕ ρ) : β → List α → β ⊕ ρ
 | b, [] => .inl b
 | b, x :: l => match g b x with
  | .inl b' => Zj8 g b' l
  | .inr r => .inr r
theorem Zdu {B : σ → Option (Lv σ ξ ρ)} {N : Nat} (l : List α) (mk : Nat → β → σ) (I : Nat → β → Prop) (g : β → α → β ⊕ ρ) (e : β → ξ)
  (hs : ∀ i b x, l[i]? = some x → I i b → B (mk i b) = some (Sum.elim (fun b' => Lv.nx (mk (i + 1) b')) Lv.rt (g b x)) ∧ ∀ b', g b x = .inl b' → I (i + 1) b')
  (he : ∀ b, I l.length b → B (mk l.length b) = some (.ex (e b))) (b0 : β) (h0 : I 0 b0) (hN : l.length < N) : Zao B N (mk 0 b0) = some (Sum.map e id (Zj8 g b0 l)) := by
 suffices H : ∀ k i b N, i + k = l.length → I i b → k < N → Zao B N (mk i b) = some (Sum.map e id (Zj8 g b (l.drop i))) by
  have := H l.length 0 b0 N (by omega) h0 hN
  simpa using this
 intro k
 induction k with
 | zero =>
  intro i b N hi hI hN
  obtain ⟨N, rfl⟩ : ∃ m, N = m + 1 := ⟨N - 1, by omega⟩
  have : i = l.length := by omega
  subst this
  rw [Zao, he b hI, Ybi]
  rfl
 | succ k ih =>
  intro i b N hi hI hN
  obtain ⟨N, rfl⟩ : ∃ m, N = m + 1 := ⟨N - 1, by omega⟩
  have hlt : i < l.length := by omega
  obtain ⟨h1, h2⟩ := hs i b l[i] (Yc hlt) hI
  rw [Zao, h1, Y8 hlt, Zj8]
  cases hg : g b l[i] with
  | inl b' => exact ih (i + 1) b' N (by omega) (h2 b' hg) (by omega)
  | inr r => rfl
theorem ZeC {B : Nat → Option (Lv Nat ξ ρ)} {N : Nat} (l : List α) (p : α → Bool) (f : Nat → ρ) (e : ξ)
  (hs : ∀ i x, l[i]? = some x → B i = some (if p x = true then .rt (f i) else .nx (i + 1))) (he : B l.length = some (.ex e)) (hN : l.length < N) :
  Zao B N 0 = some (match l.findIdx? p with | some i => .inr (f i) | none => .inl e) := by
 suffices H : ∀ k i N, i + k = l.length → k < N → Zao B N i = some (match (l.drop i).findIdx? p with | some j => .inr (f (i + j)) | none => .inl e) by
  have := H l.length 0 N (by omega) hN
  simpa using this
 intro k
 induction k with
 | zero =>
  intro i N hi hN
  obtain ⟨N, rfl⟩ : ∃ m, N = m + 1 := ⟨N - 1, by omega⟩
  have : i = l.length := by omega
  subst this
  rw [Zao, he, Ybi]
  rfl
 | succ k ih =>
  intro i N hi hN
  obtain ⟨N, rfl⟩ : ∃ m, N = m + 1 := ⟨N - 1, by omega⟩
  have hlt : i < l.length := by omega
  rw [Zao, hs i l[i] (Yc hlt), Y8 hlt, Ya7]
  cases hp : p l[i] with
  | true => simp
  | false =>
   simp only [YaE, if_false]
   rw [ih (i + 1) N (by omega) (by omega)]
   cases (List.drop (i + 1) l).findIdx? p with
   | none => rfl
   | some j => simp [Yw, Ybe 1 j]
theorem ZcM {g : β → α → β ⊕ ρ} (h : β → α → β) (hg : ∀ b x, g b x = .inl (h b x)) : ∀ (l : List α) (b : β), Zj8 g b l = .inl (l.foldl h b)
 | [], b => rfl
 | x :: l, b => by rw [Zj8, hg]; exact ZcM h hg l _
def Zfs (R : List α → α → Option ρ) : List α → List α → Option ρ
 | _, [] => none
 | p, x :: l => match R p x with
  | some r => some r
  | none => Zfs R (p ++ [x]) l
theorem ZnK {B : σ → Option (Lv σ ξ ρ)} {N : Nat} (l : List α) (S : List α → β) (R : List α → α → Option ρ) (mk : Nat → β → σ) (e : β → ξ)
  (hs : ∀ i x, l[i]? = some x → B (mk i (S (l.take i))) = some (match R (l.take i) x with | some r => .rt r | none => .nx (mk (i + 1) (S (l.take i ++ [x])))))
  (he : B (mk l.length (S l)) = some (.ex (e (S l)))) (hN : l.length < N) : Zao B N (mk 0 (S [])) = some ((Zfs R [] l).elim (.inl (e (S l))) .inr) := by
 suffices H : ∀ k i N, i + k = l.length → k < N → Zao B N (mk i (S (l.take i))) = some ((Zfs R (l.take i) (l.drop i)).elim (.inl (e (S l))) .inr) by
  have := H l.length 0 N (by omega) hN
  grind
 intro k
 induction k with
 | zero =>
  intro i N hi hN
  obtain ⟨N, rfl⟩ : ∃ m, N = m + 1 := ⟨N - 1, by omega⟩
  have : i = l.length := by omega
  subst this
  rw [Zao, YaQ, he, Ybi]
  rfl
 | succ k ih =>
  intro i N hi hN
  obtain ⟨N, rfl⟩ : ∃ m, N = m + 1 := ⟨N - 1, by omega⟩
  have hlt : i < l.length := by omega
  rw [Zao, hs i l[i] (Yc hlt), Y8 hlt, Zfs]
  cases R (l.take i) l[i] with
  | some r => rfl
  | none =>
   have := ih (i + 1) N (by omega) (by omega)
   rw [YW hlt] at this
   exact this
theorem Zeo {R : List α → α → Option ρ} (h : ∀ p x, R p x = none) : ∀ (l p : List α), Zfs R p l = none
 | [], p => rfl
 | x :: l, p => by rw [Zfs, h]; exact Zeo h l _
theorem Zds {B : σ → Option (Lv σ ξ ρ)} {N : Nat} (l : List α) (S : List α → β) (mk : Nat → β → σ) (e : β → ξ)
  (hs : ∀ i x, l[i]? = some x → B (mk i (S (l.take i))) = some (.nx (mk (i + 1) (S (l.take i ++ [x])))))
  (he : B (mk l.length (S l)) = some (.ex (e (S l)))) (hN : l.length < N) : Zao B N (mk 0 (S [])) = some (.inl (e (S l))) := by
 rw [ZnK l S (fun _ _ => none) mk e hs he hN, Zeo fun _ _ => rfl]
 rfl
theorem ZbF {B : σ → Option (Lv σ ξ ρ)} (I : Nat → σ → Prop) (Q : ξ ⊕ ρ → Prop)
  (h : ∀ k v, I k v → ∃ o, B v = some o ∧ match o with | .nx v' => ∃ k', k' < k ∧ I k' v' | .ex b => Q (.inl b) | .rt y => Q (.inr y)) :
  ∀ N k v, k < N → I k v → ∃ o, Zao B N v = some o ∧ Q o
 | 0, k, v, hk, _ => absurd hk (Yan _)
 | N + 1, k, v, hk, hI => by
  obtain ⟨o, h1, h2⟩ := h k v hI
  rw [Zao, h1]
  cases o with
  | nx v' => obtain ⟨k', h3, h4⟩ := h2; exact ZbF I Q h N k' v' (by omega) h4
  | ex b => exact ⟨_, rfl, h2⟩
  | rt y => exact ⟨_, rfl, h2⟩
theorem Zdw {l : List α} {i : Nat} {x : α} (h : l[i]? = some x) : (i : Int) < (l.length : Int) := by
 grind
theorem Zba {n : Nat} (h : n < 4611686018427387904) : n < big := h
end
end Go.Eng
namespace Go.Eng
set_option linter.all false
open Go
section
variable {σ ξ ρ β γ : Type}
def Zgp (M : Option (List β)) (Q : β → Prop) : Prop := ∃ ys, M = some ys ∧ ys ≠ [] ∧ ∀ y ∈ ys, Q y
theorem Zgp.imp {M : Option (List β)} {Q R : β → Prop} (h : Zgp M Q) (k : ∀ y, Q y → R y) : Zgp M R := by
 obtain ⟨ys, a, b, c⟩ := h
 exact ⟨ys, a, b, fun y hy => k y (c y hy)⟩
theorem ZbD {y : β} {Q : β → Prop} (h : Q y) : Zgp (some [y]) Q := ⟨[y], rfl, by simp, fun z hz => by rw [YM.1 hz]; exact h⟩
theorem Zel {Q : β → Prop} : ∀ {l : List (Option (List β))}, l ≠ [] → (∀ x ∈ l, Zgp x Q) → Zgp (Ze2 l) Q
 | [], h, _ => absurd rfl h
 | x :: r, _, h => by
  obtain ⟨ys, rfl, b, c⟩ := h _ (Yu ..)
  by_cases hr : r = []
  ·subst hr
   exact ⟨ys ++ [], rfl, by simpa using b, fun y hy => c y (by simpa using hy)⟩
  ·obtain ⟨zs, a', b', c'⟩ := Zel hr fun x hx => h x (List.mem_cons_of_mem _ hx)
   refine ⟨ys ++ zs, by rw [Ze2, a'], by simp [b], fun y hy => ?_⟩
   rcases YH.1 hy with hy | hy
   ·exact c y hy
   ·exact c' y hy
theorem Zev {M : Option (List γ)} {k : γ → Option (List β)} {Q : γ → Prop} {R : β → Prop} (h : Zgp M Q) (hk : ∀ z, Q z → Zgp (k z) R) : Zgp (ZdA M k) R := by
 obtain ⟨ys, rfl, b, c⟩ := h
 show Zgp (Ze2 (ys.map k)) R
 refine Zel (by simpa using b) fun x hx => ?_
 obtain ⟨y, hy, rfl⟩ := Yr.1 hx
 exact hk y (c y hy)
theorem Zr6 {os : Nat} {V : Type} [Mv V] {xs : List (ByteArray × V)} {k0 : PT os (List β)} {k1 : ByteArray × V → List (ByteArray × V) → PT os (List β)} {Q : β → Prop}
  (h0 : xs = [] → Zgp k0.m Q) (h1 : ∀ i x, xs[i]? = some x → Zgp (k1 x (xs.eraseIdx i)).m Q) : Zgp (nxN xs k0 k1).m Q := by
 cases xs with
 | nil => exact h0 rfl
 | cons a r =>
  show Zgp (Ze2 _) Q
  refine Zel (by simp) fun x hx => ?_
  obtain ⟨i, hi, rfl⟩ := Yr.1 hx
  have hi := Y6.1 hi
  have e : (a :: r)[i]? = some ((a :: r)[i]) := Yc hi
  have e2 : (a :: r).getD i (⟨#[]⟩, Mv.z) = (a :: r)[i] := by rw [YE, e]; rfl
  rw [e2]
  exact h1 i _ e
theorem ZeZ {B : σ → Option (List (Lv σ ξ ρ))} (I : Nat → σ → Prop) (Q : ξ ⊕ ρ → Prop)
  (h : ∀ k v, I k v → Zgp (B v) fun o => match o with | .nx v' => ∃ k', k' < k ∧ I k' v' | .ex b => Q (.inl b) | .rt y => Q (.inr y)) :
  ∀ N k v, k < N → I k v → Zgp (Zda B N v) Q
 | 0, k, v, hk, _ => absurd hk (Yan _)
 | N + 1, k, v, hk, hI => by
  rw [Zda]
  refine Zev (h k v hI) fun o ho => ?_
  cases o with
  | nx v' => obtain ⟨k', h3, h4⟩ := ho; exact ZeZ I Q h N k' v' (by omega) h4
  | ex b => exact ZbD ho
  | rt y => exact ZbD ho
theorem Zlw [DecidableEq β] {M : Option (List β)} {y : β} (h : Zgp M fun z => z = y) : Zsj M = some y := by
 obtain ⟨ys, a, b, c⟩ := h
 exact Zp4 a b c
end
section
variable {V : Type}
def Zb8 (r : List (ByteArray × V)) : List ByteArray := r.map (·.1)
theorem Zd6 (x y : ByteArray) (v : V) : ∀ r : List (ByteArray × V), ZeG y (ZbW x v r) = if x = y then some v else ZeG y r
 | [] => by
  unfold ZbW ZeG
  by_cases h : x = y <;> simp [h, ZeG]
 | p :: r => by
  unfold ZbW
  by_cases h : p.1 = x
  ·rw [show decide (p.1 = x) = true from decide_eq_true h]
   show ZeG y ((x, v) :: r) = _
   unfold ZeG
   by_cases h2 : x = y
   ·simp [h2]
   ·simp [h2, show ¬ p.1 = y from fun h3 => h2 (h.symm.trans h3)]
  ·rw [show decide (p.1 = x) = false from decide_eq_false h]
   show ZeG y (p :: ZbW x v r) = _
   unfold ZeG
   rw [Zd6 x y v r]
   by_cases h2 : p.1 = y
   ·simp [h2, show ¬ x = y from fun h3 => h (h2.trans h3.symm)]
   ·simp [h2]
theorem ZfE (x : ByteArray) (v : V) : ∀ r : List (ByteArray × V), (x ∈ Zb8 r ∧ Zb8 (ZbW x v r) = Zb8 r) ∨ (x ∉ Zb8 r ∧ Zb8 (ZbW x v r) = Zb8 r ++ [x])
 | [] => .inr ⟨by simp [Zb8], rfl⟩
 | p :: r => by
  have ih := ZfE x v r
  unfold ZbW
  by_cases h : p.1 = x
  ·rw [show decide (p.1 = x) = true from decide_eq_true h]
   exact .inl ⟨by unfold Zb8; simp [h], by unfold Zb8; simp [h]⟩
  ·rw [show decide (p.1 = x) = false from decide_eq_false h]
   have h2 : ¬ x = p.1 := fun e => h e.symm
   show (x ∈ p.1 :: Zb8 r ∧ p.1 :: Zb8 (ZbW x v r) = p.1 :: Zb8 r) ∨ (x ∉ p.1 :: Zb8 r ∧ p.1 :: Zb8 (ZbW x v r) = p.1 :: Zb8 r ++ [x])
   rcases ih with ⟨h3, h4⟩ | ⟨h3, h4⟩
   ·exact .inl ⟨List.mem_cons_of_mem _ h3, by rw [h4]⟩
   ·exact .inr ⟨fun hm => (Yo.1 hm).elim h2 h3, by rw [h4]; rfl⟩
theorem ZpA (x : ByteArray) (v : V) {r : List (ByteArray × V)} (h : (Zb8 r).Nodup) : (Zb8 (ZbW x v r)).Nodup := by
 rcases ZfE x v r with ⟨_, e⟩ | ⟨hx, e⟩
 ·rw [e]; exact h
 ·rw [e, List.nodup_append]
  exact ⟨h, by simp, fun a ha b hb => by simp at hb; subst hb; exact fun e => hx (e ▸ ha)⟩
theorem Zmc (x : ByteArray) : ∀ r : List (ByteArray × V), x ∈ Zb8 r ↔ (ZeG x r).isSome = true
 | [] => by simp [Zb8, ZeG]
 | p :: r => by
  have ih := Zmc x r
  unfold ZeG
  by_cases h : p.1 = x
  ·simp [Zb8, h]
  ·have h2 : ¬ x = p.1 := fun e => h e.symm
   simp only [h, decide_false, Zb8, YP, Yo, h2, false_or]
   exact ih
theorem ZsP (x : ByteArray) (v : V) (r : List (ByteArray × V)) : (ZbW x v r).length ≤ r.length + 1 := by
 have e : ∀ r : List (ByteArray × V), r.length = (Zb8 r).length := fun r => (Ym _).symm
 rw [e, e r]
 rcases ZfE x v r with ⟨_, e⟩ | ⟨_, e⟩ <;> rw [e] <;> simp
end
def Zo4 (s : Scm) (n : ByteArray) : Option Msg := s.messages.find? fun m => decide (m.name = n)
def isM (s : Scm) (n : ByteArray) : Bool := (Zo4 s n).isSome
def isE (s : Scm) (n : ByteArray) : Bool := s.enums.any fun e => decide (e.name = n)
def Zgr (s : Scm) (n : ByteArray) : List Fld := ((Zo4 s n).map Msg.fields).getD []
def toF (s : Scm) (f : Fld) : Bool := isM s f.type.name && decide (f.type.kind = 10)
def ldF (s : Scm) (f : Fld) : Bool := toF s f || (decide (f.type.kind = 9) && isE s f.type.name)
def Zbg (s : Scm) (n : ByteArray) : List ByteArray := ((Zgr s n).filter (toF s)).map fun f => f.type.name
def Zbw (s : Scm) (n : ByteArray) : List ByteArray := ((Zgr s n).filter (ldF s)).map fun f => f.type.name
structure Fw (s : Scm) : Prop where
 m : s.messages.length ≤ 8
 e : s.enums.length ≤ 8
 f : ∀ m ∈ s.messages, m.fields.length ≤ 10
theorem Fw.fl {s : Scm} (h : Fw s) (n : ByteArray) : (Zgr s n).length ≤ 10 := by
 unfold Zgr
 cases hm : Zo4 s n with
 | none => simp
 | some m => exact h.f m (List.mem_of_find?_eq_some hm)
theorem Fw.nl {s : Scm} (h : Fw s) (n : ByteArray) : (Zbg s n).length ≤ 10 := by
 unfold Zbg
 rw [Ym]
 exact YS (Y1 _ _) (h.fl n)
theorem Fw.ul {s : Scm} (h : Fw s) (n : ByteArray) : (Zbw s n).length ≤ 10 := by
 unfold Zbw
 rw [Ym]
 exact YS (Y1 _ _) (h.fl n)
theorem Zia {s : Scm} {n x : ByteArray} (h : x ∈ Zbg s n) : isM s x = true := by
 unfold Zbg at h
 obtain ⟨f, hf, rfl⟩ := Yr.1 h
 have := (YC.1 hf).2
 unfold toF at this
 exact (YaY.1 this).1
def nmM (s : Scm) : List ByteArray := s.messages.map Msg.name
theorem ZcA {s : Scm} {n : ByteArray} : isM s n = true ↔ n ∈ nmM s := by
 unfold isM Zo4 nmM
 rw [List.find?_isSome]
 simp [Yr]
theorem Zq3 {s : Scm} {n : ByteArray} : isE s n = true ↔ n ∈ s.enums.map Enm.name := by
 unfold isE
 simp [YK, Yr]
structure WOk (s : Scm) (w : Web) : Prop where
 m : ∀ n, ZeG n w.messages = Zo4 s n
 e : ∀ n, lkM n w.enums = isE s n
 nd : (Zb8 w.messages).Nodup
 l : w.messages.length ≤ s.messages.length
theorem WOk.im {s : Scm} {w : Web} (h : WOk s w) (n : ByteArray) : inM n w.messages = isM s n := by unfold inM isM; rw [h.m]
theorem WOk.fl {s : Scm} {w : Web} (h : WOk s w) (n : ByteArray) : (lkM n w.messages).fields = Zgr s n := by
 unfold lkM Zgr
 rw [h.m]
 cases Zo4 s n <;> rfl
theorem WOk.key {s : Scm} {w : Web} (h : WOk s w) (n : ByteArray) : n ∈ Zb8 w.messages ↔ isM s n = true := by rw [Zmc, h.m]; rfl
end Go.Eng
namespace Go.Proofs.Ythhipejbnbochaa
set_option linter.all false
open Go Go.Eng
def wvM (l : List Msg) : List (ByteArray × Msg) := l.foldl (fun r m => if inM m.name r = true then r else ZbW m.name m r) []
def wvE (l : List Enm) : List (ByteArray × Bool) := l.foldl (fun r e => ZbW e.name true r) []
theorem ZiD (l : List Msg) (m : Msg) : wvM (l ++ [m]) = if inM m.name (wvM l) = true then wvM l else ZbW m.name m (wvM l) := by unfold wvM; rw [List.foldl_append]; rfl
theorem ZiW (l : List Enm) (e : Enm) : wvE (l ++ [e]) = ZbW e.name true (wvE l) := by unfold wvE; rw [List.foldl_append]; rfl
theorem Zle {α : Type} {P : List α → Prop} (h0 : P []) (h1 : ∀ l x, P l → P (l ++ [x])) (l : List α) : P l := by
 have : ∀ l : List α, P l.reverse := fun l => by
  induction l with
  | nil => exact h0
  | cons x l ih => rw [List.reverse_cons]; exact h1 _ _ ih
 simpa using this l.reverse
theorem Zt4 (l : List Msg) : (∀ n, ZeG n (wvM l) = l.find? fun m => decide (m.name = n)) ∧ (Zb8 (wvM l)).Nodup ∧ (wvM l).length ≤ l.length := by
 refine Zle (P := fun l => (∀ n, ZeG n (wvM l) = l.find? fun m => decide (m.name = n)) ∧ (Zb8 (wvM l)).Nodup ∧ (wvM l).length ≤ l.length) ⟨fun n => rfl, by simp [wvM, Zb8], Yg _⟩ (fun l m ⟨a, b, c⟩ => ?_) l
 rw [ZiD]
 split
 ·rename_i h
  refine ⟨fun n => ?_, b, by simp; omega⟩
  rw [a, List.find?_append]
  cases hf : l.find? fun m => decide (m.name = n) with
  | some x => rfl
  | none =>
   have : ¬ m.name = n := fun e => by
    subst e
    unfold inM at h
    rw [a, hf] at h
    cases h
   simp [this]
 ·rename_i h
  refine ⟨fun n => ?_, ZpA _ _ b, YS (ZsP ..) (by simp; omega)⟩
  rw [Zd6, List.find?_append, a]
  by_cases e : m.name = n
  ·subst e
   have : l.find? (fun x => decide (x.name = m.name)) = none := by
    unfold inM at h
    rw [a] at h
    simpa using h
   simp [this]
  ·simp only [e, if_false]
   cases l.find? fun m => decide (m.name = n) <;> simp [e]
theorem Zvh (l : List Enm) (n : ByteArray) : lkM n (wvE l) = l.any fun e => decide (e.name = n) := by
 refine Zle (P := fun l => lkM n (wvE l) = l.any fun e => decide (e.name = n)) rfl (fun l e ih => ?_) l
 rw [ZiW, List.any_append, ← ih]
 unfold lkM
 rw [Zd6]
 by_cases h : e.name = n <;> simp [h]
def Zxy (s : Scm) : Web := ⟨wvM s.messages, wvE s.enums⟩
theorem ZkA (s : Scm) : WOk s (Zxy s) := by
 obtain ⟨a, b, c⟩ := Zt4 s.messages
 exact ⟨a, Zvh s.enums, b, c⟩
theorem m32 {s : Scm} (h : Fw s) : Zcp s = some (Zxy s) := by
 have hm := h.m
 have he := h.e
 have q1 : Zao (Zkb s) big (0, []) = some (.inl (wvM s.messages)) := by
  have := Zds (B := Zkb s) (N := big) s.messages wvM (fun i b => (i, b)) id (hN := Zba (by omega)) (he := by simp [Zkb, ZnG, br, ix, vw, vs, ln, lxe, wa, mlk, mpu]) (hs := fun i x hx => by
   have g1 := Zdw hx
   have g0 := (Yd.1 hx).1
   have g2 : i + 1 < 9223372036854775808 := by omega
   dsimp only [Zkb, ZnG, br, ix, vw, vs, ln, lxe, wa, mlk, mpu]
   simp only [g1, g2, hx, decide_true, if_true, Option.bind_some, ZiD]
   cases inM x.name (wvM (s.messages.take i)) <;> simp)
  exact this
 have q2 : Zao (ZjL s (wvM s.messages)) big (0, []) = some (.inl (wvE s.enums)) := by
  have := Zds (B := ZjL s (wvM s.messages)) (N := big) s.enums wvE (fun i b => (i, b)) id (hN := Zba (by omega)) (he := by simp [ZjL, Znc, br, ix, vw, vs, ln, lxe, wa, mpu]) (hs := fun i x hx => by
   have g1 := Zdw hx
   have g0 := (Yd.1 hx).1
   have g2 : i + 1 < 9223372036854775808 := by omega
   dsimp only [ZjL, Znc, br, ix, vw, vs, ln, lxe, wa, mpu]
   simp only [g1, g2, hx, decide_true, if_true, Option.bind_some, ZiW])
  exact this
 dsimp only [Zcp, Zr4, Zrr, ZqI, Zp5, vz, vw, lr, lc, eqL]
 rw [q1]
 simp only [Option.bind_some, Sum.elim_inl, q2]
 rfl
section
variable {s : Scm} {w : Web} (hw : WOk s w) (h : Fw s)
include hw
theorem m62 (f : Fld) : Zb2 w f = some (toF s f) := by
 dsimp only [Zb2, ZrI, vw, lr, mlk]
 rw [hw.im]
 rfl
theorem m66 (f : Fld) : Zbn w f = some (ldF s f) := by
 dsimp only [Zbn, Zrh, vw, lr, cl, mlg]
 simp only [m62 hw, Option.bind_some, hw.e]
 rfl
include h
theorem m56 (n : ByteArray) : ZaS w n = some (Zbg s n) := by
 have hl := h.fl n
 have e := hw.fl n
 have q1 : Zao (Zkg w (lkM n w.messages)) big ([], 0) = some (.inl (Zbg s n)) := by
  have := Zds (B := Zkg w (lkM n w.messages)) (N := big) (Zgr s n) (fun p => (p.filter (toF s)).map fun f => f.type.name) (fun i b => (b, i)) id (hN := Zba (by omega)) (he := by simp [Zkg, Zn5, br, ix, vz, vw, vs, ln, lxe, ap, cl, wa, fl, e]) (hs := fun i x hx => by
   have g1 := Zdw hx
   have g0 := (Yd.1 hx).1
   have g2 : i + 1 < 9223372036854775808 := by omega
   have g3 : ((((Zgr s n).take i).filter (toF s)).map fun f => f.type.name).length < 549755813887 := by
    rw [Ym]
    have := Y1 (toF s) ((Zgr s n).take i)
    rw [YX] at this
    omega
   dsimp only [Zkg, Zn5, br, ix, vz, vw, vs, ln, lxe, ap, cl, wa, fl]
   simp only [e, g1, g2, g3, hx, m62 hw, decide_true, if_true, Option.bind_some, List.filter_append, YaC]
   cases hb : toF s x <;> simp [Ybj, hb])
  exact this
 dsimp only [ZaS, ZrG, ZqO, ZqH, Zsy, vz, vw, lr, lc, mv, mlk, fl, eqL]
 rw [q1]
 rfl
theorem m50 (n : ByteArray) : ZbA w n = some (Zcm (Zbw s n)) := by
 have hl := h.fl n
 have e := hw.fl n
 have q1 : Zao (Zj4 w (lkM n w.messages)) big ([], 0) = some (.inl (Zbw s n)) := by
  have := Zds (B := Zj4 w (lkM n w.messages)) (N := big) (Zgr s n) (fun p => (p.filter (ldF s)).map fun f => f.type.name) (fun i b => (b, i)) id (hN := Zba (by omega)) (he := by simp [Zj4, Znr, br, ix, vz, vw, vs, ln, lxe, ap, cl, wa, fl, e]) (hs := fun i x hx => by
   have g1 := Zdw hx
   have g0 := (Yd.1 hx).1
   have g2 : i + 1 < 9223372036854775808 := by omega
   have g3 : ((((Zgr s n).take i).filter (ldF s)).map fun f => f.type.name).length < 549755813887 := by
    rw [Ym]
    have := Y1 (ldF s) ((Zgr s n).take i)
    rw [YX] at this
    omega
   dsimp only [Zj4, Znr, br, ix, vz, vw, vs, ln, lxe, ap, cl, wa, fl]
   simp only [e, g1, g2, g3, hx, m66 hw, decide_true, if_true, Option.bind_some, List.filter_append, YaC]
   cases hb : ldF s x <;> simp [Ybj, hb])
  exact this
 have hu := h.ul n
 have hs : (Zem (Zbw s n)).length = (Zbw s n).length := (Zcb _).length_eq
 dsimp only [ZbA, Zsx, Zq9, Zqq, Zql, Zr0, ZqD, Zsw, Zrc, vz, vw, lr, lc, rn, mlk, fl, fr, eqL]
 rw [q1]
 simp only [Option.bind_some, Sum.elim_inl]
 unfold Za8 ZaQ
 rw [if_pos (by omega)]
 simp only [Option.bind_some, hs, if_true]
 rw [if_pos (by omega)]
 rfl
end
theorem m29 {s : Scm} (h : Fw s) (n : ByteArray) : ZcE s n = some (Zcm (Zbw s n)) := by
 dsimp only [ZcE, ZqX, vw, lr, cl]
 simp only [m32 h, Option.bind_some, m50 (ZkA s) h]
theorem ZdO {l r : List ByteArray} (h : l.Nodup) (hs : ∀ x ∈ l, x ∈ r) : l.length ≤ r.length := List.Nodup.length_le_of_subset h hs
theorem Zfr {α : Type} : ∀ {l : List α} {i : Nat} {x : α}, l[i]? = some x → (x :: l.eraseIdx i).Perm l
 | a :: l, 0, x, h => by simp at h; subst h; exact .refl _
 | a :: l, i + 1, x, h => by
  simp at h
  exact (List.Perm.swap ..).trans ((Zfr h).cons a)
inductive Rch (s : Scm) (a : ByteArray) : ByteArray → Prop
 | one {b : ByteArray} : b ∈ Zbg s a → Rch s a b
 | tl {b c : ByteArray} : Rch s a b → c ∈ Zbg s b → Rch s a c
theorem Rch.isM {s : Scm} {a b : ByteArray} (h : Rch s a b) : isM s b = true := by
 cases h with
 | one h => exact Zia h
 | tl _ h => exact Zia h
theorem Rch.trans {s : Scm} {a b c : ByteArray} (h : Rch s a b) (k : Rch s b c) : Rch s a c := by
 induction k with
 | one k => exact .tl h k
 | tl _ k ih => exact .tl ih k
theorem Rch.hd {s : Scm} {a b c : ByteArray} (h : b ∈ Zbg s a) (k : Rch s b c) : Rch s a c := (Rch.one h).trans k
structure ROk (s : Scm) (n : ByteArray) (r : List (ByteArray × Bool)) : Prop where
 i : ∀ x, lkM x r = true ↔ Rch s n x
 k : ∀ x, x ∈ Zb8 r ↔ lkM x r = true
 nd : (Zb8 r).Nodup
 l : r.length ≤ 8
structure RInv (s : Scm) (n : ByteArray) (todo : List ByteArray) (r : List (ByteArray × Bool)) : Prop where
 t : ∀ x ∈ todo, Rch s n x
 o : ∀ x, lkM x r = true → Rch s n x
 c0 : ∀ x ∈ Zbg s n, x ∈ todo ∨ lkM x r = true
 c : ∀ y, lkM y r = true → ∀ x ∈ Zbg s y, x ∈ todo ∨ lkM x r = true
 k : ∀ x, x ∈ Zb8 r ↔ lkM x r = true
 nd : (Zb8 r).Nodup
theorem Zfu (x y : ByteArray) (r : List (ByteArray × Bool)) : lkM y (ZbW x true r) = true ↔ x = y ∨ lkM y r = true := by
 unfold lkM
 rw [Zd6]
 by_cases h : x = y <;> simp [h]
def Zox (s : Scm) (r : List (ByteArray × Bool)) : Nat := ((nmM s).filter fun x => !lkM x r).length
theorem Zoe {s : Scm} {x : ByteArray} {r : List (ByteArray × Bool)} (h : isM s x = true) (hx : lkM x r = false) : Zox s (ZbW x true r) < Zox s r := by
 unfold Zox
 have hm := ZcA.1 h
 have e : ((nmM s).filter fun y => !lkM y (ZbW x true r)) = ((nmM s).filter fun y => !lkM y r).filter fun y => decide (y ≠ x) := by
  rw [List.filter_filter]
  refine List.filter_congr fun y _ => ?_
  have := Zfu x y r
  by_cases e : x = y
  ·subst e
   simp [this.2 (.inl rfl)]
  ·have e2 : ¬ y = x := fun q => e q.symm
   cases hy : lkM y r with
   | true => simp [this.2 (.inr hy)]
   | false =>
    have : lkM y (ZbW x true r) = false := by
     cases hq : lkM y (ZbW x true r) with
     | false => rfl
     | true => rcases this.1 hq with q | q; exact absurd q e; rw [hy] at q; cases q
    simp [this, e2]
 rw [e]
 refine Nat.lt_of_le_of_ne (Y1 _ _) fun q => ?_
 rw [List.length_filter_eq_length_iff] at q
 have := q x (YC.2 ⟨hm, by rw [hx]; rfl⟩)
 simp at this
section
variable {s : Scm} {w : Web} (hw : WOk s w) (h : Fw s)
include hw h
theorem m34 (n : ByteArray) : ∃ r, Zbm w n = some r ∧ ROk s n r := by
 have hl8 : (nmM s).length ≤ 8 := by unfold nmM; rw [Ym]; exact h.m
 have q1 := ZbF (B := Zkf w) (I := fun k v => Zox s v.2 * 11 + v.1.length = k ∧ k ≤ 98 ∧ RInv s n v.1 v.2) (Q := fun o => Sum.elim (fun r => ROk s n r) (fun _ => False) o) (fun k v hI => by
  obtain ⟨r2, r3⟩ := v
  obtain ⟨h1, h2, hI⟩ := hI
  simp only at h1 hI
  cases r2 with
  | nil =>
   refine ⟨.ex r3, by simp [Zkf, ZmE, Zkw, ZmA, Zlq, Zl1, Zlg, ZkZ, Zld, br, vz, vw, vs, ln, lxe, lc, ar, ir, ca, sR, rb, mlk, mpu, fl, eqN, Bd.c, Bd.vl], ?_⟩
   have hi : ∀ x, lkM x r3 = true ↔ Rch s n x := fun x => ⟨hI.o x, fun hr => by
    induction hr with
    | one hx => exact (hI.c0 _ hx).resolve_left (by simp)
    | tl _ hx ih => exact (hI.c _ ih _ hx).resolve_left (by simp)⟩
   refine ⟨hi, hI.k, hI.nd, ?_⟩
   have := ZdO hI.nd (r := nmM s) fun x hx => ZcA.1 ((hi x).1 ((hI.k x).1 hx)).isM
   simp only [Zb8, Ym] at this
   omega
  | cons x r2 =>
   simp only [Y4] at h1
   have hx := hI.t x (Yu ..)
   have g0 : (0 : Int) < ((r2.length + 1 : Nat) : Int) := by omega
   have hnl := h.nl x
   cases hk : lkM x r3 with
   | true =>
    refine ⟨.nx (r2, r3), by dsimp only [Zkf, ZmE, Zkw, ZmA, Zlq, Zl1, Zlg, ZkZ, Zld, br, vz, vw, vs, ln, lxe, lc, ar, ir, ca, sR, rb, mlk, mpu, fl, eqN, Bd.c, Bd.vl]; simp [hk] <;> omega, Zox s r3 * 11 + r2.length, by omega, rfl, by omega, ⟨fun y hy => hI.t y (List.mem_cons_of_mem _ hy), hI.o, fun y hy => ?_, fun z hz y hy => ?_, hI.k, hI.nd⟩⟩
    ·rcases hI.c0 y hy with q | q
     ·rcases Yo.1 q with rfl | q
      ·exact .inr hk
      ·exact .inl q
     ·exact .inr q
    ·rcases hI.c z hz y hy with q | q
     ·rcases Yo.1 q with rfl | q
      ·exact .inr hk
      ·exact .inl q
     ·exact .inr q
   | false =>
    have hp := Zoe (s := s) (x := x) (r := r3) hx.isM hk
    refine ⟨.nx (r2 ++ Zbg s x, ZbW x true r3), by dsimp only [Zkf, ZmE, Zkw, ZmA, Zlq, Zl1, Zlg, ZkZ, Zld, br, vz, vw, vs, ln, lxe, lc, ar, ir, ca, sR, rb, mlk, mpu, fl, eqN, Bd.c, Bd.vl]; simp [hk, m56 hw h] <;> omega, Zox s (ZbW x true r3) * 11 + (r2 ++ Zbg s x).length, by rw [List.length_append]; omega, rfl, by rw [List.length_append]; omega, ⟨fun y hy => ?_, fun y hy => ?_, fun y hy => ?_, fun z hz y hy => ?_, fun y => ?_, ZpA _ _ hI.nd⟩⟩
    ·rcases YH.1 hy with q | q
     ·exact hI.t y (List.mem_cons_of_mem _ q)
     ·exact .tl hx q
    ·rcases (Zfu x y r3).1 hy with rfl | q
     ·exact hx
     ·exact hI.o y q
    ·rw [Zfu]
     rcases hI.c0 y hy with q | q
     ·rcases Yo.1 q with rfl | q
      ·exact .inr (.inl rfl)
      ·exact .inl (YO _ q)
     ·exact .inr (.inr q)
    ·rw [Zfu]
     rcases (Zfu x z r3).1 hz with rfl | hz
     ·exact .inl (Yae _ hy)
     ·rcases hI.c z hz y hy with q | q
      ·rcases Yo.1 q with rfl | q
       ·exact .inr (.inl rfl)
       ·exact .inl (YO _ q)
      ·exact .inr (.inr q)
    ·rw [Zfu, ← hI.k y]
     rcases ZfE x true r3 with ⟨a, e⟩ | ⟨a, e⟩
     ·rw [e]
      exact ⟨.inr, fun q => q.elim (fun q => q ▸ a) id⟩
     ·rw [e, YH, YM]
      exact ⟨fun q => q.elim .inr fun q => .inl q.symm, fun q => q.elim (fun q => .inr q.symm) .inl⟩) big (Zox s [] * 11 + (Zbg s n).length) (Zbg s n, []) (Zba (by
   have h1 : Zox s [] ≤ (nmM s).length := Y1 _ _
   have := h.nl n
   omega)) ⟨rfl, by
   have h1 : Zox s [] ≤ (nmM s).length := Y1 _ _
   have := h.nl n
   omega, ⟨fun x hx => .one hx, fun x hx => by simp [lkM, ZeG, Mv.z] at hx, fun x hx => .inl hx, fun y hy => by simp [lkM, ZeG, Mv.z] at hy, fun x => by simp [Zb8, lkM, ZeG, Mv.z], by simp [Zb8]⟩⟩
 obtain ⟨o, e, hq⟩ := q1
 cases o with
 | inr _ => exact hq.elim
 | inl r =>
  refine ⟨r, ?_, hq⟩
  dsimp only [Zbm, Zl6, Zlj, Zlh, Zp8, vz, vw, lr, lc, fl]
  simp only [m56 hw h, Option.bind_some, e, Sum.elim_inl]
end
theorem ZfJ {α : Type} (p : α → Bool) : ∀ l : List α, l.find? p = (l.findIdx? p).bind fun i => l[i]?
 | [] => rfl
 | x :: l => by
  rw [List.find?_cons, Ya7]
  cases h : p x with
  | true => simp
  | false =>
   rw [ZfJ p l]
   cases List.findIdx? p l <;> simp
theorem Zf7 {α : Type} {p : α → Bool} : ∀ {l : List α}, (l.findIdx? p).isSome = l.any p
 | [] => rfl
 | x :: l => by
  rw [Ya7, List.any_cons, ← Zf7 (l := l)]
  cases p x <;> simp
def ixM (s : Scm) (n : ByteArray) : Option Nat := s.messages.findIdx? fun m => decide (m.name = n)
def ixE (s : Scm) (n : ByteArray) : Option Nat := s.enums.findIdx? fun m => decide (m.name = n)
def zM : Msg := ⟨⟨#[]⟩, [], [], [], []⟩
def zE : Enm := ⟨⟨#[]⟩, false, [], [], []⟩
def ZmY (s : Scm) (n : ByteArray) : Msg × Int := (ixM s n).elim (zM, -1) fun i => (s.messages.getD i zM, (i : Int))
def ZsU (s : Scm) (n : ByteArray) : Enm × Int := (ixE s n).elim (zE, -1) fun i => (s.enums.getD i zE, (i : Int))
theorem Zl2 (s : Scm) (n : ByteArray) : Zo4 s n = (ixM s n).bind fun i => s.messages[i]? := ZfJ _ _
theorem ZpK {s : Scm} {n : ByteArray} {i : Nat} (h : ixM s n = some i) : i < s.messages.length := by
 unfold ixM at h
 rw [YaL] at h
 exact h.1
theorem ZnR (s : Scm) (n : ByteArray) : (ixM s n).isSome = isM s n := by
 unfold isM
 rw [Zl2]
 cases h : ixM s n with
 | none => rfl
 | some i => simp [Yc (ZpK h)]
theorem Zo0 (s : Scm) (n : ByteArray) : (ZmY s n).1.fields = Zgr s n := by
 unfold ZmY Zgr
 rw [Zl2]
 cases h : ixM s n with
 | none => rfl
 | some i => simp [Yc (ZpK h), YE]
theorem ZkL (s : Scm) (n : ByteArray) : decide (0 ≤ (ZmY s n).2) = isM s n := by
 rw [← ZnR]
 unfold ZmY
 cases ixM s n with
 | none => rfl
 | some i => simp
theorem Zth (s : Scm) (n : ByteArray) : decide ((ZmY s n).2 < 0) = !isM s n := by
 rw [← ZkL]
 by_cases h : (ZmY s n).2 < 0
 ·rw [decide_eq_true h, decide_eq_false (by omega)]; rfl
 ·rw [decide_eq_false h, decide_eq_true (by omega)]; rfl
theorem Zlk (s : Scm) (n : ByteArray) : decide (0 ≤ (ZsU s n).2) = isE s n := by
 have e : (ixE s n).isSome = isE s n := Zf7
 rw [← e]
 unfold ZsU
 cases ixE s n with
 | none => rfl
 | some i => simp
theorem ZtY (s : Scm) (n : ByteArray) : decide ((ZsU s n).2 < 0) = !isE s n := by
 rw [← Zlk]
 by_cases h : (ZsU s n).2 < 0
 ·rw [decide_eq_true h, decide_eq_false (by omega)]; rfl
 ·rw [decide_eq_false h, decide_eq_true (by omega)]; rfl
theorem m18 {s : Scm} (h : Fw s) (n : ByteArray) : ZaG s n = some (ZmY s n) := by
 have hm := h.m
 have q1 := ZeC (B := ZmI s n) (N := big) s.messages (fun m => decide (m.name = n)) (fun i => (s.messages.getD i zM, (i : Int))) () (fun i x hx => by
  have g1 := Zdw hx
  have g0 := (Yd.1 hx).1
  have g2 : i + 1 < 9223372036854775808 := by omega
  dsimp only [ZmI, ZoM, br, ix, vz, vw, vs, lrt, ln, lxe, wa, eqL]
  simp only [g1, g2, hx, decide_true, if_true, Option.bind_some, YE, Y9]
  cases decide (x.name = n) <;> simp) (by simp [ZmI, ZoM, br, ix, vz, vw, vs, lrt, ln, lxe, wa, eqL]) (Zba (by omega))
 dsimp only [ZaG, Zrp, Zrm, Zqy, vw, lr, lc]
 rw [q1]
 unfold ZmY ixM
 cases s.messages.findIdx? fun m => decide (m.name = n) <;> rfl
theorem m46 {s : Scm} (h : Fw s) (n : ByteArray) : ZaY s n = some (ZsU s n) := by
 have hm := h.e
 have q1 := ZeC (B := ZlS s n) (N := big) s.enums (fun m => decide (m.name = n)) (fun i => (s.enums.getD i zE, (i : Int))) () (fun i x hx => by
  have g1 := Zdw hx
  have g0 := (Yd.1 hx).1
  have g2 : i + 1 < 9223372036854775808 := by omega
  dsimp only [ZlS, Zoj, br, ix, vz, vw, vs, lrt, ln, lxe, wa, eqL]
  simp only [g1, g2, hx, decide_true, if_true, Option.bind_some, YE, Y9]
  cases decide (x.name = n) <;> simp) (by simp [ZlS, Zoj, br, ix, vz, vw, vs, lrt, ln, lxe, wa, eqL]) (Zba (by omega))
 dsimp only [ZaY, ZqN, Zp2, Zsn, vw, lr, lc]
 rw [q1]
 unfold ZsU ixE
 cases s.enums.findIdx? fun m => decide (m.name = n) <;> rfl
def Zic (l : List ByteArray) (x : ByteArray) : Bool := l.any fun y => decide (y = x)
theorem Zdq {l : List ByteArray} {x : ByteArray} : Zic l x = true ↔ x ∈ l := by
 unfold Zic
 simp [YK]
theorem m27 {l : List ByteArray} (h : l.length < 4611686018427387904) (x : ByteArray) : Za4 l x = some (Zic l x) := by
 have q1 := ZeC (B := ZlW l x) (N := big) l (fun y => decide (y = x)) (fun i => true) () (fun i y hy => by
  have g1 := Zdw hy
  have g0 := (Yd.1 hy).1
  have g2 : i + 1 < 9223372036854775808 := by omega
  dsimp only [ZlW, Znt, br, ix, vz, vs, lrt, ln, lxe, wa, eqL]
  simp only [g1, g2, hy, decide_true, if_true, Option.bind_some]
  cases decide (y = x) <;> simp) (by simp [ZlW, Znt, br, ix, vz, vs, lrt, ln, lxe, wa, eqL]) (Zba h)
 dsimp only [Za4, Zqc, Zp7, Zsg, lr, lc]
 rw [q1]
 unfold Zic
 rw [← Zf7]
 cases l.findIdx? fun y => decide (y = x) <;> rfl
def Zbu (l : List ByteArray) (x : ByteArray) : List ByteArray := if Zic l x = true then l else (l.takeWhile (fun y => sLt y x) ++ [x]) ++ l.drop (l.takeWhile fun y => sLt y x).length
theorem ZhS {α : Type} (p : α → Bool) (l : List α) : l.drop (l.takeWhile p).length = l.dropWhile p := by
 conv => lhs; arg 2; rw [← Yag (p := p) (l := l)]
 rw [List.drop_left]
theorem Zg3 (l : List ByteArray) (x : ByteArray) : (Zbu l x).length ≤ l.length + 1 := by
 unfold Zbu
 split
 ·omega
 ·rw [ZhS, List.length_append, List.length_append]
  have := congrArg List.length (Yag (p := fun y => sLt y x) (l := l))
  rw [List.length_append] at this
  simp
  omega
theorem ZlL (l : List ByteArray) (x y : ByteArray) : y ∈ Zbu l x ↔ y = x ∨ y ∈ l := by
 unfold Zbu
 split
 ·rename_i h
  exact ⟨.inr, fun h2 => h2.elim (fun e => e ▸ Zdq.1 h) id⟩
 ·rw [ZhS]
  have h2 : y ∈ l ↔ y ∈ l.takeWhile (fun y => sLt y x) ∨ y ∈ l.dropWhile (fun y => sLt y x) := by
   conv => lhs; rw [← Yag (p := fun y => sLt y x) (l := l)]
   exact YH
  rw [YH, YH, YM, h2]
  constructor
  ·rintro ((h | h) | h)
   ·exact .inr (.inl h)
   ·exact .inl h
   ·exact .inr (.inr h)
  ·rintro (h | h | h)
   ·exact .inl (.inr h)
   ·exact .inl (.inl h)
   ·exact .inr h
theorem ZpP {p : ByteArray → Bool} {x : ByteArray} : ∀ {l : List ByteArray}, x ∈ l.takeWhile p → p x = true
 | [], h => by cases h
 | y :: l, h => by
  rw [Ya0] at h
  split at h
  ·rename_i hy
   rcases Yo.1 h with rfl | h
   ·exact hy
   ·exact ZpP h
  ·cases h
theorem ZkS {l : List ByteArray} (h : Asc l) (x : ByteArray) : Asc (Zbu l x) := by
 unfold Zbu
 split
 ·exact h
 ·rename_i hx
  have hs : x ∉ l := fun q => hx (Zdq.2 q)
  rw [ZhS, Y7]
  have e := Yag (p := fun y => sLt y x) (l := l)
  have h' := h
  rw [← e] at h'
  obtain ⟨h1, h2, h3⟩ := List.pairwise_append.1 h'
  have t2 : ∀ y ∈ l.dropWhile (fun y => sLt y x), sLt x y = true := fun y hy => by
   cases hd : l.dropWhile (fun y => sLt y x) with
   | nil => rw [hd] at hy; cases hy
   | cons b r =>
    have hb : sLt b x = false := by
     have := List.head?_dropWhile_not (fun y => sLt y x) l
     rw [hd] at this
     simpa using this
    have hbl : b ∈ l := by
     rw [← e, hd]
     exact Yae _ (Yu ..)
    have hsb : sLt x b = true := Zqh hb fun e => hs (e ▸ hbl)
    rw [hd] at hy h2
    rcases Yo.1 hy with rfl | hy
    ·exact hsb
    ·exact ZpJ hsb (List.rel_of_pairwise_cons h2 hy)
  refine List.pairwise_append.2 ⟨h1, Yaw.2 ⟨t2, h2⟩, fun a ha b hb => ?_⟩
  rcases Yo.1 hb with rfl | hb
  ·exact ZpP (p := fun y => sLt y b) ha
  ·exact h3 a ha b hb
theorem ZhP {α : Type} {p : α → Bool} : ∀ {l : List α} {i : Nat}, (∀ y ∈ l.take i, p y = true) → (∀ y, l[i]? = some y → p y = false) → l.takeWhile p = l.take i
 | [], i, _, _ => by simp
 | x :: l, 0, _, h => by rw [Ya0, h x rfl]; rfl
 | x :: l, i + 1, h1, h2 => by
  rw [Ya0, h1 x (by simp), List.take_succ_cons]
  simp only [if_true]
  rw [ZhP (i := i) (fun y hy => h1 y (by simp [hy])) (fun y hy => h2 y (by simpa using hy))]
theorem m53 {l : List ByteArray} (h : l.length ≤ 1000000) (x : ByteArray) : ZaZ l x = some (Zbu l x) := by
 have q1 := ZbF (B := ZjG l x) (I := fun k v => k + v.2 = l.length ∧ v.1 = l.take v.2 ∧ ∀ y ∈ v.1, sLt y x = true) (Q := fun o => o = .inl (l.takeWhile fun y => sLt y x)) (fun k v hI => by
  obtain ⟨r, i⟩ := v
  obtain ⟨h1, h2, h3⟩ := hI
  simp only at h1 h2 h3
  subst h2
  have hl : (l.take i).length = i := by rw [YX]; omega
  cases hk : l[i]? with
  | none =>
   have hge := Y2.1 hk
   refine ⟨.ex (l.take i), by dsimp only [ZjG, Zls, br, ix, ixg, vz, vw, vs, ln, lxe, ap, wa, fl, eqL]; simp [show ¬ (i : Int) < (l.length : Int) by omega], ?_⟩
   rw [ZhP h3 (fun y hy => by rw [hk] at hy; cases hy)]
  | some y =>
   have g1 := Zdw hk
   obtain ⟨g0, rfl⟩ := Yd.1 hk
   have g2 : i + 1 < 9223372036854775808 := by omega
   have e : l.getD i (Rw.z) = l[i] := by rw [YE, hk]; rfl
   cases hy : sLt l[i] x with
   | false =>
    refine ⟨.ex (l.take i), by dsimp only [ZjG, Zls, br, ix, ixg, vz, vw, vs, ln, lxe, ap, wa, fl, eqL]; simp [g1, g0, e, hy], ?_⟩
    rw [ZhP h3 (fun z hz => by rw [hk] at hz; cases hz; exact hy)]
   | true =>
    refine ⟨.nx (l.take i ++ [l[i]], i + 1), by dsimp only [ZjG, Zls, br, ix, ixg, vz, vw, vs, ln, lxe, ap, wa, fl, eqL]; simp [g1, g0, g2, e, hy, hk, hl]; omega, k - 1, by omega, by simp only; omega, ?_, fun z hz => ?_⟩
    ·simp only
     rw [YW g0]
    ·rcases YH.1 hz with q | q
     ·exact h3 z q
     ·rw [YM.1 q]; exact hy) big l.length ([], 0) (Zba (by omega)) ⟨rfl, by simp, fun y hy => by cases hy⟩
 obtain ⟨o, e, rfl⟩ := q1
 have hlt : (l.takeWhile fun y => sLt y x).length ≤ l.length := (List.takeWhile_sublist _).length_le
 dsimp only [ZaZ, ZqB, Zsa, Zqa, Zrf, Zqm, br, vz, vw, lr, lc, ap, aq, cl, sL, fl, fr, eqN, Bd.c, Bd.vl]
 simp only [m27 (l := l) (by omega), Option.bind_some, e, Sum.elim_inl]
 unfold Zbu
 cases Zic l x with
 | true => rfl
 | false =>
  simp [hlt]
  exact ⟨by omega, by omega, Yal (by rw [Yak]; exact Yg _)⟩
theorem Zf6 (l a : List ByteArray) : (l.foldl Zbu a).length ≤ a.length + l.length := by
 induction l generalizing a with
 | nil => exact Yg _
 | cons x l ih => rw [Yah]; have := ih (Zbu a x); have := Zg3 a x; simp; omega
theorem ZiL (l a : List ByteArray) (y : ByteArray) : y ∈ l.foldl Zbu a ↔ y ∈ l ∨ y ∈ a := by
 induction l generalizing a with
 | nil => simp
 | cons x l ih => rw [Yah, ih, ZlL, Yo, or_assoc, or_left_comm]
theorem ZiI {l a : List ByteArray} (h : Asc a) : Asc (l.foldl Zbu a) := by
 induction l generalizing a with
 | nil => exact h
 | cons x l ih => rw [Yah]; exact ih (ZkS h x)
theorem Zdt (l : List ByteArray) : l.foldl Zbu [] = Zcm l := (Zkq (ZiI .nil) fun x => by rw [ZiL]; simp).symm
theorem Zcs (l : List ByteArray) : (Zcm l).length ≤ l.length := by rw [← Zdt]; have := Zf6 l []; simpa using this
theorem Zci {α ρ : Type} {B : List ByteArray × Nat → Option (Lv (List ByteArray × Nat) (List ByteArray) ρ)} (l : List α) (c : α → Option ByteArray) (a : List ByteArray) (ha : a.length + l.length ≤ 1000000)
  (hs : ∀ (i : Nat) b x, l[i]? = some x → b.length ≤ 1000000 → i + 1 < 9223372036854775808 → (i : Int) < (l.length : Int) → B (b, i) = some (.nx ((c x).elim b (Zbu b), i + 1))) (he : ∀ b, B (b, l.length) = some (.ex b)) : Zao B big (a, 0) = some (.inl ((l.filterMap c).foldl Zbu a)) := by
 have := Zdu (B := B) (N := big) l (fun i b => (b, i)) (fun i b => b.length ≤ a.length + i) (fun b x => (.inl ((c x).elim b (Zbu b)) : List ByteArray ⊕ ρ)) id (fun i b x hx hI => by
  have hlt := (Yd.1 hx).1
  refine ⟨hs i b x hx (by omega) (by omega) (Zdw hx), fun b' e => ?_⟩
  cases e
  cases c x with
  | none => simp; omega
  | some y => have := Zg3 b y; simp; omega) (fun b _ => he b) a (by omega) (Zba (by omega))
 rw [this, ZcM (fun b x => (c x).elim b (Zbu b)) (fun _ _ => rfl)]
 congr 2
 clear this hs he ha
 show _ = _
 induction l generalizing a with
 | nil => rfl
 | cons x l ih =>
  rw [Yah, ih, List.filterMap_cons]
  cases c x <;> rfl
end Go.Proofs.Ythhipejbnbochaa
