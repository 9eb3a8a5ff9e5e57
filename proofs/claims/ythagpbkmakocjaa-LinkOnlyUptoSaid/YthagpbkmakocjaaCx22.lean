import Derived.Test.YthagpbkmakocjaaCx21
import Derived.Test.YthagpbkmakocjaaCx13
import Derived.Test.YthagpbkmakocjaaCx15
namespace Go.Proofs.Ythagpbkmakocjaa
set_option linter.all false
open Go Go.Eng
section
variable {H : Type} {enc : TypeId × Value → H} {W : World}
set_option maxRecDepth 100000
theorem ZBA (n : Nat) : RdN enc Try.prog W n 218 Zu1 := fun cs x hx => by
 obtain ⟨xs, m, rfl, rfl, hcl, hxl, hf⟩ := DataW.trod_struct Try.underlying218 hx
 obtain ⟨v0, r0, b0⟩ := rf (Zcm Try.underlying3) (hf 0 _ rfl) hxl
 obtain ⟨v1, r1, b1⟩ := rf (Zcm Try.underlying3) (hf 1 _ rfl) hxl
 obtain ⟨v2, r2, b2⟩ := rf (Zcm Try.underlying45) (hf 2 _ rfl) hxl
 obtain ⟨v3, r3, b3⟩ := rf (Zcc Try.underlying9) (hf 3 _ rfl) hxl
 have q := Zcp (ZaA b0 (ZaA b1 (ZaA b2 (Zcn b3))))
 exact ⟨.mk v0 v1 v2 v3, ⟨by rw [hcl]; kernel_rfl, (r0.at.app (r1.at.app (r2.at.app r3.at)))⟩, q⟩
theorem Zse (n : Nat) (h : ∀ k, k < n → RdN enc Try.prog W k 51 Zwx) : RdN enc Try.prog W n 214 ePr := fun cs x hx => by
 obtain ⟨xs, m, rfl, rfl, hcl, hxl, hf⟩ := DataW.trod_struct Try.underlying214 hx
 obtain ⟨v0, r0, b0⟩ := rf (h m (by omega)) (hf 0 _ rfl) hxl
 obtain ⟨v1, r1, b1⟩ := rf (h m (by omega)) (hf 1 _ rfl) hxl
 have q := Zcp (ZaA b0 (Zcn b1))
 exact ⟨.mk v0 v1, ⟨by rw [hcl]; kernel_rfl, (r0.at.app r1.at)⟩, q⟩
theorem Zn5 (n : Nat) (h : ∀ k, k < n → RdN enc Try.prog W k 51 Zwx) : RdN enc Try.prog W n 216 ZHo := fun cs x hx => by
 obtain ⟨xs, m, rfl, rfl, hcl, hxl, hf⟩ := DataW.trod_struct Try.underlying216 hx
 obtain ⟨v0, r0, b0⟩ := rf (Zcm Try.underlying3) (hf 0 _ rfl) hxl
 obtain ⟨v1, r1, b1⟩ := rf (h m (by omega)) (hf 1 _ rfl) hxl
 have q := Zcp (ZaA b0 (Zcn b1))
 exact ⟨.mk v0 v1, ⟨by rw [hcl]; kernel_rfl, (r0.at.app r1.at)⟩, q⟩
theorem ZvW (n : Nat) : RdN enc Try.prog W n 51 Zwx := by
 induction n using Nat.strongRecOn with
 | ind n ih =>
 intro cs x hx
 obtain ⟨xs, m, rfl, rfl, hcl, hxl, hf⟩ := DataW.trod_struct Try.underlying51 hx
 obtain ⟨v0, r0, b0⟩ := rf (Zcm Try.underlying3) (hf 0 _ rfl) hxl
 obtain ⟨v1, r1, b1⟩ := rf (Zcm Try.underlying45) (hf 1 _ rfl) hxl
 obtain ⟨v2, r2, b2⟩ := rf (Zcc Try.underlying9) (hf 2 _ rfl) hxl
 obtain ⟨v3, r3, b3⟩ := rf (ZaN Try.underlying46 (by kernel_rfl : Try.prog.cellsOf 51 = 7) (by decide) (fun x => by rw [Zhd]; rfl) (fun k hk => (ZpS Zhd (ih k (by omega))))) (hf 3 _ rfl) hxl
 obtain ⟨v4, r4, b4⟩ := rf (ZaN Try.underlying47 (by kernel_rfl : Try.prog.cellsOf 214 = 14) (by decide) (fun x => by rw [Zvp]; rfl) (fun k hk => (ZpS Zvp (Zse k (fun j hj => ih j (by omega)))))) (hf 4 _ rfl) hxl
 obtain ⟨v5, r5, b5⟩ := rf (ZaN Try.underlying48 (by kernel_rfl : Try.prog.cellsOf 216 = 8) (by decide) (fun x => by rw [Zpt]; rfl) (fun k hk => (ZpS Zpt (Zn5 k (fun j hj => ih j (by omega)))))) (hf 5 _ rfl) hxl
 obtain ⟨v6, r6, b6⟩ := rf (ZaN Try.underlying49 (by kernel_rfl : Try.prog.cellsOf 218 = 4) (by decide) (fun _ => rfl) (fun k hk => (ZBA k))) (hf 6 _ rfl) hxl
 have q := Zcp (ZaA b0 (ZaA b1 (ZaA b2 (ZaA b3 (ZaA b4 (ZaA b5 (Zcn b6)))))))
 exact ⟨.mk v0 v1 v2 v3 v4 v5 v6, ⟨by rw [hcl]; kernel_rfl, (r0.at.app (r1.at.app (r2.at.app (r3.at.app (r4.at.app (r5.at.app r6.at))))))⟩, q⟩
theorem ZCU (n : Nat) : RdN enc Try.prog W n 44 ZKh := fun cs x hx => by
 obtain ⟨xs, m, rfl, rfl, hcl, hxl, hf⟩ := DataW.trod_struct Try.underlying44 hx
 obtain ⟨v0, r0, b0⟩ := rf (Zcm Try.underlying3) (hf 0 _ rfl) hxl
 obtain ⟨v1, r1, b1⟩ := rf (Zcc Try.underlying9) (hf 1 _ rfl) hxl
 have q := Zcp (ZaA b0 (Zcn b1))
 exact ⟨.mk v0 v1, ⟨by rw [hcl]; kernel_rfl, (r0.at.app r1.at)⟩, q⟩
theorem ZmZ (n : Nat) : RdN enc Try.prog W n 159 eNt := fun cs x hx => by
 obtain ⟨xs, m, rfl, rfl, hcl, hxl, hf⟩ := DataW.trod_struct Try.underlying159 hx
 obtain ⟨v0, r0, b0⟩ := rf (Zcc Try.underlying9) (hf 0 _ rfl) hxl
 obtain ⟨v1, r1, b1⟩ := rf (ZvW m) (hf 1 _ rfl) hxl
 have q := Zcp (ZaA b0 (Zcn b1))
 exact ⟨.mk v0 v1, ⟨by rw [hcl]; kernel_rfl, (r0.at.app r1.at)⟩, q⟩
theorem ZDX (n : Nat) : RdN enc Try.prog W n 53 Zc2 := fun cs x hx => by
 obtain ⟨xs, m, rfl, rfl, hcl, hxl, hf⟩ := DataW.trod_struct Try.underlying53 hx
 obtain ⟨v0, r0, b0⟩ := rf (Zcm Try.underlying3) (hf 0 _ rfl) hxl
 obtain ⟨v1, r1, b1⟩ := rf (Zcc Try.underlying9) (hf 1 _ rfl) hxl
 obtain ⟨v2, r2, b2⟩ := rf (Zcm Try.underlying3) (hf 2 _ rfl) hxl
 obtain ⟨v3, r3, b3⟩ := rf (Zcm Try.underlying3) (hf 3 _ rfl) hxl
 obtain ⟨v4, r4, b4⟩ := rf (ZCU m) (hf 4 _ rfl) hxl
 obtain ⟨v5, r5, b5⟩ := rf (Zcc Try.underlying9) (hf 5 _ rfl) hxl
 obtain ⟨v6, r6, b6⟩ := rf (Zph Try.underlying4) (hf 6 _ rfl) hxl
 obtain ⟨v7, r7, b7⟩ := rf (ZvW m) (hf 7 _ rfl) hxl
 obtain ⟨v8, r8, b8⟩ := rf (ZaN Try.underlying37 (by kernel_rfl : Try.prog.cellsOf 159 = 8) (by decide) (fun _ => rfl) (fun k hk => (ZmZ k))) (hf 8 _ rfl) hxl
 have q := Zcp (ZaA b0 (ZaA b1 (ZaA b2 (ZaA b3 (ZaA b4 (ZaA b5 (ZaA b6 (ZaA b7 (Zcn b8)))))))))
 exact ⟨.mk v0 v1 v2 v3 v4 v5 v6 v7 v8, ⟨by rw [hcl]; kernel_rfl, (r0.at.app (r1.at.app (r2.at.app (r3.at.app (r4.at.app (r5.at.app (r6.at.app (r7.at.app r8.at))))))))⟩, q⟩
theorem Zu0 (n : Nat) : RdN enc Try.prog W n 157 ZeI := fun cs x hx => by
 obtain ⟨xs, m, rfl, rfl, hcl, hxl, hf⟩ := DataW.trod_struct Try.underlying157 hx
 obtain ⟨v0, r0, b0⟩ := rf (Zcm Try.underlying3) (hf 0 _ rfl) hxl
 obtain ⟨v1, r1, b1⟩ := rf (Zcm Try.underlying3) (hf 1 _ rfl) hxl
 have q := Zcp (ZaA b0 (Zcn b1))
 exact ⟨.mk v0 v1, ⟨by rw [hcl]; kernel_rfl, (r0.at.app r1.at)⟩, q⟩
theorem ZC1 (n : Nat) : RdN enc Try.prog W n 39 Zak := fun cs x hx => by
 obtain ⟨xs, m, rfl, rfl, hcl, hxl, hf⟩ := DataW.trod_struct Try.underlying39 hx
 obtain ⟨v0, r0, b0⟩ := rf (Zcc Try.underlying9) (hf 0 _ rfl) hxl
 obtain ⟨v1, r1, b1⟩ := rf (ZaN Try.underlying35 (by kernel_rfl : Try.prog.cellsOf 53 = 16) (by decide) (fun _ => rfl) (fun k hk => (ZDX k))) (hf 1 _ rfl) hxl
 obtain ⟨v2, r2, b2⟩ := rf (ZaN Try.underlying36 (by kernel_rfl : Try.prog.cellsOf 157 = 2) (by decide) (fun _ => rfl) (fun k hk => (Zu0 k))) (hf 2 _ rfl) hxl
 obtain ⟨v3, r3, b3⟩ := rf (ZaN Try.underlying34 (by kernel_rfl : Try.prog.cellsOf 9 = 1) (by decide) (fun _ => rfl) (fun k hk => (Zcc Try.underlying9))) (hf 3 _ rfl) hxl
 obtain ⟨v4, r4, b4⟩ := rf (ZaN Try.underlying37 (by kernel_rfl : Try.prog.cellsOf 159 = 8) (by decide) (fun _ => rfl) (fun k hk => (ZmZ k))) (hf 4 _ rfl) hxl
 have q := Zcp (ZaA b0 (ZaA b1 (ZaA b2 (ZaA b3 (Zcn b4)))))
 exact ⟨.mk v0 v1 v2 v3 v4, ⟨by rw [hcl]; kernel_rfl, (r0.at.app (r1.at.app (r2.at.app (r3.at.app r4.at))))⟩, q⟩
theorem ZBp (n : Nat) : RdN enc Try.prog W n 127 ZmG := fun cs x hx => by
 obtain ⟨xs, m, rfl, rfl, hcl, hxl, hf⟩ := DataW.trod_struct Try.underlying127 hx
 obtain ⟨v0, r0, b0⟩ := rf (Zcc Try.underlying9) (hf 0 _ rfl) hxl
 obtain ⟨v1, r1, b1⟩ := rf (Zcm Try.underlying3) (hf 1 _ rfl) hxl
 obtain ⟨v2, r2, b2⟩ := rf (ZaN Try.underlying37 (by kernel_rfl : Try.prog.cellsOf 159 = 8) (by decide) (fun _ => rfl) (fun k hk => (ZmZ k))) (hf 2 _ rfl) hxl
 have q := Zcp (ZaA b0 (ZaA b1 (Zcn b2)))
 exact ⟨.mk v0 v1 v2, ⟨by rw [hcl]; kernel_rfl, (r0.at.app (r1.at.app r2.at))⟩, q⟩
theorem ZBI (n : Nat) : RdN enc Try.prog W n 42 Zag := fun cs x hx => by
 obtain ⟨xs, m, rfl, rfl, hcl, hxl, hf⟩ := DataW.trod_struct Try.underlying42 hx
 obtain ⟨v0, r0, b0⟩ := rf (Zcc Try.underlying9) (hf 0 _ rfl) hxl
 obtain ⟨v1, r1, b1⟩ := rf (Zph Try.underlying4) (hf 1 _ rfl) hxl
 obtain ⟨v2, r2, b2⟩ := rf (ZaN Try.underlying40 (by kernel_rfl : Try.prog.cellsOf 127 = 3) (by decide) (fun _ => rfl) (fun k hk => (ZBp k))) (hf 2 _ rfl) hxl
 obtain ⟨v3, r3, b3⟩ := rf (ZaN Try.underlying36 (by kernel_rfl : Try.prog.cellsOf 157 = 2) (by decide) (fun _ => rfl) (fun k hk => (Zu0 k))) (hf 3 _ rfl) hxl
 obtain ⟨v4, r4, b4⟩ := rf (ZaN Try.underlying37 (by kernel_rfl : Try.prog.cellsOf 159 = 8) (by decide) (fun _ => rfl) (fun k hk => (ZmZ k))) (hf 4 _ rfl) hxl
 have q := Zcp (ZaA b0 (ZaA b1 (ZaA b2 (ZaA b3 (Zcn b4)))))
 exact ⟨.mk v0 v1 v2 v3 v4, ⟨by rw [hcl]; kernel_rfl, (r0.at.app (r1.at.app (r2.at.app (r3.at.app r4.at))))⟩, q⟩
theorem ZA2 (n : Nat) : RdN enc Try.prog W n 59 Zd4 := fun cs x hx => by
 obtain ⟨xs, m, rfl, rfl, hcl, hxl, hf⟩ := DataW.trod_struct Try.underlying59 hx
 obtain ⟨v0, r0, b0⟩ := rf (Zcc Try.underlying9) (hf 0 _ rfl) hxl
 obtain ⟨v1, r1, b1⟩ := rf (Zcc Try.underlying9) (hf 1 _ rfl) hxl
 obtain ⟨v2, r2, b2⟩ := rf (Zcc Try.underlying9) (hf 2 _ rfl) hxl
 obtain ⟨v3, r3, b3⟩ := rf (Zcm Try.underlying3) (hf 3 _ rfl) hxl
 obtain ⟨v4, r4, b4⟩ := rf (ZaN Try.underlying37 (by kernel_rfl : Try.prog.cellsOf 159 = 8) (by decide) (fun _ => rfl) (fun k hk => (ZmZ k))) (hf 4 _ rfl) hxl
 have q := Zcp (ZaA b0 (ZaA b1 (ZaA b2 (ZaA b3 (Zcn b4)))))
 exact ⟨.mk v0 v1 v2 v3 v4, ⟨by rw [hcl]; kernel_rfl, (r0.at.app (r1.at.app (r2.at.app (r3.at.app r4.at))))⟩, q⟩
theorem ZEi (n : Nat) : RdN enc Try.prog W n 57 Zal := fun cs x hx => by
 obtain ⟨xs, m, rfl, rfl, hcl, hxl, hf⟩ := DataW.trod_struct Try.underlying57 hx
 obtain ⟨v0, r0, b0⟩ := rf (Zcc Try.underlying9) (hf 0 _ rfl) hxl
 obtain ⟨v1, r1, b1⟩ := rf (ZaN Try.underlying55 (by kernel_rfl : Try.prog.cellsOf 59 = 5) (by decide) (fun _ => rfl) (fun k hk => (ZA2 k))) (hf 1 _ rfl) hxl
 obtain ⟨v2, r2, b2⟩ := rf (ZaN Try.underlying37 (by kernel_rfl : Try.prog.cellsOf 159 = 8) (by decide) (fun _ => rfl) (fun k hk => (ZmZ k))) (hf 2 _ rfl) hxl
 have q := Zcp (ZaA b0 (ZaA b1 (Zcn b2)))
 exact ⟨.mk v0 v1 v2, ⟨by rw [hcl]; kernel_rfl, (r0.at.app (r1.at.app r2.at))⟩, q⟩
theorem ZCt (n : Nat) : RdN enc Try.prog W n 27 ZeV := fun cs x hx => by
 obtain ⟨xs, m, rfl, rfl, hcl, hxl, hf⟩ := DataW.trod_struct Try.underlying27 hx
 obtain ⟨v0, r0, b0⟩ := rf (ZaN Try.underlying23 (by kernel_rfl : Try.prog.cellsOf 39 = 5) (by decide) (fun _ => rfl) (fun k hk => (ZC1 k))) (hf 0 _ rfl) hxl
 obtain ⟨v1, r1, b1⟩ := rf (ZaN Try.underlying24 (by kernel_rfl : Try.prog.cellsOf 42 = 5) (by decide) (fun _ => rfl) (fun k hk => (ZBI k))) (hf 1 _ rfl) hxl
 obtain ⟨v2, r2, b2⟩ := rf (ZaN Try.underlying25 (by kernel_rfl : Try.prog.cellsOf 57 = 3) (by decide) (fun _ => rfl) (fun k hk => (ZEi k))) (hf 2 _ rfl) hxl
 have q := Zcp (ZaA b0 (ZaA b1 (Zcn b2)))
 exact ⟨.mk v0 v1 v2, ⟨by rw [hcl]; kernel_rfl, (r0.at.app (r1.at.app r2.at))⟩, q⟩
end
end Go.Proofs.Ythagpbkmakocjaa
namespace Go.Eng
set_option linter.all false
open Go Go.RowKit
section
variable {σ ξ ρ α β γ : Type}
theorem ZcB {B : Nat → Option (Lv Nat ξ ρ)} {N : Nat} (l : List α) (p : α → Bool) (f : Nat → ρ) (e : ξ)
  (hs : ∀ i x, l[i]? = some x → B i = some (if p x = true then .rt (f i) else .nx (i + 1))) (he : B l.length = some (.ex e)) (hN : l.length < N) :
  Zaj B N 0 = some (match l.findIdx? p with | some i => .inr (f i) | none => .inl e) := by
 suffices H : ∀ k i N, i + k = l.length → k < N → Zaj B N i = some (match (l.drop i).findIdx? p with | some j => .inr (f (i + j)) | none => .inl e) by
  have := H l.length 0 N (by omega) hN
  simpa using this
 intro k
 induction k with
 | zero =>
  intro i N hi hN
  obtain ⟨N, rfl⟩ : ∃ m, N = m + 1 := ⟨N - 1, by omega⟩
  have : i = l.length := by omega
  subst this
  rw [Zaj, he, List.drop_length]
  rfl
 | succ k ih =>
  intro i N hi hN
  obtain ⟨N, rfl⟩ : ∃ m, N = m + 1 := ⟨N - 1, by omega⟩
  have hlt : i < l.length := by omega
  rw [Zaj, hs i l[i] (List.getElem?_eq_getElem hlt), List.drop_eq_getElem_cons hlt, List.findIdx?_cons]
  cases hp : p l[i] with
  | true => simp
  | false =>
   simp only [Bool.false_eq_true, if_false]
   rw [ih (i + 1) N (by omega) (by omega)]
   cases (List.drop (i + 1) l).findIdx? p with
   | none => rfl
   | some j => simp [Nat.add_assoc, Nat.add_comm 1 j]
def Zdu (R : List α → α → Option ρ) : List α → List α → Option ρ
 | _, [] => none
 | p, x :: l => match R p x with
  | some r => some r
  | none => Zdu R (p ++ [x]) l
theorem Zmb {B : σ → Option (Lv σ ξ ρ)} {N : Nat} (l : List α) (S : List α → β) (R : List α → α → Option ρ) (mk : Nat → β → σ) (e : β → ξ)
  (hs : ∀ i x, l[i]? = some x → B (mk i (S (l.take i))) = some (match R (l.take i) x with | some r => .rt r | none => .nx (mk (i + 1) (S (l.take i ++ [x])))))
  (he : B (mk l.length (S l)) = some (.ex (e (S l)))) (hN : l.length < N) : Zaj B N (mk 0 (S [])) = some ((Zdu R [] l).elim (.inl (e (S l))) .inr) := by
 suffices H : ∀ k i N, i + k = l.length → k < N → Zaj B N (mk i (S (l.take i))) = some ((Zdu R (l.take i) (l.drop i)).elim (.inl (e (S l))) .inr) by
  have := H l.length 0 N (by omega) hN
  simpa using this
 intro k
 induction k with
 | zero =>
  intro i N hi hN
  obtain ⟨N, rfl⟩ : ∃ m, N = m + 1 := ⟨N - 1, by omega⟩
  have : i = l.length := by omega
  subst this
  rw [Zaj, List.take_length, he, List.drop_length]
  rfl
 | succ k ih =>
  intro i N hi hN
  obtain ⟨N, rfl⟩ : ∃ m, N = m + 1 := ⟨N - 1, by omega⟩
  have hlt : i < l.length := by omega
  rw [Zaj, hs i l[i] (List.getElem?_eq_getElem hlt), List.drop_eq_getElem_cons hlt, Zdu]
  cases R (l.take i) l[i] with
  | some r => rfl
  | none =>
   have := ih (i + 1) N (by omega) (by omega)
   rw [List.take_succ_eq_append_getElem hlt] at this
   exact this
theorem Zfv {R : List α → α → Option ρ} (h : ∀ p x, R p x = none) : ∀ (l p : List α), Zdu R p l = none
 | [], p => rfl
 | x :: l, p => by rw [Zdu, h]; exact Zfv h l _
theorem Zav {B : σ → Option (Lv σ ξ ρ)} {N : Nat} (l : List α) (S : List α → β) (mk : Nat → β → σ) (e : β → ξ)
  (hs : ∀ i x, l[i]? = some x → B (mk i (S (l.take i))) = some (.nx (mk (i + 1) (S (l.take i ++ [x])))))
  (he : B (mk l.length (S l)) = some (.ex (e (S l)))) (hN : l.length < N) : Zaj B N (mk 0 (S [])) = some (.inl (e (S l))) := by
 rw [Zmb l S (fun _ _ => none) mk e hs he hN, Zfv fun _ _ => rfl]
 rfl
theorem ZhD {B : σ → Option (Lv σ ξ ρ)} (I : Nat → σ → Prop) (Q : ξ ⊕ ρ → Prop)
  (h : ∀ k v, I k v → ∃ o, B v = some o ∧ match o with | .nx v' => ∃ k', k' < k ∧ I k' v' | .ex b => Q (.inl b) | .rt y => Q (.inr y)) :
  ∀ N k v, k < N → I k v → ∃ o, Zaj B N v = some o ∧ Q o
 | 0, k, v, hk, _ => absurd hk (Nat.not_lt_zero _)
 | N + 1, k, v, hk, hI => by
  obtain ⟨o, h1, h2⟩ := h k v hI
  rw [Zaj, h1]
  cases o with
  | nx v' => obtain ⟨k', h3, h4⟩ := h2; exact ZhD I Q h N k' v' (by omega) h4
  | ex b => exact ⟨_, rfl, h2⟩
  | rt y => exact ⟨_, rfl, h2⟩
theorem Zcj {l : List α} {i : Nat} {x : α} (h : l[i]? = some x) : (i : Int) < (l.length : Int) := by
 have := (List.getElem?_eq_some_iff.1 h).1
 omega
theorem Zaz {n : Nat} (h : n < 4611686018427387904) : n < big := h
end
end Go.Eng
namespace Go.Proofs.Ythagpbkmakocjaa
set_option linter.all false
open Go Go.Eng
def Zba (r : List (ByteArray × Bool)) : List ByteArray := r.map (·.1)
theorem ZlI (x y : ByteArray) (v : Bool) : ∀ r : List (ByteArray × Bool), ZeM y (ZeY x v r) = if x = y then some v else ZeM y r
 | [] => by
  unfold ZeY ZeM
  by_cases h : x = y <;> simp [h, ZeM]
 | p :: r => by
  unfold ZeY
  by_cases h : p.1 = x
  ·rw [show decide (p.1 = x) = true from decide_eq_true h]
   show ZeM y ((x, v) :: r) = _
   unfold ZeM
   by_cases h2 : x = y
   ·simp [h2]
   ·simp [h2, show ¬ p.1 = y from fun h3 => h2 (h.symm.trans h3)]
  ·rw [show decide (p.1 = x) = false from decide_eq_false h]
   show ZeM y (p :: ZeY x v r) = _
   unfold ZeM
   rw [ZlI x y v r]
   by_cases h2 : p.1 = y
   ·simp [h2, show ¬ x = y from fun h3 => h (h2.trans h3.symm)]
   ·simp [h2]
theorem ZzG (x y : ByteArray) (r : List (ByteArray × Bool)) : lkM y (ZeY x true r) = (decide (x = y) || lkM y r) := by
 unfold lkM
 rw [ZlI]
 by_cases h : x = y <;> simp [h]
theorem ZlZ (x : ByteArray) (v : Bool) : ∀ r : List (ByteArray × Bool), (x ∈ Zba r ∧ Zba (ZeY x v r) = Zba r) ∨ (x ∉ Zba r ∧ Zba (ZeY x v r) = Zba r ++ [x])
 | [] => .inr ⟨by simp [Zba], rfl⟩
 | p :: r => by
  have ih := ZlZ x v r
  unfold ZeY
  by_cases h : p.1 = x
  ·rw [show decide (p.1 = x) = true from decide_eq_true h]
   exact .inl ⟨by unfold Zba; simp [h], by unfold Zba; simp [h]⟩
  ·rw [show decide (p.1 = x) = false from decide_eq_false h]
   have h2 : ¬ x = p.1 := fun e => h e.symm
   show (x ∈ p.1 :: Zba r ∧ p.1 :: Zba (ZeY x v r) = p.1 :: Zba r) ∨ (x ∉ p.1 :: Zba r ∧ p.1 :: Zba (ZeY x v r) = p.1 :: Zba r ++ [x])
   rcases ih with ⟨h3, h4⟩ | ⟨h3, h4⟩
   ·exact .inl ⟨List.mem_cons_of_mem _ h3, by rw [h4]⟩
   ·exact .inr ⟨fun hm => (List.mem_cons.1 hm).elim h2 h3, by rw [h4]; rfl⟩
theorem ZEX (x : ByteArray) (v : Bool) {r : List (ByteArray × Bool)} (h : (Zba r).Nodup) : (Zba (ZeY x v r)).Nodup := by
 rcases ZlZ x v r with ⟨_, e⟩ | ⟨hx, e⟩
 ·rw [e]; exact h
 ·rw [e, List.nodup_append]
  exact ⟨h, by simp, fun a ha b hb => by simp at hb; subst hb; exact fun e => hx (e ▸ ha)⟩
section
variable {α : Type} [DecidableEq α]
def ers (l : List α) (x : α) : List α := l.erase x
theorem Zvg (x : α) (l : List α) : ers (x :: l) x = l := by unfold ers; simp
theorem Zvn {x y : α} (h : y ≠ x) (l : List α) : ers (y :: l) x = y :: ers l x := by unfold ers; rw [List.erase_cons_tail (by simpa using h)]
theorem ZF3 {x : α} {l : List α} (h : l.Nodup) : (ers l x).Nodup := h.erase x
theorem Zy6 {x y : α} {l : List α} (h : l.Nodup) : y ∈ ers l x ↔ y ≠ x ∧ y ∈ l := h.mem_erase_iff
theorem Zot (f : α → Nat) {x : α} : ∀ {l : List α}, x ∈ l → ((ers l x).map f).sum + f x = (l.map f).sum
 | y :: l, h => by
  by_cases e : y = x
  ·subst e; rw [Zvg]; simp; omega
  ·rw [Zvn e]
   have := Zot f (List.mem_of_ne_of_mem (fun h2 => e h2.symm) h)
   simp only [List.map_cons, List.sum_cons]
   omega
theorem Zko : ∀ {l k : List α}, l.Nodup → (∀ x ∈ l, x ∈ k) → l.length ≤ k.length
 | [], _, _, _ => Nat.zero_le _
 | x :: l, k, hn, h => by
  obtain ⟨h1, h2⟩ := List.nodup_cons.1 hn
  have hx := h x (by simp)
  have := Zko (k := k.erase x) h2 fun y hy => (List.mem_erase_of_ne fun e : y = x => h1 (by rw [← e]; exact hy)).2 (h y (List.mem_cons_of_mem _ hy))
  rw [List.length_erase_of_mem hx] at this
  have : 0 < k.length := List.length_pos_of_mem hx
  rw [List.length_cons]
  omega
end
theorem Zfy {x : ByteArray} : ∀ {r : List (ByteArray × Bool)}, x ∉ Zba r → ZeM x r = none
 | [], _ => rfl
 | p :: r, h => by
  unfold ZeM
  have h1 : ¬ p.1 = x := fun e => h (by unfold Zba; simp [e])
  rw [show decide (p.1 = x) = false from decide_eq_false h1]
  exact Zfy fun hm => h (by unfold Zba at hm ⊢; simp only [List.map_cons, List.mem_cons]; exact .inr hm)
theorem ZDP {x : ByteArray} {r : List (ByteArray × Bool)} (h : lkM x r = true) : x ∈ Zba r := by
 refine Classical.byContradiction fun hx => ?_
 unfold lkM at h
 rw [Zfy hx] at h
 cases h
theorem ZeU (x : ByteArray) : ∀ r : List (ByteArray × Bool), Zba (ZeL x r) = ers (Zba r) x
 | [] => rfl
 | p :: r => by
  have ih := ZeU x r
  unfold ZeL
  by_cases h : p.1 = x
  ·rw [show decide (p.1 = x) = true from decide_eq_true h]
   show Zba r = ers (p.1 :: Zba r) x
   rw [h, Zvg]
  ·rw [show decide (p.1 = x) = false from decide_eq_false h]
   show p.1 :: Zba (ZeL x r) = ers (p.1 :: Zba r) x
   rw [ih, Zvn h]
theorem ZCP (x : ByteArray) {r : List (ByteArray × Bool)} (h : (Zba r).Nodup) : (Zba (ZeL x r)).Nodup := by
 rw [ZeU]; exact ZF3 h
theorem ZfG {x y : ByteArray} (hn : x ≠ y) : ∀ r : List (ByteArray × Bool), ZeM y (ZeL x r) = ZeM y r
 | [] => rfl
 | p :: r => by
  unfold ZeL
  by_cases h : p.1 = x
  ·rw [show decide (p.1 = x) = true from decide_eq_true h]
   show ZeM y r = ZeM y (p :: r)
   conv => rhs; unfold ZeM
   simp [show ¬ p.1 = y from fun e => hn (h.symm.trans e)]
  ·rw [show decide (p.1 = x) = false from decide_eq_false h]
   show ZeM y (p :: ZeL x r) = ZeM y (p :: r)
   unfold ZeM
   rw [ZfG hn r]
theorem Zyr {x y : ByteArray} {r : List (ByteArray × Bool)} (h : (Zba r).Nodup) : lkM y (ZeL x r) = (decide (x ≠ y) && lkM y r) := by
 by_cases e : x = y
 ·subst e
  have : x ∉ Zba (ZeL x r) := by rw [ZeU]; exact fun hm => ((Zy6 h).1 hm).1 rfl
  unfold lkM
  rw [Zfy this]
  simp [Mv.z]
 ·unfold lkM
  rw [ZfG e]
  simp [e]
def ZvK (f : ByteArray → Nat) (r : List (ByteArray × Bool)) : Nat := ((Zba r).map f).sum
theorem ZqJ (f : ByteArray → Nat) {x : ByteArray} {r : List (ByteArray × Bool)} (h : x ∈ Zba r) : ZvK f (ZeL x r) + f x = ZvK f r := by
 unfold ZvK
 rw [ZeU]
 exact Zot f h
def nmS (s : Scm) : List ByteArray := s.messages.map (·.name) ++ s.enums.map (·.name) ++ s.services.map (·.name)
def uF (x : ByteArray) (m : Msg) (d : Fld) : List ByteArray := if (decide (m.name = x) && (decide (d.type.kind = (10 : Int)) || decide (d.type.kind = (9 : Int)))) = true then [d.type.name] else []
def uM (x : ByteArray) (m : Msg) : List ByteArray := m.fields.flatMap (uF x m)
def uE (x : ByteArray) (v : Svc) (d : Mth) : List ByteArray := if decide (v.name = x) = true then [d.inn, d.out] else []
def uV (x : ByteArray) (v : Svc) : List ByteArray := v.methods.flatMap (uE x v)
def Zbz (s : Scm) (x : ByteArray) : List ByteArray := s.messages.flatMap (uM x) ++ s.services.flatMap (uV x)
theorem ZBi {x : ByteArray} {m : Msg} (h : m.name ≠ x) : uM x m = [] := by
 unfold uM
 rw [List.flatMap_eq_nil_iff]
 intro d _
 unfold uF
 simp [h]
theorem ZBa {x : ByteArray} {v : Svc} (h : v.name ≠ x) : uV x v = [] := by
 unfold uV
 rw [List.flatMap_eq_nil_iff]
 intro d _
 unfold uE
 simp [h]
theorem ZjR {α : Type} (g : α → List ByteArray) (c : Nat) (h : ∀ d, (g d).length ≤ c) : ∀ l : List α, (l.flatMap g).length ≤ c * l.length
 | [] => by simp
 | d :: l => by
  have := ZjR g c h l
  have := h d
  rw [List.flatMap_cons, List.length_append, List.length_cons, Nat.mul_succ]
  omega
theorem ZBL (x : ByteArray) (m : Msg) : (uM x m).length ≤ if m.name = x then m.fields.length else 0 := by
 split
 ·have := ZjR (uF x m) 1 (fun d => by unfold uF; split <;> simp) m.fields
  unfold uM
  omega
 ·rename_i h
  rw [ZBi h]
  simp
theorem ZFI (x : ByteArray) (v : Svc) : (uV x v).length ≤ if v.name = x then 2 * v.methods.length else 0 := by
 split
 ·exact ZjR (uE x v) 2 (fun d => by unfold uE; split <;> simp) v.methods
 ·rename_i h
  rw [ZBa h]
  simp
open Classical in
theorem Zvq {α : Type} (nm : α → ByteArray) (w : α → Nat) (g : ByteArray → α → List ByteArray) (h : ∀ x m, (g x m).length ≤ if nm m = x then w m else 0) (ms : List α) :
  ∀ ks : List ByteArray, ks.Nodup → (ks.map fun x => (ms.flatMap (g x)).length).sum ≤ (ms.map w).sum := by
 induction ms with
 | nil => intro ks hk; clear hk; exact Nat.le_of_eq (by induction ks with
  | nil => simp
  | cons k ks ih => simpa using ih)
 | cons m ms ih =>
  intro ks hk
  have h1 := ih ks hk
  have h2 : ∀ ks : List ByteArray, ks.Nodup → (ks.map fun x => ((m :: ms).flatMap (g x)).length).sum ≤ (ks.map fun x => (ms.flatMap (g x)).length).sum + (if nm m ∈ ks then w m else 0) := by
   intro ks
   induction ks with
   | nil => intro _; simp
   | cons k ks ih2 =>
    intro hk
    obtain ⟨n1, n2⟩ := List.nodup_cons.1 hk
    have := ih2 n2
    have h3 := h k m
    simp only [List.map_cons, List.sum_cons, List.flatMap_cons, List.length_append] at this ⊢
    by_cases e : nm m = k
    ·rw [if_pos e] at h3
     subst e
     rw [if_neg n1] at this
     rw [if_pos (by simp)]
     omega
    ·rw [if_neg e] at h3
     by_cases e2 : nm m ∈ ks
     ·rw [if_pos e2] at this
      rw [if_pos (by simp [e2])]
      omega
     ·rw [if_neg e2] at this
      rw [if_neg (by simp [e, e2])]
      omega
  have h3 := h2 ks hk
  rw [List.map_cons (f := w), List.sum_cons]
  split at h3 <;> omega
def ZAn (s : Scm) : Nat := (s.messages.map fun m => m.fields.length).sum + (s.services.map fun v => 2 * v.methods.length).sum
theorem Zlr (s : Scm) {ks : List ByteArray} (h : ks.Nodup) : (ks.map fun x => (Zbz s x).length).sum ≤ ZAn s := by
 have h1 := Zvq (fun m : Msg => m.name) (fun m => m.fields.length) uM ZBL s.messages ks h
 have h2 := Zvq (fun v : Svc => v.name) (fun v => 2 * v.methods.length) uV ZFI s.services ks h
 have h3 : ∀ ks : List ByteArray, (ks.map fun x => (Zbz s x).length).sum = (ks.map fun x => (s.messages.flatMap (uM x)).length).sum + (ks.map fun x => (s.services.flatMap (uV x)).length).sum := by
  intro ks
  induction ks with
  | nil => rfl
  | cons k ks ih =>
   simp only [List.map_cons, List.sum_cons, ih]
   unfold Zbz
   rw [List.length_append]
   omega
 rw [h3]
 unfold ZAn
 omega
theorem Zdb (s : Scm) (x : ByteArray) : (Zbz s x).length ≤ ZAn s := by
 have := Zlr s (ks := [x]) (by simp)
 simpa using this
inductive Cl (s : Scm) (ns : List ByteArray) : ByteArray → Prop
 | base {x : ByteArray} : x ∈ ns → Cl s ns x
 | step {x y : ByteArray} : Cl s ns x → y ∈ Zbz s x → y ∈ nmS s → Cl s ns y
theorem Cl.nm {s : Scm} {ns : List ByteArray} (h : ∀ x ∈ ns, x ∈ nmS s) {x : ByteArray} (hc : Cl s ns x) : x ∈ nmS s := by
 cases hc with
 | base hx => exact h _ hx
 | step _ _ hy => exact hy
def ZeS (s : Scm) (p : ByteArray → Bool) : Scm := ⟨s.messages.filter fun m => p m.name, s.enums.filter fun m => p m.name, s.services.filter fun m => p m.name⟩
theorem Zgr (s : Scm) {p q : ByteArray → Bool} (h : ∀ x ∈ nmS s, p x = q x) : ZeS s p = ZeS s q := by
 unfold ZeS
 congr 1 <;> refine List.filter_congr fun m hm => h _ ?_ <;> unfold nmS <;> simp only [List.mem_append]
 ·exact .inl (.inl (List.mem_map_of_mem (f := fun m : Msg => m.name) hm))
 ·exact .inl (.inr (List.mem_map_of_mem (f := fun m : Enm => m.name) hm))
 ·exact .inr (List.mem_map_of_mem (f := fun m : Svc => m.name) hm)
theorem ZgQ (s : Scm) (p : ByteArray → Bool) : nmS (ZeS s p) = (nmS s).filter p := by
 unfold nmS ZeS
 simp only [List.filter_append, List.filter_map]
 rfl
theorem Zec (s : Scm) (p : ByteArray → Bool) : ZeS (ZeS s p) p = ZeS s p := by
 unfold ZeS
 simp
theorem ZfF {α β : Type} (p : α → Bool) (g : α → List β) : ∀ l : List α, (∀ x ∈ l, p x = false → g x = []) → (l.filter p).flatMap g = l.flatMap g
 | [], _ => rfl
 | x :: l, h => by
  have ih := ZfF p g l fun y hy => h y (List.mem_cons_of_mem _ hy)
  rw [List.filter_cons]
  cases hp : p x with
  | true => rw [if_pos rfl, List.flatMap_cons, List.flatMap_cons, ih]
  | false => rw [if_neg (by simp), ih, List.flatMap_cons, h x (by simp) hp, List.nil_append]
theorem ZhZ (s : Scm) {p : ByteArray → Bool} {x : ByteArray} (h : p x = true) : Zbz (ZeS s p) x = Zbz s x := by
 unfold Zbz ZeS
 dsimp only
 rw [ZfF (fun m : Msg => p m.name) (uM x) s.messages fun m _ hp => ZBi fun e => (by rw [e, h] at hp; cases hp), ZfF (fun m : Svc => p m.name) (uV x) s.services fun m _ hp => ZBa fun e => (by rw [e, h] at hp; cases hp)]
theorem Zys (s : Scm) {ns : List ByteArray} (hn : ∀ x ∈ ns, x ∈ nmS s) {p : ByteArray → Bool} (hp : ∀ x ∈ nmS s, p x = true ↔ Cl s ns x) (x : ByteArray) : Cl (ZeS s p) ns x ↔ Cl s ns x := by
 constructor
 ·intro h
  induction h with
  | base h => exact .base h
  | step h1 hy hm ih =>
   have hx := ih.nm hn
   rw [ZhZ s ((hp _ hx).2 ih)] at hy
   rw [ZgQ, List.mem_filter] at hm
   exact .step ih hy hm.1
 ·intro h
  induction h with
  | base h => exact .base h
  | step h1 hy hm ih =>
   have hx := h1.nm hn
   refine .step ih (by rw [ZhZ s ((hp _ hx).2 h1)]; exact hy) ?_
   rw [ZgQ, List.mem_filter]
   exact ⟨hm, (hp _ hm).2 (.step h1 hy hm)⟩
theorem Cl.sub {s : Scm} {ns : List ByteArray} {P : ByteArray → Prop} (h1 : ∀ x ∈ ns, P x) (h2 : ∀ x, P x → ∀ y ∈ Zbz s x, y ∈ nmS s → P y) {x : ByteArray} (h : Cl s ns x) : P x := by
 induction h with
 | base h => exact h1 _ h
 | step _ hy hm ih => exact h2 _ ih _ hy hm
theorem ZGY {α ρ : Type} {B : Int × Int × List α → Option (Lv (Int × Int × List α) (Int × List α) ρ)} (l : List α) (p : α → Bool)
  (h1 : ∀ (i j : Nat) (r : List α) x, i ≤ j → r.length = l.length → r[j]? = some x → l[j]? = some x → B ((i : Int), (j : Int), r) = some (.nx (if p x then ((i : Int), ((j + 1 : Nat) : Int), r) else (((i + 1 : Nat) : Int), ((j + 1 : Nat) : Int), r.set i x))))
  (h2 : ∀ (i : Nat) r, B ((i : Int), (l.length : Int), r) = some (.ex ((i : Int), r))) :
  ∀ (k N i j : Nat) (r : List α), j + k = l.length → k < N → i ≤ j → r.length = l.length → r.take i = (l.take j).filter (fun x => !p x) → i = ((l.take j).filter fun x => !p x).length → r.drop j = l.drop j →
  ∃ (i' : Nat) (r' : List α), Zaj B N ((i : Int), (j : Int), r) = some (.inl ((i' : Int), r')) ∧ r'.take i' = l.filter (fun x => !p x) ∧ i' = (l.filter fun x => !p x).length ∧ r'.length = l.length := by
 intro k
 induction k with
 | zero =>
  intro N i j r hj hN hij hr ht hi hd
  obtain ⟨N, rfl⟩ : ∃ m, N = m + 1 := ⟨N - 1, by omega⟩
  have : j = l.length := by omega
  subst this
  rw [List.take_length] at ht hi
  exact ⟨i, r, by rw [Zaj, h2], ht, hi, hr⟩
 | succ k ih =>
  intro N i j r hj hN hij hr ht hi hd
  obtain ⟨N, rfl⟩ : ∃ m, N = m + 1 := ⟨N - 1, by omega⟩
  have hlt : j < l.length := by omega
  have hl : l[j]? = some l[j] := List.getElem?_eq_getElem hlt
  have hrj : r[j]? = some l[j] := by
   have := congrArg (fun z => z[0]?) hd
   simpa [List.getElem?_drop, hlt] using this
  have e0 : l.take (j + 1) = l.take j ++ [l[j]] := List.take_succ_eq_append_getElem hlt
  rw [Zaj, h1 i j r l[j] hij hr hrj hl]
  cases hp : p l[j] with
  | true =>
   refine ih N i (j + 1) r (by omega) (by omega) (by omega) hr ?_ ?_ ?_
   ·rw [e0, List.filter_append, ht]; simp [hp]
   ·rw [e0, List.filter_append]; simpa [hp] using hi
   ·have := congrArg (List.drop 1) hd
    simpa [List.drop_drop] using this
  | false =>
   have hir : i < r.length := by omega
   refine ih N (i + 1) (j + 1) (r.set i l[j]) (by omega) (by omega) (by omega) (by rw [List.length_set]; exact hr) ?_ ?_ ?_
   ·rw [e0, List.filter_append, ← ht, List.take_succ_eq_append_getElem (by rw [List.length_set]; exact hir), List.take_set_of_le (Nat.le_refl _), List.getElem_set_self]
    simp [hp]
   ·rw [e0, List.filter_append, List.length_append, ← hi]
    simp [hp]
   ·rw [List.drop_set_of_lt (by omega)]
    have := congrArg (List.drop 1) hd
    simpa [List.drop_drop] using this
end Go.Proofs.Ythagpbkmakocjaa
