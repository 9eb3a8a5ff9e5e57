/-
  Each type of this seat: what reads as data is data of the walk; by program (rdgen.py).
-/
import Derived.Test.YthagpbkmakocjaaEngLi
namespace Go.Proofs.Ythagpbkmakocjaa
set_option linter.all false
open Go Go.Eng
section
variable {H : Type} {enc : TypeId × Value → H} {W : World}
set_option maxRecDepth 100000
theorem rd_Raw (n : Nat) : RdN enc Try.prog W n 218 eRaw := fun cs x hx => by
  obtain ⟨xs, m, rfl, rfl, hcl, hxl, hf⟩ := DataW.trod_struct Try.underlying218 hx
  obtain ⟨v0, r0, b0⟩ := rd_field (rd_int Try.underlying3) (hf 0 _ rfl) (by rw [hxl]; exact (by decide : 0 < 4))
  obtain ⟨v1, r1, b1⟩ := rd_field (rd_int Try.underlying3) (hf 1 _ rfl) (by rw [hxl]; exact (by decide : 1 < 4))
  obtain ⟨v2, r2, b2⟩ := rd_field (rd_int Try.underlying45) (hf 2 _ rfl) (by rw [hxl]; exact (by decide : 2 < 4))
  obtain ⟨v3, r3, b3⟩ := rd_field (rd_str Try.underlying9) (hf 3 _ rfl) (by rw [hxl]; exact (by decide : 3 < 4))
  exact ⟨.mk v0 v1 v2 v3, ⟨by rw [hcl]; kernel_rfl, (r0.at.app (r1.at.app (r2.at.app r3.at)))⟩, fun hk => by rw [bulk_agg] at hk; exact (fitL_app (b0 hk) (fitL_app (b1 hk) (fitL_app (b2 hk) (b3 hk))))⟩
theorem rd_Pr_of (n : Nat) (h : ∀ k, k < n → RdN enc Try.prog W k 51 eVal) : RdN enc Try.prog W n 214 ePr := fun cs x hx => by
  obtain ⟨xs, m, rfl, rfl, hcl, hxl, hf⟩ := DataW.trod_struct Try.underlying214 hx
  obtain ⟨v0, r0, b0⟩ := rd_field (h m (by omega)) (hf 0 _ rfl) (by rw [hxl]; exact (by decide : 0 < 2))
  obtain ⟨v1, r1, b1⟩ := rd_field (h m (by omega)) (hf 1 _ rfl) (by rw [hxl]; exact (by decide : 1 < 2))
  exact ⟨.mk v0 v1, ⟨by rw [hcl]; kernel_rfl, (r0.at.app r1.at)⟩, fun hk => by rw [bulk_agg] at hk; exact (fitL_app (b0 hk) (b1 hk))⟩
theorem rd_Slt_of (n : Nat) (h : ∀ k, k < n → RdN enc Try.prog W k 51 eVal) : RdN enc Try.prog W n 216 eSlt := fun cs x hx => by
  obtain ⟨xs, m, rfl, rfl, hcl, hxl, hf⟩ := DataW.trod_struct Try.underlying216 hx
  obtain ⟨v0, r0, b0⟩ := rd_field (rd_int Try.underlying3) (hf 0 _ rfl) (by rw [hxl]; exact (by decide : 0 < 2))
  obtain ⟨v1, r1, b1⟩ := rd_field (h m (by omega)) (hf 1 _ rfl) (by rw [hxl]; exact (by decide : 1 < 2))
  exact ⟨.mk v0 v1, ⟨by rw [hcl]; kernel_rfl, (r0.at.app r1.at)⟩, fun hk => by rw [bulk_agg] at hk; exact (fitL_app (b0 hk) (b1 hk))⟩
theorem rd_Val (n : Nat) : RdN enc Try.prog W n 51 eVal := by
  induction n using Nat.strongRecOn with
  | ind n ih =>
  intro cs x hx
  obtain ⟨xs, m, rfl, rfl, hcl, hxl, hf⟩ := DataW.trod_struct Try.underlying51 hx
  obtain ⟨v0, r0, b0⟩ := rd_field (rd_int Try.underlying3) (hf 0 _ rfl) (by rw [hxl]; exact (by decide : 0 < 7))
  obtain ⟨v1, r1, b1⟩ := rd_field (rd_int Try.underlying45) (hf 1 _ rfl) (by rw [hxl]; exact (by decide : 1 < 7))
  obtain ⟨v2, r2, b2⟩ := rd_field (rd_str Try.underlying9) (hf 2 _ rfl) (by rw [hxl]; exact (by decide : 2 < 7))
  obtain ⟨v3, r3, b3⟩ := rd_field (rd_slice Try.underlying46 (by kernel_rfl : Try.prog.cellsOf 51 = 7) (by decide) (fun x => by rw [rVal_eq]; rfl) (fun k hk => (rdN_eq rVal_eq (ih k (by omega))))) (hf 3 _ rfl) (by rw [hxl]; exact (by decide : 3 < 7))
  obtain ⟨v4, r4, b4⟩ := rd_field (rd_slice Try.underlying47 (by kernel_rfl : Try.prog.cellsOf 214 = 14) (by decide) (fun x => by rw [rPr_eq]; rfl) (fun k hk => (rdN_eq rPr_eq (rd_Pr_of k (fun j hj => ih j (by omega)))))) (hf 4 _ rfl) (by rw [hxl]; exact (by decide : 4 < 7))
  obtain ⟨v5, r5, b5⟩ := rd_field (rd_slice Try.underlying48 (by kernel_rfl : Try.prog.cellsOf 216 = 8) (by decide) (fun x => by rw [rSlt_eq]; rfl) (fun k hk => (rdN_eq rSlt_eq (rd_Slt_of k (fun j hj => ih j (by omega)))))) (hf 5 _ rfl) (by rw [hxl]; exact (by decide : 5 < 7))
  obtain ⟨v6, r6, b6⟩ := rd_field (rd_slice Try.underlying49 (by kernel_rfl : Try.prog.cellsOf 218 = 4) (by decide) (fun _ => rfl) (fun k hk => (rd_Raw k))) (hf 6 _ rfl) (by rw [hxl]; exact (by decide : 6 < 7))
  exact ⟨.mk v0 v1 v2 v3 v4 v5 v6, ⟨by rw [hcl]; kernel_rfl, (r0.at.app (r1.at.app (r2.at.app (r3.at.app (r4.at.app (r5.at.app r6.at))))))⟩, fun hk => by rw [bulk_agg] at hk; exact (fitL_app (b0 hk) (fitL_app (b1 hk) (fitL_app (b2 hk) (fitL_app (b3 hk) (fitL_app (b4 hk) (fitL_app (b5 hk) (b6 hk)))))))⟩
theorem rd_Pr (n : Nat) : RdN enc Try.prog W n 214 ePr := rd_Pr_of n (fun k _ => rd_Val k)
theorem rd_Slt (n : Nat) : RdN enc Try.prog W n 216 eSlt := rd_Slt_of n (fun k _ => rd_Val k)
theorem rd_Typ (n : Nat) : RdN enc Try.prog W n 44 eTyp := fun cs x hx => by
  obtain ⟨xs, m, rfl, rfl, hcl, hxl, hf⟩ := DataW.trod_struct Try.underlying44 hx
  obtain ⟨v0, r0, b0⟩ := rd_field (rd_int Try.underlying3) (hf 0 _ rfl) (by rw [hxl]; exact (by decide : 0 < 2))
  obtain ⟨v1, r1, b1⟩ := rd_field (rd_str Try.underlying9) (hf 1 _ rfl) (by rw [hxl]; exact (by decide : 1 < 2))
  exact ⟨.mk v0 v1, ⟨by rw [hcl]; kernel_rfl, (r0.at.app r1.at)⟩, fun hk => by rw [bulk_agg] at hk; exact (fitL_app (b0 hk) (b1 hk))⟩
theorem rd_Nt (n : Nat) : RdN enc Try.prog W n 159 eNt := fun cs x hx => by
  obtain ⟨xs, m, rfl, rfl, hcl, hxl, hf⟩ := DataW.trod_struct Try.underlying159 hx
  obtain ⟨v0, r0, b0⟩ := rd_field (rd_str Try.underlying9) (hf 0 _ rfl) (by rw [hxl]; exact (by decide : 0 < 2))
  obtain ⟨v1, r1, b1⟩ := rd_field (rd_Val m) (hf 1 _ rfl) (by rw [hxl]; exact (by decide : 1 < 2))
  exact ⟨.mk v0 v1, ⟨by rw [hcl]; kernel_rfl, (r0.at.app r1.at)⟩, fun hk => by rw [bulk_agg] at hk; exact (fitL_app (b0 hk) (b1 hk))⟩
theorem rd_Fld (n : Nat) : RdN enc Try.prog W n 53 eFld := fun cs x hx => by
  obtain ⟨xs, m, rfl, rfl, hcl, hxl, hf⟩ := DataW.trod_struct Try.underlying53 hx
  obtain ⟨v0, r0, b0⟩ := rd_field (rd_int Try.underlying3) (hf 0 _ rfl) (by rw [hxl]; exact (by decide : 0 < 9))
  obtain ⟨v1, r1, b1⟩ := rd_field (rd_str Try.underlying9) (hf 1 _ rfl) (by rw [hxl]; exact (by decide : 1 < 9))
  obtain ⟨v2, r2, b2⟩ := rd_field (rd_int Try.underlying3) (hf 2 _ rfl) (by rw [hxl]; exact (by decide : 2 < 9))
  obtain ⟨v3, r3, b3⟩ := rd_field (rd_int Try.underlying3) (hf 3 _ rfl) (by rw [hxl]; exact (by decide : 3 < 9))
  obtain ⟨v4, r4, b4⟩ := rd_field (rd_Typ m) (hf 4 _ rfl) (by rw [hxl]; exact (by decide : 4 < 9))
  obtain ⟨v5, r5, b5⟩ := rd_field (rd_str Try.underlying9) (hf 5 _ rfl) (by rw [hxl]; exact (by decide : 5 < 9))
  obtain ⟨v6, r6, b6⟩ := rd_field (rd_bool Try.underlying4) (hf 6 _ rfl) (by rw [hxl]; exact (by decide : 6 < 9))
  obtain ⟨v7, r7, b7⟩ := rd_field (rd_Val m) (hf 7 _ rfl) (by rw [hxl]; exact (by decide : 7 < 9))
  obtain ⟨v8, r8, b8⟩ := rd_field (rd_slice Try.underlying37 (by kernel_rfl : Try.prog.cellsOf 159 = 8) (by decide) (fun _ => rfl) (fun k hk => (rd_Nt k))) (hf 8 _ rfl) (by rw [hxl]; exact (by decide : 8 < 9))
  exact ⟨.mk v0 v1 v2 v3 v4 v5 v6 v7 v8, ⟨by rw [hcl]; kernel_rfl, (r0.at.app (r1.at.app (r2.at.app (r3.at.app (r4.at.app (r5.at.app (r6.at.app (r7.at.app r8.at))))))))⟩, fun hk => by rw [bulk_agg] at hk; exact (fitL_app (b0 hk) (fitL_app (b1 hk) (fitL_app (b2 hk) (fitL_app (b3 hk) (fitL_app (b4 hk) (fitL_app (b5 hk) (fitL_app (b6 hk) (fitL_app (b7 hk) (b8 hk)))))))))⟩
theorem rd_Spn (n : Nat) : RdN enc Try.prog W n 157 eSpn := fun cs x hx => by
  obtain ⟨xs, m, rfl, rfl, hcl, hxl, hf⟩ := DataW.trod_struct Try.underlying157 hx
  obtain ⟨v0, r0, b0⟩ := rd_field (rd_int Try.underlying3) (hf 0 _ rfl) (by rw [hxl]; exact (by decide : 0 < 2))
  obtain ⟨v1, r1, b1⟩ := rd_field (rd_int Try.underlying3) (hf 1 _ rfl) (by rw [hxl]; exact (by decide : 1 < 2))
  exact ⟨.mk v0 v1, ⟨by rw [hcl]; kernel_rfl, (r0.at.app r1.at)⟩, fun hk => by rw [bulk_agg] at hk; exact (fitL_app (b0 hk) (b1 hk))⟩
theorem rd_Msg (n : Nat) : RdN enc Try.prog W n 39 eMsg := fun cs x hx => by
  obtain ⟨xs, m, rfl, rfl, hcl, hxl, hf⟩ := DataW.trod_struct Try.underlying39 hx
  obtain ⟨v0, r0, b0⟩ := rd_field (rd_str Try.underlying9) (hf 0 _ rfl) (by rw [hxl]; exact (by decide : 0 < 5))
  obtain ⟨v1, r1, b1⟩ := rd_field (rd_slice Try.underlying35 (by kernel_rfl : Try.prog.cellsOf 53 = 16) (by decide) (fun _ => rfl) (fun k hk => (rd_Fld k))) (hf 1 _ rfl) (by rw [hxl]; exact (by decide : 1 < 5))
  obtain ⟨v2, r2, b2⟩ := rd_field (rd_slice Try.underlying36 (by kernel_rfl : Try.prog.cellsOf 157 = 2) (by decide) (fun _ => rfl) (fun k hk => (rd_Spn k))) (hf 2 _ rfl) (by rw [hxl]; exact (by decide : 2 < 5))
  obtain ⟨v3, r3, b3⟩ := rd_field (rd_slice Try.underlying34 (by kernel_rfl : Try.prog.cellsOf 9 = 1) (by decide) (fun _ => rfl) (fun k hk => (rd_str Try.underlying9))) (hf 3 _ rfl) (by rw [hxl]; exact (by decide : 3 < 5))
  obtain ⟨v4, r4, b4⟩ := rd_field (rd_slice Try.underlying37 (by kernel_rfl : Try.prog.cellsOf 159 = 8) (by decide) (fun _ => rfl) (fun k hk => (rd_Nt k))) (hf 4 _ rfl) (by rw [hxl]; exact (by decide : 4 < 5))
  exact ⟨.mk v0 v1 v2 v3 v4, ⟨by rw [hcl]; kernel_rfl, (r0.at.app (r1.at.app (r2.at.app (r3.at.app r4.at))))⟩, fun hk => by rw [bulk_agg] at hk; exact (fitL_app (b0 hk) (fitL_app (b1 hk) (fitL_app (b2 hk) (fitL_app (b3 hk) (b4 hk)))))⟩
theorem rd_Itm (n : Nat) : RdN enc Try.prog W n 127 eItm := fun cs x hx => by
  obtain ⟨xs, m, rfl, rfl, hcl, hxl, hf⟩ := DataW.trod_struct Try.underlying127 hx
  obtain ⟨v0, r0, b0⟩ := rd_field (rd_str Try.underlying9) (hf 0 _ rfl) (by rw [hxl]; exact (by decide : 0 < 3))
  obtain ⟨v1, r1, b1⟩ := rd_field (rd_int Try.underlying3) (hf 1 _ rfl) (by rw [hxl]; exact (by decide : 1 < 3))
  obtain ⟨v2, r2, b2⟩ := rd_field (rd_slice Try.underlying37 (by kernel_rfl : Try.prog.cellsOf 159 = 8) (by decide) (fun _ => rfl) (fun k hk => (rd_Nt k))) (hf 2 _ rfl) (by rw [hxl]; exact (by decide : 2 < 3))
  exact ⟨.mk v0 v1 v2, ⟨by rw [hcl]; kernel_rfl, (r0.at.app (r1.at.app r2.at))⟩, fun hk => by rw [bulk_agg] at hk; exact (fitL_app (b0 hk) (fitL_app (b1 hk) (b2 hk)))⟩
theorem rd_Enm (n : Nat) : RdN enc Try.prog W n 42 eEnm := fun cs x hx => by
  obtain ⟨xs, m, rfl, rfl, hcl, hxl, hf⟩ := DataW.trod_struct Try.underlying42 hx
  obtain ⟨v0, r0, b0⟩ := rd_field (rd_str Try.underlying9) (hf 0 _ rfl) (by rw [hxl]; exact (by decide : 0 < 5))
  obtain ⟨v1, r1, b1⟩ := rd_field (rd_bool Try.underlying4) (hf 1 _ rfl) (by rw [hxl]; exact (by decide : 1 < 5))
  obtain ⟨v2, r2, b2⟩ := rd_field (rd_slice Try.underlying40 (by kernel_rfl : Try.prog.cellsOf 127 = 3) (by decide) (fun _ => rfl) (fun k hk => (rd_Itm k))) (hf 2 _ rfl) (by rw [hxl]; exact (by decide : 2 < 5))
  obtain ⟨v3, r3, b3⟩ := rd_field (rd_slice Try.underlying36 (by kernel_rfl : Try.prog.cellsOf 157 = 2) (by decide) (fun _ => rfl) (fun k hk => (rd_Spn k))) (hf 3 _ rfl) (by rw [hxl]; exact (by decide : 3 < 5))
  obtain ⟨v4, r4, b4⟩ := rd_field (rd_slice Try.underlying37 (by kernel_rfl : Try.prog.cellsOf 159 = 8) (by decide) (fun _ => rfl) (fun k hk => (rd_Nt k))) (hf 4 _ rfl) (by rw [hxl]; exact (by decide : 4 < 5))
  exact ⟨.mk v0 v1 v2 v3 v4, ⟨by rw [hcl]; kernel_rfl, (r0.at.app (r1.at.app (r2.at.app (r3.at.app r4.at))))⟩, fun hk => by rw [bulk_agg] at hk; exact (fitL_app (b0 hk) (fitL_app (b1 hk) (fitL_app (b2 hk) (fitL_app (b3 hk) (b4 hk)))))⟩
theorem rd_Mth (n : Nat) : RdN enc Try.prog W n 59 eMth := fun cs x hx => by
  obtain ⟨xs, m, rfl, rfl, hcl, hxl, hf⟩ := DataW.trod_struct Try.underlying59 hx
  obtain ⟨v0, r0, b0⟩ := rd_field (rd_str Try.underlying9) (hf 0 _ rfl) (by rw [hxl]; exact (by decide : 0 < 5))
  obtain ⟨v1, r1, b1⟩ := rd_field (rd_str Try.underlying9) (hf 1 _ rfl) (by rw [hxl]; exact (by decide : 1 < 5))
  obtain ⟨v2, r2, b2⟩ := rd_field (rd_str Try.underlying9) (hf 2 _ rfl) (by rw [hxl]; exact (by decide : 2 < 5))
  obtain ⟨v3, r3, b3⟩ := rd_field (rd_int Try.underlying3) (hf 3 _ rfl) (by rw [hxl]; exact (by decide : 3 < 5))
  obtain ⟨v4, r4, b4⟩ := rd_field (rd_slice Try.underlying37 (by kernel_rfl : Try.prog.cellsOf 159 = 8) (by decide) (fun _ => rfl) (fun k hk => (rd_Nt k))) (hf 4 _ rfl) (by rw [hxl]; exact (by decide : 4 < 5))
  exact ⟨.mk v0 v1 v2 v3 v4, ⟨by rw [hcl]; kernel_rfl, (r0.at.app (r1.at.app (r2.at.app (r3.at.app r4.at))))⟩, fun hk => by rw [bulk_agg] at hk; exact (fitL_app (b0 hk) (fitL_app (b1 hk) (fitL_app (b2 hk) (fitL_app (b3 hk) (b4 hk)))))⟩
theorem rd_Svc (n : Nat) : RdN enc Try.prog W n 57 eSvc := fun cs x hx => by
  obtain ⟨xs, m, rfl, rfl, hcl, hxl, hf⟩ := DataW.trod_struct Try.underlying57 hx
  obtain ⟨v0, r0, b0⟩ := rd_field (rd_str Try.underlying9) (hf 0 _ rfl) (by rw [hxl]; exact (by decide : 0 < 3))
  obtain ⟨v1, r1, b1⟩ := rd_field (rd_slice Try.underlying55 (by kernel_rfl : Try.prog.cellsOf 59 = 5) (by decide) (fun _ => rfl) (fun k hk => (rd_Mth k))) (hf 1 _ rfl) (by rw [hxl]; exact (by decide : 1 < 3))
  obtain ⟨v2, r2, b2⟩ := rd_field (rd_slice Try.underlying37 (by kernel_rfl : Try.prog.cellsOf 159 = 8) (by decide) (fun _ => rfl) (fun k hk => (rd_Nt k))) (hf 2 _ rfl) (by rw [hxl]; exact (by decide : 2 < 3))
  exact ⟨.mk v0 v1 v2, ⟨by rw [hcl]; kernel_rfl, (r0.at.app (r1.at.app r2.at))⟩, fun hk => by rw [bulk_agg] at hk; exact (fitL_app (b0 hk) (fitL_app (b1 hk) (b2 hk)))⟩
theorem rd_Scm (n : Nat) : RdN enc Try.prog W n 27 eScm := fun cs x hx => by
  obtain ⟨xs, m, rfl, rfl, hcl, hxl, hf⟩ := DataW.trod_struct Try.underlying27 hx
  obtain ⟨v0, r0, b0⟩ := rd_field (rd_slice Try.underlying23 (by kernel_rfl : Try.prog.cellsOf 39 = 5) (by decide) (fun _ => rfl) (fun k hk => (rd_Msg k))) (hf 0 _ rfl) (by rw [hxl]; exact (by decide : 0 < 3))
  obtain ⟨v1, r1, b1⟩ := rd_field (rd_slice Try.underlying24 (by kernel_rfl : Try.prog.cellsOf 42 = 5) (by decide) (fun _ => rfl) (fun k hk => (rd_Enm k))) (hf 1 _ rfl) (by rw [hxl]; exact (by decide : 1 < 3))
  obtain ⟨v2, r2, b2⟩ := rd_field (rd_slice Try.underlying25 (by kernel_rfl : Try.prog.cellsOf 57 = 3) (by decide) (fun _ => rfl) (fun k hk => (rd_Svc k))) (hf 2 _ rfl) (by rw [hxl]; exact (by decide : 2 < 3))
  exact ⟨.mk v0 v1 v2, ⟨by rw [hcl]; kernel_rfl, (r0.at.app (r1.at.app r2.at))⟩, fun hk => by rw [bulk_agg] at hk; exact (fitL_app (b0 hk) (fitL_app (b1 hk) (b2 hk)))⟩
theorem rd_Fil (n : Nat) : RdN enc Try.prog W n 61 eFil := fun cs x hx => by
  obtain ⟨xs, m, rfl, rfl, hcl, hxl, hf⟩ := DataW.trod_struct Try.underlying61 hx
  obtain ⟨v0, r0, b0⟩ := rd_field (rd_str Try.underlying9) (hf 0 _ rfl) (by rw [hxl]; exact (by decide : 0 < 6))
  obtain ⟨v1, r1, b1⟩ := rd_field (rd_str Try.underlying9) (hf 1 _ rfl) (by rw [hxl]; exact (by decide : 1 < 6))
  obtain ⟨v2, r2, b2⟩ := rd_field (rd_slice Try.underlying34 (by kernel_rfl : Try.prog.cellsOf 9 = 1) (by decide) (fun _ => rfl) (fun k hk => (rd_str Try.underlying9))) (hf 2 _ rfl) (by rw [hxl]; exact (by decide : 2 < 6))
  obtain ⟨v3, r3, b3⟩ := rd_field (rd_slice Try.underlying23 (by kernel_rfl : Try.prog.cellsOf 39 = 5) (by decide) (fun _ => rfl) (fun k hk => (rd_Msg k))) (hf 3 _ rfl) (by rw [hxl]; exact (by decide : 3 < 6))
  obtain ⟨v4, r4, b4⟩ := rd_field (rd_slice Try.underlying24 (by kernel_rfl : Try.prog.cellsOf 42 = 5) (by decide) (fun _ => rfl) (fun k hk => (rd_Enm k))) (hf 4 _ rfl) (by rw [hxl]; exact (by decide : 4 < 6))
  obtain ⟨v5, r5, b5⟩ := rd_field (rd_slice Try.underlying25 (by kernel_rfl : Try.prog.cellsOf 57 = 3) (by decide) (fun _ => rfl) (fun k hk => (rd_Svc k))) (hf 5 _ rfl) (by rw [hxl]; exact (by decide : 5 < 6))
  exact ⟨.mk v0 v1 v2 v3 v4 v5, ⟨by rw [hcl]; kernel_rfl, (r0.at.app (r1.at.app (r2.at.app (r3.at.app (r4.at.app r5.at)))))⟩, fun hk => by rw [bulk_agg] at hk; exact (fitL_app (b0 hk) (fitL_app (b1 hk) (fitL_app (b2 hk) (fitL_app (b3 hk) (fitL_app (b4 hk) (b5 hk))))))⟩
end
end Go.Proofs.Ythagpbkmakocjaa
