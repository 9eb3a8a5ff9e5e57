/-
  What is proved: the second form of wireschemalaw20.MergeMasks: the law returns true and leaves its arguments as they were.
  Condition: the arguments are together of bulk at most 1048576 (the given second form); nothing else.
-/
import Derived.Test.YtbcmdieedjamgaaGreatZd22
import Derived.Test.YtbcmdieedjamgaaGreatZd28
import Derived.Test.YtbcmdieedjamgaaGreatRows
import Derived.WalkKit
import Derived.ProofKit
import Derived.OpenShut
import Derived.JoinedCond
import Derived.Test.YtbcmdieedjamgaaGreatZd00
namespace Go.Proofs.YtbcmdieedjamgaaGreat
set_option linter.all false
open Go Go.Eng Go.ChangeShapes Go.WideShapes Go.ChangeAt Go.RowKit
theorem own : ownKnob Tryz.prog.godebug = none := by kernel_rfl
namespace MergeMasks
open Go.Proofs.YtbcmdieedjamgaaGreat
set_option maxRecDepth 100000 in
theorem contract (H : Type) (enc : TypeId × Value → H) (W : World) (base : Nat) (args : Array Value) (ds gs : List (DataW H)) (before : List MemPlace)
  (hval : ∀ (j : Nat) t v, Tryz.f4.params[j]? = some t → args[j]? = some v → Value.okWide Tryz.prog W .any base t v)
  (hW : DataW.Whole enc Tryz.prog Tryz.f4.params.toList Rows.mergeMasksSpec.vars false W args.toList ds gs before) (hk : Rows.uptoSmall H (ds ++ gs) = true) :
  Calls Tryz.prog 4 args W fun e W' => ∃ v, e = .returned v ∧ Rows.mergeMasksSpec.post enc Tryz.prog Tryz.f4 false true false false W args v W' := by
 obtain ⟨p, q, hA0, hV, rfl, hfz, hnd⟩ := id hW
 have hA : DataW.TrodAll enc Tryz.prog W 0 (fun _ => true) true Tryz.f4.params.toList args.toList ds p := hA0
 rw [Tryz.params4] at hA hval
 obtain ⟨v0, vs0, d0, ds0, p0, q0, hargs, rfl, rfl, h0, r0⟩ := trodAll_cons hA
 obtain ⟨v1, vs1, d1, ds1, p1, q1, rfl, rfl, rfl, h1, r1⟩ := trodAll_cons r0
 obtain ⟨v2, vs2, d2, ds2, p2, q2, rfl, rfl, rfl, h2, r2⟩ := trodAll_cons r1
 obtain ⟨v3, vs3, d3, ds3, p3, q3, rfl, rfl, rfl, h3, r3⟩ := trodAll_cons r2
 obtain ⟨v4, vs4, d4, ds4, p4, q4, rfl, rfl, rfl, h4, r4⟩ := trodAll_cons r3
 obtain ⟨rfl, rfl, rfl⟩ := trodAll_nil r4
 obtain rfl : args = #[v0, v1, v2, v3, v4] := by cases args; simp_all
 have hb : Rows.uptoBulkAll ([d0, d1, d2, d3, d4] ++ gs) ≤ 1048576 := Y1 hk
 simp only [HR, Gt, Rows.uptoBulkAll] at hb
 obtain ⟨s, re0, fe0⟩ := gx ZQk Tryz.underlying26 (hval 0 26 v0 rfl rfl) h0
 obtain ⟨n, re1, fe1⟩ := ZE6 Tryz.underlying9 (hval 1 9 v1 rfl rfl) h1
 obtain ⟨a, re2, fe2⟩ := gx Ve Tryz.underlying35 (hval 2 35 v2 rfl rfl) h2
 obtain ⟨b, re3, fe3⟩ := gx Ve Tryz.underlying35 (hval 3 35 v3 rfl rfl) h3
 obtain ⟨m, re4, fe4⟩ := Zuc (e := AJ) (fun n => CM Tryz.underlying40 (by kernel_rfl : Tryz.prog.cellsOf 71 = 2) (by decide) (fun x => by rw [JP]; rfl) (fun m _ => Ql JP (ZQY m))) Tryz.underlying40 (hval 4 40 v4 rfl rfl) h4
 simp only [bk] at fe4
 obtain ⟨rfl, rfl⟩ := trodVars_none hV
 have A := (K_4 s n a b m).k 0 kI true (Zlb (by omega) (by omega) (by omega) (by omega) (by omega))
 refine (A.2 (fun _ => ⟨0, 0, 0⟩) (· < W.heap.size) W #[v0, v1, v2, v3, v4] (ok0 _) (ZH6 (xs := [.agg ((Am s).map .d), .d (.str n), .agg ((Ae a).map .d), .agg ((Ae b).map .d), .d (.list (m.map AJ))]) (vs := [v0, v1, v2, v3, v4]) ⟨re0 _ _, re1 _ _ _ _, re2 _ _, re3 _ _, re4 _ _ _, trivial⟩)).mono fun e W' ⟨r, v, H', m', S', he, hp, hO, hr, hx⟩ => ?_
 obtain ⟨hp, _⟩ := hp
 subst he
 subst hp
 cases hr
 rename_i hd
 cases hd
 exact ⟨_, rfl, ZuL hW rfl (by kernel_rfl) (by rw [Tryz.params4]; exact (by decide +kernel)) (by kernel_rfl) Tryz.underlying4 rfl ⟨hx.os, hx.tape, hx.output, hx.size, hx.blk⟩⟩
set_option maxRecDepth 100000 in
theorem lifted (os : Os) (started : os.Started) (H : Type) (enc : TypeId × Value → H) (F : Stop.Interp) :
  ReturnsInHanded {} Tryz.checked os 4 .any ((Rows.OpenSpec.upto Rows.mergeMasksSpec).pre6 enc Tryz.prog Tryz.f4 Rows.mergeMasksUptoRow.domain false) (((Rows.OpenSpec.upto Rows.mergeMasksSpec).at F).post enc Tryz.prog Tryz.f4 false true false false) := by
 refine returnsInHanded_of_cond (C := Tryz.checked) (s := Rows.OpenSpec.upto Rows.mergeMasksSpec) (k := Rows.uptoSmall) rfl own started (by kernel_rfl) Tryz.func4
  (OpenSpec.witness (enc := enc) (C := Tryz.checked) (s := Rows.OpenSpec.upto Rows.mergeMasksSpec) (k := Rows.uptoSmall) rfl false ⟨#[], #[.agg #[.slice none 0 0, .slice none 0 0, .slice none 0 0], .string ⟨#[]⟩, .agg #[.int .i64 0, .int .u64 0, .string ⟨#[]⟩, .slice none 0 0, .slice none 0 0, .slice none 0 0, .slice none 0 0], .agg #[.int .i64 0, .int .u64 0, .string ⟨#[]⟩, .slice none 0 0, .slice none 0 0, .slice none 0 0, .slice none 0 0], .slice none 0 0], []⟩ 8 (by kernel_rfl) (by kernel_rfl) (by kernel_rfl)
   (x := ([.agg [.nil, .nil, .nil], .lit (.string []), .agg [.lit (.int .i64 0), .lit (.int .u64 0), .lit (.string []), .nil, .nil, .nil, .nil], .agg [.lit (.int .i64 0), .lit (.int .u64 0), .lit (.string []), .nil, .nil, .nil, .nil], .nil], [], [])) (by kernel_rfl) rfl (by kernel_rfl)) ?_
 intro W base args ds gs before hval hW _ hk _
 exact contract H enc W base args ds gs before hval hW hk
theorem holds : Rows.MergeMasksUptoSaid :=
 OpenClaim.holds_of_cond 4 Tryz.f4 rfl rfl rfl rfl rfl rfl rfl ⟨rfl, rfl, rfl, rfl, rfl⟩ rfl rfl rfl rfl rfl (by kernel_rfl) Tryz.func4 (by kernel_rfl)
  (Y1 (by kernel_rfl)) (by unfold Func.isWrapper; first | (rw [Yj (by decide +kernel)]; kernel_rfl) | (rw [Ym (by decide +kernel)]; exact ⟨rfl, rfl⟩))
  (fun os started H enc _ F => lifted os started H enc F)
end MergeMasks
end Go.Proofs.YtbcmdieedjamgaaGreat
