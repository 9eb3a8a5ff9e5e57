import Derived.Test.YthagpbkmakocjaaCx20
import Derived.Test.YthagpbkmakocjaaCx11
import Derived.Test.YthagpbkmakocjaaCx10
import Derived.Test.YthagpbkmakocjaaRows
import Derived.WalkKit
import Derived.ProofKit
import Derived.OpenShut
import Derived.Carry
import Derived.Deep.DeepHandedRow
namespace Go.Proofs.Ythagpbkmakocjaa
set_option linter.all false
set_option maxRecDepth 100000
open Go Go.Eng
noncomputable section
abbrev E44 : List Bt → AV := fun y => vL Zah y
section
variable {C : Cx} (co : CO C 0) (p0 : Scm)
abbrev ZmR := PT 0 (List Bt)
abbrev ZmO : Blk := ⟨0, true, 27, 3, [vL Zak p0.messages, vL Zag p0.enums, vL Zal p0.services]⟩
abbrev Zti : List (Key × Bool) := [((1, 1), false), ((1, 3), true)]
def ZzK : List Bt × Nat → St := fun (r1, v2) => mkS [(1, .ptr (1, 1) 0 0), (3, .ref (1, 3) 0 0 r1.length), (11, vL Zak p0.messages), (12, vN p0.messages.length), (13, vN v2)] [((1, 1), (ZmO p0)), ((1, 3), ⟨0, true, 9, 1, Zaa Zah r1⟩)]
def ZCT : List Bt → Nat × St := fun r4 => (0, mkS [(1, .ptr (1, 1) 0 0), (3, .ref (1, 3) 0 0 r4.length)] [((1, 1), (ZmO p0)), ((1, 3), ⟨0, true, 9, 1, Zaa Zah r4⟩)])
def Zpn (r1 : List Bt) (v2 : Nat) : PT 0 (Lv (List Bt × Nat) (List Bt) (List Bt)) := br (decide ((v2 : Int) < (p0.messages.length : Int))) (ix p0.messages v2 fun e3 => vw .go <| vw .go <| vw .sep <| ap r1 (e3.name : Bt) <| vs (wa v2 1) <| vz (fl (r1 ++ [e3.name])) <| ln (ZzK p0) (r1 ++ [e3.name], v2 + 1)) (vz (fl r1) <| lxe (ZCT p0) r1)
def ZmU := fun ((r1, v2) : List Bt × Nat) => (Zpn p0 r1 v2).m
def ZyW : List Bt × Nat → St := fun (r5, v6) => mkS [(1, .ptr (1, 1) 0 0), (3, .ref (1, 3) 0 0 r5.length), (24, vL Zag p0.enums), (25, vN p0.enums.length), (26, vN v6)] [((1, 1), (ZmO p0)), ((1, 3), ⟨0, true, 9, 1, Zaa Zah r5⟩)]
def ZB2 : List Bt → Nat × St := fun r8 => (2, mkS [(1, .ptr (1, 1) 0 0), (3, .ref (1, 3) 0 0 r8.length)] [((1, 1), (ZmO p0)), ((1, 3), ⟨0, true, 9, 1, Zaa Zah r8⟩)])
def Zqa (r5 : List Bt) (v6 : Nat) : PT 0 (Lv (List Bt × Nat) (List Bt) (List Bt)) := br (decide ((v6 : Int) < (p0.enums.length : Int))) (ix p0.enums v6 fun e7 => vw .go <| vw .go <| vw .sep <| ap r5 (e7.name : Bt) <| vs (wa v6 1) <| vz (fl (r5 ++ [e7.name])) <| ln (ZyW p0) (r5 ++ [e7.name], v6 + 1)) (vz (fl r5) <| lxe (ZB2 p0) r5)
def ZnA := fun ((r5, v6) : List Bt × Nat) => (Zqa p0 r5 v6).m
def Zxh : List Bt × Nat → St := fun (r9, v10) => mkS [(3, .ref (1, 3) 0 0 r9.length), (37, vL Zal p0.services), (38, vN p0.services.length), (39, vN v10)] [((1, 3), ⟨0, true, 9, 1, Zaa Zah r9⟩)]
def ZCm : List Bt → Nat × St := fun r12 => (4, mkS [(3, .ref (1, 3) 0 0 r12.length)] [((1, 3), ⟨0, true, 9, 1, Zaa Zah r12⟩)])
def Zo7 (r9 : List Bt) (v10 : Nat) : PT 0 (Lv (List Bt × Nat) (List Bt) (List Bt)) := br (decide ((v10 : Int) < (p0.services.length : Int))) (ix p0.services v10 fun e11 => vw .go <| vw .go <| vw .sep <| ap r9 (e11.name : Bt) <| vs (wa v10 1) <| vz (fl (r9 ++ [e11.name])) <| ln (Zxh p0) (r9 ++ [e11.name], v10 + 1)) (vz (fl r9) <| lxe (ZCm) r9)
def ZmX := fun ((r9, v10) : List Bt × Nat) => (Zo7 p0 r9 v10).m
def Zp5 (r12 : List Bt) : ZmR := vz (fr r12) <| lr E44 (fun _ => []) r12
def Zqd (r8 : List Bt) : ZmR := vw .go <| vz (eqL p0.services) <| vz (fl r8) <| lc (Zxh p0 (r8, 0)) ((Zaj (ZmX p0) big (r8, 0)).bind (Sum.elim (fun r12 => (Zp5 r12).m) some))
def ZpL (r4 : List Bt) : ZmR := vw .go <| vz (eqL p0.enums) <| vz (fl r4) <| lc (ZyW p0 (r4, 0)) ((Zaj (ZnA p0) big (r4, 0)).bind (Sum.elim (fun r8 => (Zqd p0 r8).m) some))
def Zqo : ZmR := vw (.ads 3 3 9 1) <| vz (fl ([] : List Bt)) <| lc (ZzK p0 (([] : List Bt), 0)) ((Zaj (ZmU p0) big (([] : List Bt), 0)).bind (Sum.elim (fun r4 => (ZpL p0 r4).m) some))
def ZpK : ZmR := vw .go <| vz (eqL p0.messages) <| lc (mkS [(1, .ptr (1, 1) 0 0), (3, .e0), (11, vL Zak p0.messages), (12, vN p0.messages.length), (13, vI 0)] [((1, 1), (ZmO p0))]) ((Zqo p0).m)
def Zor : ZmR := lc (mkS [(1, .ptr (1, 1) 0 0), (3, .e0)] [((1, 1), (ZmO p0))]) ((ZpK p0).m)
def Za1 (p0 : Scm) : Option (List Bt) := (Zor p0).m
section
include co
theorem Zwp : Kl 50 C (pa [0, 0, 1, 0, 1, 1] (Zac Try.f44)) [.tmp 2] 0 (ZzK p0) (ZCT p0) E44 (fun _ => []) (ZmU p0) := fun (r1, v2) _ m Q Post hQ L => en co (Zpn p0 r1 v2) (lf2 [1, 3, 11, 12, 13] Zti) (lf2 [1, 3] Zti) hQ m L fun r g => ⟨fun e3 => id, id⟩
theorem ZyD : Kl 50 C (pa [0, 0, 1, 0, 1, 1, 1] (Zac Try.f44)) [.tmp 2] 0 (ZyW p0) (ZB2 p0) E44 (fun _ => []) (ZnA p0) := fun (r5, v6) _ m Q Post hQ L => en co (Zqa p0 r5 v6) (lf2 [1, 3, 24, 25, 26] Zti) (lf2 [1, 3] Zti) hQ m L fun r g => ⟨fun e7 => id, id⟩
theorem ZzB : Kl 50 C (pa [0, 0, 1, 0, 1, 1, 1, 1] (Zac Try.f44)) [.tmp 2] 0 (Zxh p0) (ZCm) E44 (fun _ => []) (ZmX p0) := fun (r9, v10) _ m Q Post hQ L => en co (Zo7 p0 r9 v10) (lf2 [3, 37, 38, 39] [((1, 3), true)]) (lf2 [3] [((1, 3), true)]) hQ m L fun r g => ⟨fun e11 => id, id⟩
end
end
theorem ZKy (p0 : Scm) : KC tp 44 [.agg ((ZeV p0).map .d)] (Za1 p0) E44 := kc1 Try.func44 Try.ntmps44 tok [.tmp 2] fun C co y m Post L => mi co 2 (Zor p0) (lf2 [1, 3] [((1, 1), false)]) nl ii m L fun r g _ m L => sq (mi co 1 (ZpK p0) (lf2 [1, 3, 11, 12, 13] [((1, 1), false)]) nl ii m L fun r g _ m L => bk 0 (Zi4 co (Zqo p0) (lf2 [1, 3, 11, 12, 13] [((1, 1), false), ((1, 3), true)]) m L fun r g _ m L => lo (lpF (Zwp co p0) ii m L (fun r4 m => sq (mi co 1 (ZpL p0 r4) (lf2 [1, 3, 24, 25, 26] [((1, 1), false), ((1, 3), true)]) nl ii m L fun r g _ m L => bk 2 (lo (lpF (ZyD co p0) ii m L (fun r8 m => sq (mi co 1 (Zqd p0 r8) (lf2 [3, 37, 38, 39] [((1, 3), true)]) nl ii m L fun r g _ m L => bk 4 (lo (lpF (ZzB co p0) ii m L (fun r12 m => fo co (Zp5 r12) m L fun r g => id))))))))))))
abbrev E45 : Bool → AV := fun y => vB y
section
variable {C : Cx} (p0 : List Bt) (p1 : Bt)
def Zxb : Nat → St := fun v1 => mkS [(0, vL Zah p0), (1, vS p1), (5, vN v1)] []
def ZAY : Unit → Nat × St := fun _ => (0, mkS [] [])
def Zsc (v1 : Nat) : PT 0 (Lv (Nat) (Unit) (Bool)) := vz (eqL p0) <| br (decide ((v1 : Int) < (p0.length : Int))) (ix p0 v1 fun e2 => br (decide (e2 = p1)) (lrt E45 (fun _ => []) true) (vs (wa v1 1) <| ln (Zxb p0 p1) (v1 + 1))) (lxe (ZAY) ())
def ZqZ := fun (v1 : Nat) => (Zsc p0 p1 v1).m
def Zxy : PT 0 (Bool) := lr E45 (fun _ => []) false
def ZyY : PT 0 (Bool) := lc (Zxb p0 p1 0) ((Zaj (ZqZ p0 p1) big 0).bind (Sum.elim (fun _ => (Zxy).m) some))
def Zz6 : PT 0 (Bool) := lc (mkS [(0, vL Zah p0), (1, vS p1)] []) ((ZyY p0 p1).m)
def Zbm (p0 : List Bt) (p1 : Bt) : Option (Bool) := (Zz6 p0 p1).m
theorem ZyF (co : CO C 0) : Kl 18 C (pa [0, 0, 1, 0, 1] (Zac Try.f45)) [.tmp 4] 0 (Zxb p0 p1) (ZAY) E45 (fun _ => []) (ZqZ p0 p1) := fun v1 _ m Q Post hQ L => en co (Zsc p0 p1 v1) (lf1 [0, 1, 5]) nl hQ m L fun r g => ⟨fun e2 => ⟨id, id⟩, id⟩
end
theorem ZEo (p0 : List Bt) (p1 : Bt) : KC tp 45 [vL Zah p0, vS p1] (Zbm p0 p1) E45 := kc1 Try.func45 Try.ntmps45 tok [.tmp 4] fun C co y m Post L => mi co 1 (Zz6 p0 p1) (lf1 [0, 1]) nl ii m L fun r g _ m L => sq (mi co 1 (ZyY p0 p1) (lf1 [0, 1, 5]) nl ii m L fun r g _ m L => bk 0 (lo (lpF (ZyF p0 p1 co) ii m L (fun _ m => fo co (Zxy) m L fun r g => id))))
abbrev E46 : List Bt → AV := fun y => vL Zah y
section
variable {C : Cx} (co : CO C 0) (p0 : Scm) (p1 : Bt) (v2 : Nat) (e3 : Msg) (r1 : List Bt) (v10 : Nat) (e11 : Svc) (r9 : List Bt)
abbrev ZiU := PT 0 (Lv (List Bt × Nat) (List Bt) (List Bt))
abbrev Zqf := PT 0 (List Bt)
abbrev Zjq : Blk := ⟨0, true, 27, 3, [vL Zak p0.messages, vL Zag p0.enums, vL Zal p0.services]⟩
abbrev ZE2 : List (Nat × AV) := [(1, vS p1), (2, .ptr (1, 2) 0 0), (5, .ref (1, 5) 0 0 r1.length), (15, vL Zak p0.messages), (16, vN p0.messages.length), (17, vN v2)]
abbrev ZtD : List (Key × Bool) := [((1, 2), false), ((1, 5), true)]
abbrev ZBr : List (Nat × AV) := [(1, vS p1), (5, .ref (1, 5) 0 0 r9.length), (53, vL Zal p0.services), (54, vN p0.services.length), (55, vN v10)]
def ZxF : List Bt × Nat → St := fun (r1, v2) => mkS (ZE2 p0 p1 v2 r1) [((1, 2), (Zjq p0)), ((1, 5), ⟨0, true, 9, 1, Zaa Zah r1⟩)]
def ZE5 : List Bt → Nat × St := fun r8 => (0, mkS [(1, vS p1), (2, .ptr (1, 2) 0 0), (5, .ref (1, 5) 0 0 r8.length)] [((1, 2), (Zjq p0)), ((1, 5), ⟨0, true, 9, 1, Zaa Zah r8⟩)])
def Zr0 : List Bt × Nat → St := fun (r4, v5) => mkS [(1, vS p1), (2, .ptr (1, 2) 0 0), (5, .ref (1, 5) 0 0 r4.length), (7, .ptr (1, 7) 0 0), (15, vL Zak p0.messages), (16, vN p0.messages.length), (17, vN v2), (22, vL Zc2 e3.fields), (23, vN e3.fields.length), (24, vN v5)] [((1, 2), (Zjq p0)), ((1, 5), ⟨0, true, 9, 1, Zaa Zah r4⟩), ((1, 7), ⟨0, true, 39, 5, [vS e3.name, vL Zc2 e3.fields, vL ZeI e3.reserved, vL Zah e3.gone, vL eNt e3.notes]⟩)]
def ZD9 : List Bt → Nat × St := fun r7 => (2, mkS [(1, vS p1), (2, .ptr (1, 2) 0 0), (5, .ref (1, 5) 0 0 r7.length), (15, vL Zak p0.messages), (16, vN p0.messages.length), (17, vN v2)] [((1, 2), (Zjq p0)), ((1, 5), ⟨0, true, 9, 1, Zaa Zah r7⟩)])
def ZtA (r4 : List Bt) (v5 : Nat) : ZiU := br (decide ((v5 : Int) < (e3.fields.length : Int))) (ix e3.fields v5 fun e6 => vw .go <| vw .go <| vw .go <| vw .go <| br (decide (e3.name = p1) && (decide (e6.type.kind = (10 : Int)) || decide (e6.type.kind = (9 : Int)))) (vw .go <| vw .sep <| ap r4 (e6.type.name : Bt) <| vs (wa v5 1) <| vz (fl (r4 ++ [e6.type.name])) <| ln (Zr0 p0 p1 v2 e3) (r4 ++ [e6.type.name], v5 + 1)) (vs (wa v5 1) <| vz (fl r4) <| ln (Zr0 p0 p1 v2 e3) (r4, v5 + 1))) (vz (fl r4) <| lxe (ZD9 p0 p1 v2) r4)
def Znv := fun ((r4, v5) : List Bt × Nat) => (ZtA p0 p1 v2 e3 r4 v5).m
def ZtZ (r7 : List Bt) : ZiU := vs (wa v2 1) <| vz (fl r7) <| ln (ZxF p0 p1) (r7, v2 + 1)
def ZsH : ZiU := ix p0.messages v2 fun e3 => vw .go <| vw .go <| vz (eqL e3.fields) <| vz (fl r1) <| lc (Zr0 p0 p1 v2 e3 (r1, 0)) ((Zaj (Znv p0 p1 v2 e3) big (r1, 0)).bind (Sum.elim (fun r7 => (ZtZ p0 p1 v2 r7).m) (fun z => some (.rt z))))
def ZrZ : ZiU := br (decide ((v2 : Int) < (p0.messages.length : Int))) (vz (fl r1) <| lc (mkS (ZE2 p0 p1 v2 r1) [((1, 2), (Zjq p0)), ((1, 5), ⟨0, true, 9, 1, Zaa Zah r1⟩)]) ((ZsH p0 p1 v2 r1).m)) (vz (fl r1) <| lxe (ZE5 p0 p1) r1)
def Znm := fun ((r1, v2) : List Bt × Nat) => (ZrZ p0 p1 v2 r1).m
def Zxp : List Bt × Nat → St := fun (r9, v10) => mkS (ZBr p0 p1 v10 r9) [((1, 5), ⟨0, true, 9, 1, Zaa Zah r9⟩)]
def ZBb : List Bt → Nat × St := fun r16 => (4, mkS [(5, .ref (1, 5) 0 0 r16.length)] [((1, 5), ⟨0, true, 9, 1, Zaa Zah r16⟩)])
def Zuf : List Bt × Nat → St := fun (r12, v13) => mkS [(1, vS p1), (5, .ref (1, 5) 0 0 r12.length), (11, .ptr (1, 11) 0 0), (53, vL Zal p0.services), (54, vN p0.services.length), (55, vN v10), (60, vL Zd4 e11.methods), (61, vN e11.methods.length), (62, vN v13)] [((1, 5), ⟨0, true, 9, 1, Zaa Zah r12⟩), ((1, 11), ⟨0, true, 57, 3, [vS e11.name, vL Zd4 e11.methods, vL eNt e11.notes]⟩)]
def ZEK : List Bt → Nat × St := fun r15 => (6, mkS [(1, vS p1), (5, .ref (1, 5) 0 0 r15.length), (53, vL Zal p0.services), (54, vN p0.services.length), (55, vN v10)] [((1, 5), ⟨0, true, 9, 1, Zaa Zah r15⟩)])
def Zrt (r12 : List Bt) (v13 : Nat) : ZiU := br (decide ((v13 : Int) < (e11.methods.length : Int))) (ix e11.methods v13 fun e14 => vw .go <| vw .go <| br (decide (e11.name = p1)) (vw .go <| vw .go <| vw .sep <| ap2 r12 (e14.inn : Bt) e14.out <| vs (wa v13 1) <| vz (fl (r12 ++ ([e14.inn, e14.out]))) <| ln (Zuf p0 p1 v10 e11) (r12 ++ ([e14.inn, e14.out]), v13 + 1)) (vs (wa v13 1) <| vz (fl r12) <| ln (Zuf p0 p1 v10 e11) (r12, v13 + 1))) (vz (fl r12) <| lxe (ZEK p0 p1 v10) r12)
def ZnQ := fun ((r12, v13) : List Bt × Nat) => (Zrt p0 p1 v10 e11 r12 v13).m
def Zsg (r15 : List Bt) : ZiU := vs (wa v10 1) <| vz (fl r15) <| ln (Zxp p0 p1) (r15, v10 + 1)
def Zs1 : ZiU := ix p0.services v10 fun e11 => vw .go <| vw .go <| vz (eqL e11.methods) <| vz (fl r9) <| lc (Zuf p0 p1 v10 e11 (r9, 0)) ((Zaj (ZnQ p0 p1 v10 e11) big (r9, 0)).bind (Sum.elim (fun r15 => (Zsg p0 p1 v10 r15).m) (fun z => some (.rt z))))
def ZqT : ZiU := br (decide ((v10 : Int) < (p0.services.length : Int))) (vz (fl r9) <| lc (mkS (ZBr p0 p1 v10 r9) [((1, 5), ⟨0, true, 9, 1, Zaa Zah r9⟩)]) ((Zs1 p0 p1 v10 r9).m)) (vz (fl r9) <| lxe (ZBb) r9)
def Zni := fun ((r9, v10) : List Bt × Nat) => (ZqT p0 p1 v10 r9).m
def Ztv (r16 : List Bt) : Zqf := vz (fr r16) <| lr E46 (fun _ => []) r16
def ZkR (r8 : List Bt) : Zqf := vw .go <| vz (eqL p0.services) <| vz (fl r8) <| lc (Zxp p0 p1 (r8, 0)) ((Zaj (Zni p0 p1) big (r8, 0)).bind (Sum.elim (fun r16 => (Ztv r16).m) some))
def Zkb : Zqf := vw (.ads 5 5 9 1) <| vz (fl ([] : List Bt)) <| lc (ZxF p0 p1 (([] : List Bt), 0)) ((Zaj (Znm p0 p1) big (([] : List Bt), 0)).bind (Sum.elim (fun r8 => (ZkR p0 p1 r8).m) some))
def Zk4 : Zqf := vw .go <| vz (eqL p0.messages) <| lc (mkS [(1, vS p1), (2, .ptr (1, 2) 0 0), (5, .e0), (15, vL Zak p0.messages), (16, vN p0.messages.length), (17, vI 0)] [((1, 2), (Zjq p0))]) ((Zkb p0 p1).m)
def Zla : Zqf := lc (mkS [(1, vS p1), (2, .ptr (1, 2) 0 0), (5, .e0)] [((1, 2), (Zjq p0))]) ((Zk4 p0 p1).m)
def Zbd (p0 : Scm) (p1 : Bt) : Option (List Bt) := (Zla p0 p1).m
section
include co
theorem Zwb : Kl 80 C (pa [0, 0, 1, 1, 0, 0, 1, 1, 0, 0, 1, 0, 1, 1] (Zac Try.f46)) [.tmp 4] 0 (Zr0 p0 p1 v2 e3) (ZD9 p0 p1 v2) E46 (fun _ => []) (Znv p0 p1 v2 e3) := fun (r4, v5) _ m Q Post hQ L => en co (ZtA p0 p1 v2 e3 r4 v5) (lf2 [1, 2, 5, 7, 15, 16, 17, 22, 23, 24] [((1, 2), false), ((1, 5), true), ((1, 7), false)]) (lf2 [1, 2, 5, 15, 16, 17] ZtD) hQ m L fun r g => ⟨fun e6 => ⟨id, id⟩, id⟩
theorem Zyt : Kl 80 C (pa [0, 0, 1, 0, 1, 1] (Zac Try.f46)) [.tmp 4] 0 (ZxF p0 p1) (ZE5 p0 p1) E46 (fun _ => []) (Znm p0 p1) := fun (r1, v2) _ m Q Post hQ L => mi co 2 (ZrZ p0 p1 v2 r1) (lf2 [1, 2, 5, 15, 16, 17] ZtD) (lf2 [1, 2, 5] ZtD) hQ m L fun r g => ⟨fun _ m L => sq (bk 1 (mi co 2 (ZsH p0 p1 v2 r1) (lf2 [1, 2, 5, 7, 15, 16, 17, 22, 23, 24] [((1, 2), false), ((1, 5), true), ((1, 7), false)]) nl hQ m L fun r g e3 _ m L => bk 2 (lo (lpL (Zwb co p0 p1 v2 e3) hQ m L (fun r7 m => en co (ZtZ p0 p1 v2 r7) (lf2 [1, 2, 5, 15, 16, 17] ZtD) nl hQ m L fun r g => id))))), id⟩
theorem Zz2 : Kl 80 C (pa [0, 0, 1, 1, 0, 0, 1, 1, 0, 0, 1, 0, 1, 1, 1] (Zac Try.f46)) [.tmp 4] 0 (Zuf p0 p1 v10 e11) (ZEK p0 p1 v10) E46 (fun _ => []) (ZnQ p0 p1 v10 e11) := fun (r12, v13) _ m Q Post hQ L => en co (Zrt p0 p1 v10 e11 r12 v13) (lf2 [1, 5, 11, 53, 54, 55, 60, 61, 62] [((1, 5), true), ((1, 11), false)]) (lf2 [1, 5, 53, 54, 55] [((1, 5), true)]) hQ m L fun r g => ⟨fun e14 => ⟨id, id⟩, id⟩
theorem Zzl : Kl 80 C (pa [0, 0, 1, 0, 1, 1, 1] (Zac Try.f46)) [.tmp 4] 0 (Zxp p0 p1) (ZBb) E46 (fun _ => []) (Zni p0 p1) := fun (r9, v10) _ m Q Post hQ L => mi co 2 (ZqT p0 p1 v10 r9) (lf2 [1, 5, 53, 54, 55] [((1, 5), true)]) (lf2 [5] [((1, 5), true)]) hQ m L fun r g => ⟨fun _ m L => sq (bk 5 (mi co 2 (Zs1 p0 p1 v10 r9) (lf2 [1, 5, 11, 53, 54, 55, 60, 61, 62] [((1, 5), true), ((1, 11), false)]) nl hQ m L fun r g e11 _ m L => bk 6 (lo (lpL (Zz2 co p0 p1 v10 e11) hQ m L (fun r15 m => en co (Zsg p0 p1 v10 r15) (lf2 [1, 5, 53, 54, 55] [((1, 5), true)]) nl hQ m L fun r g => id))))), id⟩
end
end
theorem ZJL (p0 : Scm) (p1 : Bt) : KC tp 46 [.agg ((ZeV p0).map .d), vS p1] (Zbd p0 p1) E46 := kc1 Try.func46 Try.ntmps46 tok [.tmp 4] fun C co y m Post L => mi co 2 (Zla p0 p1) (lf2 [1, 2, 5] [((1, 2), false)]) nl ii m L fun r g _ m L => sq (mi co 1 (Zk4 p0 p1) (lf2 [1, 2, 5, 15, 16, 17] [((1, 2), false)]) nl ii m L fun r g _ m L => bk 0 (Zi4 co (Zkb p0 p1) (lf2 [1, 2, 5, 15, 16, 17] [((1, 2), false), ((1, 5), true)]) m L fun r g _ m L => lo (lpF (Zyt co p0 p1) ii m L (fun r8 m => sq (mi co 1 (ZkR p0 p1 r8) (lf2 [1, 5, 53, 54, 55] [((1, 5), true)]) nl ii m L fun r g _ m L => bk 4 (lo (lpF (Zzl co p0 p1) ii m L (fun r16 m => fo co (Ztv r16) m L fun r g => id))))))))
abbrev ZsF : Bool → AV := fun y => vB y
@[reducible] def Zt3 (p0 : List Bt) : Bool → List Blk := fun y => [⟨0, true, 9, 1, Zaa Zah p0⟩]
def ZoZ (p0 : List Bt) (p1 : Bt) : Nat → St := fun v1 => mkS [(0, .ref (0, 0) 0 0 p0.length), (1, vS p1), (5, vN v1)] [((0, 0), ⟨0, true, 9, 1, Zaa Zah p0⟩)]
def ZoE (p0 : List Bt) : Unit → Nat × St := fun _ => (0, mkS [] [((0, 0), ⟨0, true, 9, 1, Zaa Zah p0⟩)])
def ZfI (p0 : List Bt) (p1 : Bt) (v1 : Nat) : PT 1 (Lv (Nat) (Unit) (Bool)) := vz (eqN p0.length) <| br (decide ((v1 : Int) < (p0.length : Int))) (vs (ir v1 p0.length 1) <| ca p0 v1 fun e2 => br (decide (e2 = p1)) (lrt ZsF (Zt3 p0) true) (vs (wa v1 1) <| vz (fl p0) <| ln (ZoZ p0 p1) (v1 + 1))) (vz (fl p0) <| lxe (ZoE p0) ())
def Zg5 (p0 : List Bt) (p1 : Bt) := fun (v1 : Nat) => (ZfI p0 p1 v1).m
def Zfj (p0 : List Bt) : PT 1 (Bool) := lr ZsF (Zt3 p0) false
def Zfk (p0 : List Bt) (p1 : Bt) : PT 1 (Bool) := vz (fl p0) <| lc (mkS [(0, .ref (0, 0) 0 0 p0.length), (1, vS p1), (5, vI 0)] [((0, 0), ⟨0, true, 9, 1, Zaa Zah p0⟩)]) ((Zaj (Zg5 p0 p1) big 0).bind (Sum.elim (fun _ => (Zfj p0).m) some))
def Zfi (p0 : List Bt) (p1 : Bt) : PT 1 (Bool) := vz (fl p0) <| lc (mkS [(0, .ref (0, 0) 0 0 p0.length), (1, vS p1)] [((0, 0), ⟨0, true, 9, 1, Zaa Zah p0⟩)]) ((Zfk p0 p1).m)
def ZaD (p0 : List Bt) (p1 : Bt) : Option (Bool) := (Zfi p0 p1).m
theorem Zo4 {C : Cx} (co : CO C 1) (p0 : List Bt) (p1 : Bt) : Kl 18 C (pa [0, 0, 1, 0, 1] (Zac Try.f45)) [.tmp 4] 1 (ZoZ p0 p1) (ZoE p0) ZsF (Zt3 p0) (Zg5 p0 p1) := fun v1 _ m Q Post hQ L => en co (ZfI p0 p1 v1) (lf2 [0, 1, 5] [((0, 0), true)]) (lf2 [] [((0, 0), true)]) hQ m L fun r g => ⟨fun e2 => ⟨id, id⟩, id⟩
theorem ZuL (p0 : List Bt) (p1 : Bt) : KO tp 45 1 [.ref (0, 0) 0 0 p0.length, vS p1] [⟨0, true, 9, 1, Zaa Zah p0⟩] (fun _ _ _ _ => True) (ZaD p0 p1) ZsF (Zt3 p0) := ko1 Try.func45 Try.ntmps45 tok [.tmp 4] 1 (fun C co hT y m Post L => mi co 1 (Zfi p0 p1) (lf2 [0, 1] [((0, 0), true)]) nl ii m L fun r g _ m L => sq (mi co 1 (Zfk p0 p1) (lf2 [0, 1, 5] [((0, 0), true)]) nl ii m L fun r g _ m L => bk 0 (lo (lpF (Zo4 co p0 p1) ii m L (fun _ m => fo co (Zfj p0) m L fun r g => id))))) (hB := fun y => ⟨.inl (Zai _ _), rfl, trivial⟩)
abbrev E19 : Scm × Int → AV := fun y => .tup [.agg ((ZeV y.1).map .d), vI y.2]
section
variable {C : Cx} (co : CO C 0) (p0 : Scm) (p1 y1 : List Bt) (v9 : Nat) (y11 r8 r18 : List Bt) (r23 : List Msg) (r28 : List Enm)
abbrev Zpw := PT 0 (Lv (List Bt × Nat) (List Bt) (Scm × Int))
abbrev ZeQ := PT 0 (Scm × Int)
abbrev ZdQ : Blk := ⟨0, true, 27, 3, [vL Zak p0.messages, vL Zag p0.enums, vL Zal p0.services]⟩
abbrev ZcT : Blk := ⟨0, true, 27, 3, [.e0, .e0, .e0]⟩
abbrev Zh0 : List (Key × Bool) := [((1, 2), false), ((1, 4), false), ((1, 7), true)]
abbrev ZnG : Blk := ⟨0, true, 39, 5, Zaa Zak r23⟩
abbrev ZDC : List (Key × Blk) := [((1, 2), (ZdQ p0)), ((1, 4), ZcT), ((1, 13), ⟨0, true, 27, 3, [.ref (1, 1130) 0 0 r23.length, .e0, .e0]⟩), ((1, 1130), (ZnG r23))]
abbrev ZCW : List (Key × Bool) := [((1, 4), false), ((1, 13), false), ((1, 1130), true), ((1, 1131), true), ((1, 1132), true)]
abbrev ZBD : List (Key × Bool) := [((1, 2), false), ((1, 4), false), ((1, 13), false), ((1, 1130), true), ((1, 1131), true)]
abbrev Zut : List (Nat × AV) := [(2, .ptr (1, 2) 0 0), (4, .ptr (1, 4) 0 0), (6, vL Zah y1), (7, .ref (1, 7) 0 0 r8.length), (10, vN v9)]
abbrev ZuW : List (Key × Blk) := [((1, 2), (ZdQ p0)), ((1, 4), ZcT), ((1, 7), ⟨0, true, 9, 1, Zaa Zah r18⟩), ((1, 13), ZcT)]
abbrev Zvx : Blk := ⟨0, true, 27, 3, [.ref (1, 1130) 0 0 r23.length, .ref (1, 1131) 0 0 r28.length, .e0]⟩
abbrev Zk6 : Blk := ⟨0, true, 42, 5, Zaa Zag r28⟩
abbrev Zvs : List (Nat × AV) := [(2, .ptr (1, 2) 0 0), (4, .ptr (1, 4) 0 0), (7, vL Zah r18), (13, .ptr (1, 13) 0 0)]
abbrev Zvh : List (Key × Bool) := [((1, 2), false), ((1, 4), false), ((1, 13), false), ((1, 1130), true)]
abbrev Ze7 (t : List (Nat × AV)) : List (Nat × AV) := (2, .ptr (1, 2) 0 0) :: (4, .ptr (1, 4) 0 0) :: t
abbrev ZCR (t : List (Nat × AV)) : List (Nat × AV) := (4, .ptr (1, 4) 0 0) :: (7, vL Zah r18) :: (13, .ptr (1, 13) 0 0) :: (110, vL Zal p0.services) :: (111, vN p0.services.length) :: t
def Zri : List Bt × Nat → St := fun (r2, v3) => mkS (Ze7 [(6, vL Zah y1), (7, .ref (1, 7) 0 0 r2.length), (22, vL Zah p1), (23, vN p1.length), (24, vN v3)]) [((1, 2), (ZdQ p0)), ((1, 4), ZcT), ((1, 7), ⟨0, true, 9, 1, Zaa Zah r2⟩)]
def ZE1 : List Bt → Nat × St := fun r7 => (0, mkS (Ze7 [(6, vL Zah y1), (7, .ref (1, 7) 0 0 r7.length)]) [((1, 2), (ZdQ p0)), ((1, 4), ZcT), ((1, 7), ⟨0, true, 9, 1, Zaa Zah r7⟩)])
def ZsY (r2 : List Bt) (v3 : Nat) : Zpw := br (decide ((v3 : Int) < (p1.length : Int))) (ix p1 v3 fun e4 => cl (ZEo y1 e4) fun y5 => br (!y5) (vw .go <| lrt E19 (fun _ => []) ((.mk [] [] [] : Scm), 10)) (cs tp 45 [.ref (1, 7) 0 0 r2.length, vS e4] [(1, 7)] [((1, 7), ⟨0, true, 9, 1, Zaa Zah r2⟩)] (ZaD r2 e4) (fun y => vB y) fun y6 => br (!y6) (vw .sep <| vw .sep <| ap r2 (e4 : Bt) <| vs (wa v3 1) <| vz (fl (r2 ++ [e4])) <| ln (Zri p0 p1 y1) (r2 ++ [e4], v3 + 1)) (vs (wa v3 1) <| vz (fl r2) <| ln (Zri p0 p1 y1) (r2, v3 + 1)))) (vz (fl r2) <| lxe (ZE1 p0 y1) r2)
def ZmV := fun ((r2, v3) : List Bt × Nat) => (ZsY p0 p1 y1 r2 v3).m
def ZxG : List Bt × Nat → St := fun (r8, v9) => mkS (Zut y1 v9 r8) [((1, 2), (ZdQ p0)), ((1, 4), ZcT), ((1, 7), ⟨0, true, 9, 1, Zaa Zah r8⟩)]
def ZEt : List Bt → Nat × St := fun r18 => (2, mkS (Ze7 [(7, .ref (1, 7) 0 0 r18.length)]) [((1, 2), (ZdQ p0)), ((1, 4), ZcT), ((1, 7), ⟨0, true, 9, 1, Zaa Zah r18⟩)])
def ZrV : List Bt × Nat → St := fun (r12, v13) => mkS (Ze7 [(6, vL Zah y1), (7, .ref (1, 7) 0 0 r12.length), (10, vN v9), (53, vL Zah y11), (54, vN y11.length), (55, vN v13)]) [((1, 2), (ZdQ p0)), ((1, 4), ZcT), ((1, 7), ⟨0, true, 9, 1, Zaa Zah r12⟩)]
def ZA4 : List Bt → Nat × St := fun r17 => (4, mkS (Ze7 [(6, vL Zah y1), (7, .ref (1, 7) 0 0 r17.length), (10, vN v9)]) [((1, 2), (ZdQ p0)), ((1, 4), ZcT), ((1, 7), ⟨0, true, 9, 1, Zaa Zah r17⟩)])
def Zte (r12 : List Bt) (v13 : Nat) : Zpw := br (decide ((v13 : Int) < (y11.length : Int))) (ix y11 v13 fun e14 => cl (ZEo y1 e14) fun y15 => csg y15 tp 45 [.ref (1, 7) 0 0 r12.length, vS e14] [(1, 7)] [((1, 7), ⟨0, true, 9, 1, Zaa Zah r12⟩)] (ZaD r12 e14) (fun y => vB y) fun y16 => br (y15 && (!y16)) (vw .sep <| vw .sep <| ap r12 (e14 : Bt) <| vs (wa v13 1) <| vz (fl (r12 ++ [e14])) <| ln (ZrV p0 y1 v9 y11) (r12 ++ [e14], v13 + 1)) (vs (wa v13 1) <| vz (fl r12) <| ln (ZrV p0 y1 v9 y11) (r12, v13 + 1))) (vz (fl r12) <| lxe (ZA4 p0 y1 v9) r12)
def ZnL := fun ((r12, v13) : List Bt × Nat) => (Zte p0 y1 v9 y11 r12 v13).m
def ZwG (r17 : List Bt) : Zpw := vs (wa v9 1) <| vz (fl r17) <| ln (ZxG p0 y1) (r17, v9 + 1)
def Zt0 : Zpw := vw .go <| vs (ir v9 r8.length 1) <| ca r8 v9 fun e10 => cl (ZJL p0 e10) fun y11 => vz (eqL y11) <| vz (fl r8) <| lc (ZrV p0 y1 v9 y11 (r8, 0)) ((Zaj (ZnL p0 y1 v9 y11) big (r8, 0)).bind (Sum.elim (fun r17 => (ZwG p0 y1 v9 r17).m) (fun z => some (.rt z))))
def Ztn : Zpw := vz (eqN r8.length) <| br (decide ((v9 : Int) < (r8.length : Int))) (vz (fl r8) <| lc (mkS (Zut y1 v9 r8) [((1, 2), (ZdQ p0)), ((1, 4), ZcT), ((1, 7), ⟨0, true, 9, 1, Zaa Zah r8⟩)]) ((Zt0 p0 y1 v9 r8).m)) (vz (fl r8) <| lxe (ZEt p0) r8)
def ZnJ := fun ((r8, v9) : List Bt × Nat) => (Ztn p0 y1 v9 r8).m
def Zul : Nat × List Msg → St := fun (v19, r20) => mkS (Ze7 [(7, vL Zah r18), (13, .ptr (1, 13) 0 0), (74, vL Zak p0.messages), (75, vN p0.messages.length), (76, vN v19)]) [((1, 2), (ZdQ p0)), ((1, 4), ZcT), ((1, 13), ⟨0, true, 27, 3, [.ref (1, 1130) 0 0 r20.length, .e0, .e0]⟩), ((1, 1130), ⟨0, true, 39, 5, Zaa Zak r20⟩)]
def ZDL : List Msg → Nat × St := fun r23 => (6, mkS (Zvs r18) (ZDC p0 r23))
def Zrw (v19 : Nat) (r20 : List Msg) : PT 0 (Lv (Nat × List Msg) (List Msg) (Scm × Int)) := br (decide ((v19 : Int) < (p0.messages.length : Int))) (ix p0.messages v19 fun e21 => vw .go <| vw .go <| cl (ZEo r18 e21.name) fun y22 => br y22 (vw .go <| vw .go <| vw .sep <| ap r20 (e21 : Msg) <| vw .go <| vs (wa v19 1) <| vz (fl (r20 ++ [e21])) <| ln (Zul p0 r18) (v19 + 1, r20 ++ [e21])) (vs (wa v19 1) <| vz (fl r20) <| ln (Zul p0 r18) (v19 + 1, r20))) (vz (fl r20) <| lxe (ZDL p0 r18) r20)
def ZmB := fun ((v19, r20) : Nat × List Msg) => (Zrw p0 r18 v19 r20).m
def Zrf : Nat × List Enm → St := fun (v24, r25) => mkS (Ze7 [(7, vL Zah r18), (13, .ptr (1, 13) 0 0), (92, vL Zag p0.enums), (93, vN p0.enums.length), (94, vN v24)]) [((1, 2), (ZdQ p0)), ((1, 4), ZcT), ((1, 13), ⟨0, true, 27, 3, [.ref (1, 1130) 0 0 r23.length, .ref (1, 1131) 0 0 r25.length, .e0]⟩), ((1, 1130), (ZnG r23)), ((1, 1131), ⟨0, true, 42, 5, Zaa Zag r25⟩)]
def ZAJ : List Enm → Nat × St := fun r28 => (8, mkS (Zvs r18) [((1, 2), (ZdQ p0)), ((1, 4), ZcT), ((1, 13), (Zvx r23 r28)), ((1, 1130), (ZnG r23)), ((1, 1131), (Zk6 r28))])
def Zra (v24 : Nat) (r25 : List Enm) : PT 0 (Lv (Nat × List Enm) (List Enm) (Scm × Int)) := br (decide ((v24 : Int) < (p0.enums.length : Int))) (ix p0.enums v24 fun e26 => vw .go <| vw .go <| cl (ZEo r18 e26.name) fun y27 => br y27 (vw .go <| vw .go <| vw .sep <| ap r25 (e26 : Enm) <| vw .go <| vs (wa v24 1) <| vz (fl r23) <| vz (fl (r25 ++ [e26])) <| ln (Zrf p0 r18 r23) (v24 + 1, r25 ++ [e26])) (vs (wa v24 1) <| vz (fl r23) <| vz (fl r25) <| ln (Zrf p0 r18 r23) (v24 + 1, r25))) (vz (fl r23) <| vz (fl r25) <| lxe (ZAJ p0 r18 r23) r25)
def Znu := fun ((v24, r25) : Nat × List Enm) => (Zra p0 r18 r23 v24 r25).m
def Zsd : Nat × List Svc → St := fun (v29, r30) => mkS (ZCR p0 r18 [(112, vN v29)]) [((1, 4), ZcT), ((1, 13), ⟨0, true, 27, 3, [.ref (1, 1130) 0 0 r23.length, .ref (1, 1131) 0 0 r28.length, .ref (1, 1132) 0 0 r30.length]⟩), ((1, 1130), (ZnG r23)), ((1, 1131), (Zk6 r28)), ((1, 1132), ⟨0, true, 57, 3, Zaa Zal r30⟩)]
def ZDg : List Svc → Nat × St := fun r33 => (10, mkS [(4, .ptr (1, 4) 0 0), (13, .ptr (1, 13) 0 0)] [((1, 4), ZcT), ((1, 13), ⟨0, true, 27, 3, [.ref (1, 1130) 0 0 r23.length, .ref (1, 1131) 0 0 r28.length, .ref (1, 1132) 0 0 r33.length]⟩), ((1, 1130), (ZnG r23)), ((1, 1131), (Zk6 r28)), ((1, 1132), ⟨0, true, 57, 3, Zaa Zal r33⟩)])
def ZrX (v29 : Nat) (r30 : List Svc) : PT 0 (Lv (Nat × List Svc) (List Svc) (Scm × Int)) := br (decide ((v29 : Int) < (p0.services.length : Int))) (ix p0.services v29 fun e31 => vw .go <| vw .go <| cl (ZEo r18 e31.name) fun y32 => br y32 (vw .go <| vw .go <| vw .sep <| ap r30 (e31 : Svc) <| vw .go <| vs (wa v29 1) <| vz (fl r23) <| vz (fl r28) <| vz (fl (r30 ++ [e31])) <| ln (Zsd p0 r18 r23 r28) (v29 + 1, r30 ++ [e31])) (vs (wa v29 1) <| vz (fl r23) <| vz (fl r28) <| vz (fl r30) <| ln (Zsd p0 r18 r23 r28) (v29 + 1, r30))) (vz (fl r23) <| vz (fl r28) <| vz (fl r30) <| lxe (ZDg r23 r28) r30)
def Zm9 := fun ((v29, r30) : Nat × List Svc) => (ZrX p0 r18 r23 r28 v29 r30).m
def ZwQ (r33 : List Svc) : ZeQ := vw .go <| vw .go <| vz (fr r23) <| vz (fr r28) <| vz (fr r33) <| lr E19 (fun _ => []) ((.mk r23 r28 r33 : Scm), 0)
def Zog : ZeQ := vw (.adc (1, 13) 2 1132 57 3) <| vz (fl r23) <| vz (fl r28) <| vz (fl ([] : List Svc)) <| lc (Zsd p0 r18 r23 r28 (0, ([] : List Svc))) ((Zaj (Zm9 p0 r18 r23 r28) big (0, ([] : List Svc))).bind (Sum.elim (fun r33 => (ZwQ r23 r28 r33).m) some))
def ZpM : ZeQ := vw .go <| vz (eqL p0.services) <| vz (fl r23) <| vz (fl r28) <| lc (mkS (ZCR p0 r18 [(112, vI 0)]) [((1, 4), ZcT), ((1, 13), (Zvx r23 r28)), ((1, 1130), (ZnG r23)), ((1, 1131), (Zk6 r28))]) ((Zog p0 r18 r23 r28).m)
def ZpO : ZeQ := vw (.adc (1, 13) 1 1131 42 5) <| vz (fl r23) <| vz (fl ([] : List Enm)) <| lc (Zrf p0 r18 r23 (0, ([] : List Enm))) ((Zaj (Znu p0 r18 r23) big (0, ([] : List Enm))).bind (Sum.elim (fun r28 => (ZpM p0 r18 r23 r28).m) some))
def ZoY : ZeQ := vw .go <| vz (eqL p0.enums) <| vz (fl r23) <| lc (mkS (Ze7 [(7, vL Zah r18), (13, .ptr (1, 13) 0 0), (92, vL Zag p0.enums), (93, vN p0.enums.length), (94, vI 0)]) (ZDC p0 r23)) ((ZpO p0 r18 r23).m)
def Zpa : ZeQ := vw (.adc (1, 13) 0 1130 39 5) <| vw (.frz 7 [(7, (r18.map Zah))] []) <| vz (fz r18) <| vz (fl ([] : List Msg)) <| lc (Zul p0 r18 (0, ([] : List Msg))) ((Zaj (ZmB p0 r18) big (0, ([] : List Msg))).bind (Sum.elim (fun r23 => (ZoY p0 r18 r23).m) some))
def ZoJ : ZeQ := vw .go <| vz (eqL p0.messages) <| vz (fl r18) <| lc (mkS (Ze7 [(7, .ref (1, 7) 0 0 r18.length), (13, .ptr (1, 13) 0 0), (74, vL Zak p0.messages), (75, vN p0.messages.length), (76, vI 0)]) (ZuW p0 r18)) ((Zpa p0 r18).m)
def ZkP : ZeQ := vz (fl r18) <| lc (mkS (Ze7 [(7, .ref (1, 7) 0 0 r18.length), (13, .ptr (1, 13) 0 0)]) (ZuW p0 r18)) ((ZoJ p0 r18).m)
def Zly (r7 : List Bt) : ZeQ := vz (fl r7) <| lc (ZxG p0 y1 (r7, 0)) ((Zaj (ZnJ p0 y1) big (r7, 0)).bind (Sum.elim (fun r18 => (ZkP p0 r18).m) some))
def Zl6 : ZeQ := vw (.ads 7 7 9 1) <| vz (fl ([] : List Bt)) <| lc (Zri p0 p1 y1 (([] : List Bt), 0)) ((Zaj (ZmV p0 p1 y1) big (([] : List Bt), 0)).bind (Sum.elim (fun r7 => (Zly p0 y1 r7).m) some))
def ZlA : ZeQ := vz (eqL p1) <| lc (mkS (Ze7 [(6, vL Zah y1), (7, .e0), (22, vL Zah p1), (23, vN p1.length), (24, vI 0)]) [((1, 2), (ZdQ p0)), ((1, 4), ZcT)]) ((Zl6 p0 p1 y1).m)
def ZoD : ZeQ := vw .go <| cl (ZKy p0) fun y1 => lc (mkS [(1, vL Zah p1), (2, .ptr (1, 2) 0 0), (4, .ptr (1, 4) 0 0), (6, vL Zah y1), (7, .e0)] [((1, 2), (ZdQ p0)), ((1, 4), ZcT)]) ((ZlA p0 p1 y1).m)
def Zbb (p0 : Scm) (p1 : List Bt) : Option (Scm × Int) := (ZoD p0 p1).m
section
include co
theorem ZzZ : Kl 128 C (pa [0, 0, 1, 0, 1, 1, 1] (Zac Try.f19)) [.cell 4 27, .tmp 5] 0 (Zri p0 p1 y1) (ZE1 p0 y1) E19 (fun _ => []) (ZmV p0 p1 y1) := fun (r2, v3) _ m Q Post hQ L => en co (ZsY p0 p1 y1 r2 v3) (lf2 [2, 4, 6, 7, 22, 23, 24] Zh0) (lf2 [2, 4, 6, 7] Zh0) hQ m L fun r g => ⟨fun e4 y5 => ⟨id, ⟨fun y hy => ZaB (ZuL r2 e4) hy co g [((1, 7), ⟨0, true, 9, 1, Zaa Zah r2⟩)] [] (lkS []) (fun H' hg ho => trivial) (fun H => ⟨fun _ => ⟨rfl, bz⟩, by kernel_rfl, trivial⟩), fun y6 => ⟨id, id⟩⟩⟩, id⟩
theorem Zzm : Kl 128 C (pa [0, 0, 1, 0, 0, 1, 0, 0, 1, 0, 1, 1, 1, 1] (Zac Try.f19)) [.cell 4 27, .tmp 5] 0 (ZrV p0 y1 v9 y11) (ZA4 p0 y1 v9) E19 (fun _ => []) (ZnL p0 y1 v9 y11) := fun (r12, v13) _ m Q Post hQ L => en co (Zte p0 y1 v9 y11 r12 v13) (lf2 [2, 4, 6, 7, 10, 53, 54, 55] Zh0) (lf2 [2, 4, 6, 7, 10] Zh0) hQ m L fun r g => ⟨fun e14 y15 => ⟨fun y hy => ZaB (ZuL r12 e14) hy co g [((1, 7), ⟨0, true, 9, 1, Zaa Zah r12⟩)] [] (lkS []) (fun H' hg ho => trivial) (fun H => ⟨fun _ => ⟨rfl, bz⟩, by kernel_rfl, trivial⟩), fun y16 => ⟨id, id⟩⟩, id⟩
theorem ZwO : Kl 128 C (pa [0, 0, 1, 0, 1, 1, 1, 1] (Zac Try.f19)) [.cell 4 27, .tmp 5] 0 (ZxG p0 y1) (ZEt p0) E19 (fun _ => []) (ZnJ p0 y1) := fun (r8, v9) _ m Q Post hQ L => mi co 1 (Ztn p0 y1 v9 r8) (lf2 [2, 4, 6, 7, 10] Zh0) (lf2 [2, 4, 7] Zh0) hQ m L fun r g => ⟨fun _ m L => sq (bk 3 (mi co 1 (Zt0 p0 y1 v9 r8) (lf2 [2, 4, 6, 7, 10, 53, 54, 55] Zh0) nl hQ m L fun r g e10 y11 _ m L => bk 4 (lo (lpL (Zzm co p0 y1 v9 y11) hQ m L (fun r17 m => en co (ZwG p0 y1 v9 r17) (lf2 [2, 4, 6, 7, 10] Zh0) nl hQ m L fun r g => id))))), id⟩
theorem ZyO : Kl 128 C (pa [0, 0, 1, 0, 1, 1, 1, 1, 1, 1] (Zac Try.f19)) [.cell 4 27, .tmp 5] 0 (Zul p0 r18) (ZDL p0 r18) E19 (fun _ => []) (ZmB p0 r18) := fun (v19, r20) _ m Q Post hQ L => en co (Zrw p0 r18 v19 r20) (lf2 [2, 4, 7, 13, 74, 75, 76] Zvh) (lf2 [2, 4, 7, 13] Zvh) hQ m L fun r g => ⟨fun e21 y22 => ⟨id, id⟩, id⟩
theorem ZyH : Kl 128 C (pa [0, 0, 1, 0, 1, 1, 1, 1, 1, 1, 1] (Zac Try.f19)) [.cell 4 27, .tmp 5] 0 (Zrf p0 r18 r23) (ZAJ p0 r18 r23) E19 (fun _ => []) (Znu p0 r18 r23) := fun (v24, r25) _ m Q Post hQ L => en co (Zra p0 r18 r23 v24 r25) (lf2 [2, 4, 7, 13, 92, 93, 94] ZBD) (lf2 [2, 4, 7, 13] ZBD) hQ m L fun r g => ⟨fun e26 y27 => ⟨id, id⟩, id⟩
theorem Zxu : Kl 128 C (pa [0, 0, 1, 0, 1, 1, 1, 1, 1, 1, 1, 1] (Zac Try.f19)) [.cell 4 27, .tmp 5] 0 (Zsd p0 r18 r23 r28) (ZDg r23 r28) E19 (fun _ => []) (Zm9 p0 r18 r23 r28) := fun (v29, r30) _ m Q Post hQ L => en co (ZrX p0 r18 r23 r28 v29 r30) (lf2 [4, 7, 13, 110, 111, 112] ZCW) (lf2 [4, 13] ZCW) hQ m L fun r g => ⟨fun e31 y32 => ⟨id, id⟩, id⟩
end
end
theorem ZKx (p0 : Scm) (p1 : List Bt) : KC tp 19 [.agg ((ZeV p0).map .d), vL Zah p1] (Zbb p0 p1) E19 := kc1 Try.func19 Try.ntmps19 tok [.cell 4 27, .tmp 5] fun C co y m Post L => mi co 3 (ZoD p0 p1) (lf2 [1, 2, 4, 6, 7] [((1, 2), false), ((1, 4), false)]) nl ii m L fun r g y1 _ m L => sq (mi co 1 (ZlA p0 p1 y1) (lf2 [2, 4, 6, 7, 22, 23, 24] [((1, 2), false), ((1, 4), false)]) nl ii m L fun r g _ m L => bk 0 (Zi4 co (Zl6 p0 p1 y1) (lf2 [2, 4, 6, 7, 22, 23, 24] [((1, 2), false), ((1, 4), false), ((1, 7), true)]) m L fun r g _ m L => lo (lpF (ZzZ co p0 p1 y1) ii m L (fun r7 m => sq (mi co 1 (Zly p0 y1 r7) (lf2 [2, 4, 6, 7, 10] [((1, 2), false), ((1, 4), false), ((1, 7), true)]) nl ii m L fun r g _ m L => bk 2 (lo (lpF (ZwO co p0 y1) ii m L (fun r18 m => mi co 1 (ZkP p0 r18) (lf2 [2, 4, 7, 13] [((1, 2), false), ((1, 4), false), ((1, 7), true), ((1, 13), false)]) nl ii m L fun r g _ m L => sq (mi co 1 (ZoJ p0 r18) (lf2 [2, 4, 7, 13, 74, 75, 76] [((1, 2), false), ((1, 4), false), ((1, 7), true), ((1, 13), false)]) nl ii m L fun r g _ m L => bk 6 (Zi4 co (Zpa p0 r18) (lf2 [2, 4, 7, 13, 74, 75, 76] [((1, 2), false), ((1, 4), false), ((1, 13), false), ((1, 1130), true)]) m L fun r g _ m L => lo (lpF (ZyO co p0 r18) ii m L (fun r23 m => sq (mi co 1 (ZoY p0 r18 r23) (lf2 [2, 4, 7, 13, 92, 93, 94] [((1, 2), false), ((1, 4), false), ((1, 13), false), ((1, 1130), true)]) nl ii m L fun r g _ m L => bk 8 (Zi4 co (ZpO p0 r18 r23) (lf2 [2, 4, 7, 13, 92, 93, 94] [((1, 2), false), ((1, 4), false), ((1, 13), false), ((1, 1130), true), ((1, 1131), true)]) m L fun r g _ m L => lo (lpF (ZyH co p0 r18 r23) ii m L (fun r28 m => sq (mi co 1 (ZpM p0 r18 r23 r28) (lf2 [4, 7, 13, 110, 111, 112] [((1, 4), false), ((1, 13), false), ((1, 1130), true), ((1, 1131), true)]) nl ii m L fun r g _ m L => bk 10 (Zi4 co (Zog p0 r18 r23 r28) (lf2 [4, 7, 13, 110, 111, 112] [((1, 4), false), ((1, 13), false), ((1, 1130), true), ((1, 1131), true), ((1, 1132), true)]) m L fun r g _ m L => lo (lpF (Zxu co p0 r18 r23 r28) ii m L (fun r33 m => fo co (ZwQ r23 r28 r33) m L fun r g => id))))))))))))))))))))
abbrev E7 : Bool → AV := fun y => vB y
def ZHu (p0 : Scm) (p1 : List Bt) : PT 0 (Bool) := vw .go <| cl (ZIB p0 p1) fun y1 => vw .go <| vw .go <| cl (ZKx p0 p1) fun y2 => vw .go <| vw .go <| vw .go <| cl (ZIs y1.1 y2.1) fun y3 => br ((!y3) || (!decide (y1.2 = y2.2))) (lr E7 (fun _ => []) false) (br (!decide (y1.2 = (0 : Int))) (cl (ZI8) fun y4 => lr E7 (fun _ => []) y4) (vw .go <| cl (ZIB y1.1 p1) fun y5 => vw .go <| vw .go <| vw .go <| clg (decide (y5.2 = (0 : Int))) (ZIs y1.1 y5.1) fun y6 => clg (decide (y5.2 = (0 : Int)) && y6) (ZI8) fun y7 => lr E7 (fun _ => []) ((decide (y5.2 = (0 : Int)) && y6) && y7)))
def ZaT (p0 : Scm) (p1 : List Bt) : Option (Bool) := (ZHu p0 p1).m
theorem K_7 (p0 : Scm) (p1 : List Bt) : KC tp 7 [.agg ((ZeV p0).map .d), vL Zah p1] (ZaT p0 p1) E7 := kc1 Try.func7 Try.ntmps7 tok [.tmp 4] fun C co y m Post L => fo co (ZHu p0 p1) m L fun r g y1 y2 y3 => ⟨id, ⟨fun y4 => id, fun y5 y6 y7 => id⟩⟩
end
end Go.Proofs.Ythagpbkmakocjaa
namespace Go.Proofs.Ythagpbkmakocjaa
set_option linter.all false
open Go Go.Eng Go.ChangeShapes Go.WideShapes Go.ChangeAt Go.RowKit
theorem Zuh {H : Type} (b : List UInt8) : Rows.uptoBulk (DataW.lit (H := H) (.string b)) = b.length + 1 := by simp only [Rows.uptoBulk]
theorem Znj {H : Type} (a b : List (DataW H)) : Rows.uptoBulk (.slice a b) = Rows.uptoBulkAll a + Rows.uptoBulkAll b + 1 := by simp only [Rows.uptoBulk]
theorem Zsz {H : Type} (a : List (DataW H)) : Rows.uptoBulk (.agg a) = Rows.uptoBulkAll a + 1 := by simp only [Rows.uptoBulk]
def ZiW (W : World) (ds : List D) (cs : List Value) (o : Nat) : Prop := ∀ (i : Nat) (d : D), ds[i]? = some d → ∃ c, cs[o + i]? = some c ∧ RepD W (· < W.heap.size) d c
def Zjl (W : World) (ds : List D) (cs : List Value) : Prop := ds.length = cs.length ∧ ZiW W ds cs 0
theorem ZiW.app {W : World} {ds es : List D} {cs : List Value} {o : Nat} (h : ZiW W ds cs o) (k : ZiW W es cs (o + ds.length)) : ZiW W (ds ++ es) cs o := fun i d hi => by
 rcases Nat.lt_or_ge i ds.length with hl | hl
 ·rw [List.getElem?_append_left hl] at hi; exact h i d hi
 ·rw [List.getElem?_append_right hl] at hi
  obtain ⟨c, h1, h2⟩ := k _ d hi
  exact ⟨c, by rw [← h1]; congr 1; omega, h2⟩
theorem ZiW.nil {W : World} {cs : List Value} {o : Nat} : ZiW W [] cs o := fun i d h => by simp at h
theorem Zjl.at {W : World} {ds : List D} {cs : List Value} {o k : Nat} (h : Zjl W ds ((cs.drop o).take k)) : ZiW W ds cs o := fun i d hi => by
 obtain ⟨c, h1, h2⟩ := h.2 i d hi
 rw [Nat.zero_add, List.getElem?_take] at h1
 split at h1
 ·rw [List.getElem?_drop] at h1; exact ⟨c, h1, h2⟩
 ·cases h1
mutual
def bk : D → Nat
 | .int _ _ => 0
 | .bool _ => 0
 | .str s => s.size
 | .list es => Zel es
 | .map _ es => Zel es
def bkL : List D → Nat
 | [] => 0
 | d :: l => bk d + bkL l
def Zel : List (List D) → Nat
 | [] => 0
 | e :: l => bkL e + 1 + Zel l
end
theorem Zoh : ∀ a b : List D, bkL (a ++ b) = bkL a + bkL b
 | [], b => by rw [List.nil_append, bkL, Nat.zero_add]
 | d :: a, b => by rw [List.cons_append, bkL, bkL, Zoh a b, Nat.add_assoc]
theorem Zjn (d : D) : bkL [d] = bk d := by rw [bkL, bkL, Nat.add_zero]
theorem Zbg {α : Type} {e : α → List D} : ∀ l : List α, l.length ≤ Zel (l.map e)
 | [] => Nat.zero_le _
 | x :: l => by have := Zbg (e := e) l; rw [List.map_cons, Zel, List.length_cons]; omega
theorem Zed {α : Type} {e : α → List D} {x : α} : ∀ {l : List α}, x ∈ l → bkL (e x) + 1 ≤ Zel (l.map e)
 | y :: l, h => by
  rw [List.map_cons, Zel]
  cases List.mem_cons.1 h with
  | inl h => subst h; omega
  | inr h => have := Zed (e := e) h; omega
section
variable {H : Type} (enc : TypeId × Value → H) (P : Program) (W : World)
def RdN {α : Type} (n : Nat) (t : TypeId) (e : α → List D) : Prop :=
 ∀ cs x, DataW.trod enc P W 0 (fun _ => true) true n t cs = some x → ∃ v : α, Zjl W (e v) cs ∧ bkL (e v) + 1 ≤ Rows.uptoBulk x.1
end
section
variable {H : Type} {enc : TypeId × Value → H} {P : Program} {W : World} {n : Nat} {t : TypeId}
theorem ZhA (d : DataW H) : 1 ≤ Rows.uptoBulk d := by cases d <;> (try (rename_i l; cases l)) <;> simp [Rows.uptoBulk]
theorem Zc1 {d : D} {c : Value} (h : RepD W (· < W.heap.size) d c) : Zjl W [d] [c] := ⟨rfl, fun i d' hi => by
 cases i with
 | zero => cases hi; exact ⟨c, rfl, h⟩
 | succ i => simp at hi⟩
theorem Zcm {k : IntKind} (ht : P.underlying t = some (.int k)) : RdN enc P W n t (fun v : Int => [.int k v]) := fun cs x hx => by
 obtain ⟨m, rfl, rfl, _⟩ := DataW.trod_int ht hx
 exact ⟨m, Zc1 (.int _ _), ZhA _⟩
theorem Zph (ht : P.underlying t = some .bool) : RdN enc P W n t (fun v : Bool => [.bool v]) := fun cs x hx => by
 obtain ⟨m, rfl, rfl⟩ := DataW.trod_bool ht hx
 exact ⟨m, Zc1 (.bool _), ZhA _⟩
theorem Zcc (ht : P.underlying t = some .string) : RdN enc P W n t (fun v : ByteArray => [.str v]) := fun cs x hx => by
 obtain ⟨m, rfl, rfl, _⟩ := DataW.trod_string ht hx
 refine ⟨m, Zc1 (.str _), ?_⟩
 rw [Zuh, Zjn]
 exact Nat.le_refl _
theorem ZuY {α : Type} {e : α → List D} : ∀ (l : List α) (xs : List (DataW H × List MemPlace)), l.length = xs.length → (∀ (i : Nat) (v : α), l[i]? = some v → ∃ y : DataW H × List MemPlace, xs[i]? = some y ∧ bkL (e v) + 1 ≤ Rows.uptoBulk y.1) → Zel (l.map e) ≤ Rows.uptoBulkAll (xs.map (·.1))
 | [], _, _, _ => Nat.zero_le _
 | x :: l, [], h, _ => by cases h
 | x :: l, y :: xs, h, k => by
  have := ZuY l xs (Nat.succ.inj h) (fun i v hi => k (i + 1) v hi)
  obtain ⟨y', h1, h2⟩ := k 0 x rfl
  cases h1
  rw [List.map_cons, List.map_cons, Zel]
  simp only [Rows.uptoBulkAll]
  omega
theorem Zoq {α : Type} {Q : Nat → α → Prop} : ∀ (len : Nat), (∀ i, i < len → ∃ v, Q i v) → ∃ l : List α, l.length = len ∧ ∀ i v, l[i]? = some v → Q i v
 | 0, _ => ⟨[], rfl, fun i v h => by simp at h⟩
 | len + 1, h => by
  obtain ⟨l, h1, h2⟩ := Zoq len (fun i hi => h i (by omega))
  obtain ⟨v, hv⟩ := h len (by omega)
  refine ⟨l ++ [v], by simp [h1], fun i w hi => ?_⟩
  rcases Nat.lt_or_ge i l.length with hl | hl
  ·rw [List.getElem?_append_left hl] at hi; exact h2 i w hi
  ·rw [List.getElem?_append_right hl] at hi
   have : i - l.length = 0 := by
    rcases Nat.eq_zero_or_pos (i - l.length) with h0 | h0
    ·exact h0
    ·rw [List.getElem?_eq_none (by simp; omega)] at hi; cases hi
   rw [this] at hi
   cases hi
   have : i = len := by omega
   subst this
   exact hv
theorem ZaN {α : Type} {e : TypeId} {enc' : α → List D} {sz : Nat} (ht : P.underlying t = some (.slice e)) (hsz : P.cellsOf e = sz) (hs0 : sz ≠ 0) (hl : ∀ x, (enc' x).length = sz) (h : ∀ m, m < n → RdN enc P W m e enc') :
  RdN enc P W n t (fun l : List α => [.list (l.map enc')]) := fun cs x hx => by
 rcases DataW.trod_slice ht hx with ⟨rfl, rfl⟩ | ⟨a, len, cap, elems, rest, m, rfl, rfl, rfl, hb, hlc, hcm, hel, hi, _, _⟩
 ·exact ⟨[], Zc1 .nil, ZhA _⟩
 ·have each : ∀ i, i < len → ∃ v : α, ∃ y cs', elems[i]? = some y ∧ W.cells? 0 (a.add (i * sz)) sz = some cs' ∧ Zjl W (enc' v) cs' ∧ bkL (enc' v) + 1 ≤ Rows.uptoBulk y.1 := fun i hlt => by
   have h1 := hi i hlt
   rw [List.getElem?_eq_getElem (by omega), hsz] at h1
   obtain ⟨cs', h2, h3⟩ := Option.bind_eq_some_iff.1 h1
   obtain ⟨v, h4, h5⟩ := h m (by omega) cs' _ h3
   exact ⟨v, _, cs', List.getElem?_eq_getElem (by omega), h2, h4, h5⟩
  obtain ⟨l, hll, hlq⟩ := Zoq len each
  have cell : ∀ (i j : Nat) (e' : List D) (x : D), (l.map enc')[i]? = some e' → e'[j]? = some x → ∃ c, W.cell? (a.add (i * sz + j)) = some c ∧ RepD W (· < W.heap.size) x c := fun i j e' x hi' hj => by
   rw [List.getElem?_map] at hi'
   cases hv : l[i]? with
   | none => rw [hv] at hi'; cases hi'
   | some v =>
    rw [hv] at hi'
    cases hi'
    obtain ⟨y, cs', g1, g2, g3, g4⟩ := hlq i v hv
    obtain ⟨c, g5, g6⟩ := g3.2 j x hj
    rw [Nat.zero_add] at g5
    obtain ⟨_, g7, g8⟩ := World.cells?_some g2
    have hjl : j < sz := by
     rw [← hl v]
     rcases Nat.lt_or_ge j (enc' v).length with h | h
     ·exact h
     ·rw [List.getElem?_eq_none h] at hj; cases hj
    refine ⟨c, ?_, g6⟩
    rw [← Go.Eng.add_add, g8 j hjl, g5]
  refine ⟨l, Zc1 ?_, ?_⟩
  ·have hlen : (l.map enc').length = len := by simp [hll]
   have := RepD.list (w := W) (S := (· < W.heap.size)) (l.map enc') a sz cap (fun i j => (W.cell? (a.add (i * sz + j))).getD undef) (fun hne => by
     have h0 : 0 < len := by
      rcases Nat.eq_zero_or_pos len with h | h
      ·exact absurd (List.eq_nil_of_length_eq_zero (hlen.trans h)) hne
      ·exact h
     obtain ⟨v, y, cs', _, g2, _⟩ := each 0 h0
     have := World.cells?_block g2 (by omega)
     rw [Nat.zero_mul] at this
     rw [← Go.Eng.block_add a 0]; exact this)
    (by rw [hlen]; exact hlc) (fun e' he => by obtain ⟨y, _, rfl⟩ := List.mem_map.1 he; exact hl y)
    (fun i j e' x hi' hj => by obtain ⟨c, g1, _⟩ := cell i j e' x hi' hj; rw [g1]; rfl)
    (fun i j e' x hi' hj => by obtain ⟨c, g1, g2⟩ := cell i j e' x hi' hj; rw [g1]; exact g2)
   rw [hlen] at this
   exact this
  ·rw [Znj, Zjn, bk]
   have := ZuY (e := enc') l elems (by omega) (fun i v hv => by
    obtain ⟨y, cs', g1, g2, g3, g4⟩ := hlq i v hv
    exact ⟨y, g1, g4⟩)
   omega
def FB (xs : List (DataW H × List MemPlace)) (i : Nat) : Nat := Rows.uptoBulkAll ((xs.drop i).map (·.1))
theorem ZaA {xs : List (DataW H × List MemPlace)} {i : Nat} {a b : List D} (h : bkL a + 1 + FB xs (i + 1) ≤ FB xs i) (k : bkL b ≤ FB xs (i + 1)) : bkL (a ++ b) ≤ FB xs i := by
 rw [Zoh]; omega
theorem Zcn {xs : List (DataW H × List MemPlace)} {i : Nat} {a : List D} (h : bkL a + 1 + FB xs (i + 1) ≤ FB xs i) : bkL a ≤ FB xs i := by omega
theorem Zcp {xs : List (DataW H × List MemPlace)} {a : List D} (h : bkL a ≤ FB xs 0) : bkL a + 1 ≤ Rows.uptoBulk (.agg (xs.map (·.1))) := by
 rw [Zsz]; exact Nat.succ_le_succ h
theorem ZtI {α : Type} {e : α → List D} {m i : Nat} {t' : TypeId} {piece : List Value} {xs : List (DataW H × List MemPlace)} (h : RdN enc P W m t' e) (hf : DataW.trod enc P W 0 (fun _ => true) true m t' piece = xs[i]?) (hi : i < xs.length) :
  ∃ v, Zjl W (e v) piece ∧ bkL (e v) + 1 + FB xs (i + 1) ≤ FB xs i := by
 rw [List.getElem?_eq_getElem hi] at hf
 obtain ⟨v, h1, h2⟩ := h _ _ hf
 refine ⟨v, h1, ?_⟩
 unfold FB
 rw [List.drop_eq_getElem_cons hi, List.map_cons]
 simp only [Rows.uptoBulkAll]
 omega
theorem rf {α : Type} {e : α → List D} {m i k : Nat} {t' : TypeId} {piece : List Value} {xs : List (DataW H × List MemPlace)} (h : RdN enc P W m t' e) (hf : DataW.trod enc P W 0 (fun _ => true) true m t' piece = xs[i]?) (hx : xs.length = k) (hi : Nat.blt i k = true := by kernel_rfl) :
  ∃ v, Zjl W (e v) piece ∧ bkL (e v) + 1 + FB xs (i + 1) ≤ FB xs i := ZtI h hf (by rw [hx]; exact Nat.le_of_ble_eq_true hi)
theorem ZpS {α : Type} {e e' : α → List D} (he : ∀ x, e x = e' x) (h : RdN enc P W n t e') : RdN enc P W n t e := fun cs x hx => by
 obtain ⟨v, h1, h2⟩ := h cs x hx
 exact ⟨v, by rw [he]; exact h1, by rw [he]; exact h2⟩
theorem Zy5 {α : Type} {e : α → List D} {fs : Array Field} {r : Reach} {base : Nat} {v : Value} {d : DataW H} {p : List MemPlace} (rd : ∀ n, RdN enc P W n t e) (ht : P.underlying t = some (.struct fs)) (hv : Value.okWide P W r base t v)
  (h : DataW.Trod enc P W 0 (fun _ => true) true t v d p) : ∃ x : α, (∀ m l, RepA W (· < W.heap.size) (fun _ => ⟨0, false, 0, 0, []⟩) m l (.agg ((e x).map .d)) v) ∧ bkL (e x) + 1 ≤ Rows.uptoBulk d := by
 obtain ⟨cs, rfl, _⟩ := okWide_struct ht hv
 obtain ⟨n, hn⟩ := h
 obtain ⟨x, h1, h2⟩ := rd n _ _ hn
 have hl : (e x).length = cs.size := by rw [h1.1]; simp [Value.cells]
 have key : ∀ (i : Nat) (c : Value) , cs[i]? = some c → ∃ d, (e x)[i]? = some d ∧ RepD W (· < W.heap.size) d c := fun i c hc => by
  have hlt : i < (e x).length := by
   rw [hl]
   rcases Nat.lt_or_ge i cs.size with h | h
   ·exact h
   ·rw [Array.getElem?_eq_none h] at hc; cases hc
  obtain ⟨c', h3, h4⟩ := h1.2 i _ (List.getElem?_eq_getElem hlt)
  have : c' = c := by
   rw [Nat.zero_add] at h3
   have : cs.toList[i]? = some c' := h3
   rw [Array.getElem?_toList, hc] at this
   exact (Option.some.inj this).symm
  subst this
  exact ⟨_, List.getElem?_eq_getElem hlt, h4⟩
 refine ⟨x, fun m l => .agg _ _ (by rw [List.length_map, hl]) (fun i c hc => ?_) (fun i y c hy hc => ?_), h2⟩
 ·obtain ⟨d, _, h3⟩ := key i c hc; exact h3.one
 ·obtain ⟨d, h3, h4⟩ := key i c hc
  rw [List.getElem?_map, h3] at hy
  cases hy
  exact .d _ _ h4
theorem ZpC {α : Type} {e : α → List D} {u : TypeId} {r : Reach} {base : Nat} {v : Value} {d : DataW H} {p : List MemPlace} (rd : ∀ n, RdN enc P W n t (fun l : List α => [.list (l.map e)])) (ht : P.underlying t = some (.slice u)) (hv : Value.okWide P W r base t v)
  (h : DataW.Trod enc P W 0 (fun _ => true) true t v d p) : ∃ x : List α, (∀ Hp m l, RepA W (· < W.heap.size) Hp m l (.d (.list (x.map e))) v) ∧ bk (.list (x.map e)) + 1 ≤ Rows.uptoBulk d := by
 obtain ⟨a, len, cap, rfl⟩ := okWide_slice ht hv
 obtain ⟨n, hn⟩ := h
 obtain ⟨x, h1, h2⟩ := rd n _ _ hn
 obtain ⟨c, h3, h4⟩ := h1.2 0 _ rfl
 have : c = .slice a len cap := by simpa [Value.cells] using h3.symm
 subst this
 exact ⟨x, fun _ _ _ => .d _ _ h4, by rw [← Zjn]; exact h2⟩
def Hp0 : Hp := fun _ => ⟨0, false, 0, 0, []⟩
theorem ok0 (m : Mu) : Ok 0 Hp0 m (· < W.heap.size) W := ⟨fun _ h => h, fun _ _ h => (by cases h), fun _ _ h => (by cases h), fun _ _ _ _ h => (by cases h), fun _ _ h => (by cases h), ⟨fun _ _ h => (by cases h), fun _ _ h => (by cases h), fun _ _ _ _ h => (by cases h)⟩⟩
def ZIc (w : World) (S : Nat → Prop) (Hp : Hp) (m : Mu) (l : Nat) : List AV → List Value → Prop
 | [], [] => True
 | x :: xs, v :: vs => RepA w S Hp m l x v ∧ ZIc w S Hp m l xs vs
 | _, _ => False
theorem Zyp {w : World} {S : Nat → Prop} {Hp : Hp} {m : Mu} {l : Nat} {xs : List AV} {vs : List Value} (h : ZIc w S Hp m l xs vs) : ZdF w S Hp m l xs vs.toArray := by
 suffices hh : xs.length = vs.length ∧ ∀ (i : Nat) (x : AV) (v : Value), xs[i]? = some x → vs[i]? = some v → RepA w S Hp m l x v by
  exact ⟨by simpa using hh.1, fun i x v hx hv => hh.2 i x v hx (by simpa using hv)⟩
 induction xs generalizing vs with
 | nil => cases vs with
  | nil => exact ⟨rfl, fun i x v h => by simp at h⟩
  | cons _ _ => exact h.elim
 | cons x xs ih => cases vs with
  | nil => exact h.elim
  | cons v vs =>
   obtain ⟨h1, h2⟩ := ih h.2
   refine ⟨by simp [h1], fun i y u hy hu => ?_⟩
   cases i with
   | zero => simp at hy hu; subst hy; subst hu; exact h.1
   | succ i => exact h2 i y u (by simpa using hy) (by simpa using hu)
theorem ZqA {f : Func} {s : ChangeSpec} {W' : World} {args : Array Value} {ds gs : List (DataW H)} {before : List MemPlace} {u : TypeId} (hW : DataW.Whole enc P f.params.toList s.vars false W args.toList ds gs before) (hvars : s.vars = [])
  (hlaid : laidOutB P = true) (hrd : ∀ t ∈ f.params.toList, P.readableRec t = true ∧ t < P.types.size) (hres : f.resultTypes.toList = [u]) (hu : P.underlying u = some .bool)
  (hfn : s.fn H (ds ++ gs) = { results := [.lit (.bool true)], args := ds }) (hb : Below W.heap.size W W') : s.post enc P f false true false false W args (.bool true) W' := by
 obtain ⟨p, q, hA, hV, rfl, hfz, hnd⟩ := id hW
 rw [hvars] at hV
 obtain ⟨rfl, rfl⟩ := trodVars_none hV
 refine ⟨ds, [], p ++ [], [], p, [], hW, ?_, ?_, ?_, ?_, fun h => by cases h⟩
 ·rw [hfn, hres]
  have : (Value.bool true).resultList f.resultTypes.size = [.bool true] := by
   have : f.resultTypes.size = 1 := by rw [← Array.length_toList, hres]; rfl
   rw [this]; rfl
  rw [this]
  exact trodAll_cons_mk (shut_bool hu _) trodAll_mk0
 ·rw [hfn]
  have key : ∀ (ts : List TypeId) (vs : List Value) (es : List (DataW H)) (ps : List MemPlace), (∀ t ∈ ts, P.readableRec t = true ∧ t < P.types.size) → DataW.TrodAll enc P W 0 (fun _ => true) true ts vs es ps →
    DataW.TrodAll enc P W' 0 (fun b => decide (b < W.heap.size)) true ts vs es ps := by
   intro ts
   induction ts with
   | nil => intro vs es ps _ h; obtain ⟨rfl, rfl, rfl⟩ := trodAll_nil h; exact trodAll_mk0
   | cons t ts ih =>
    intro vs es ps hr h
    have hlt := DataW.TrodAll.lt h
    obtain ⟨v, vs1, d, ds1, a, b, rfl, rfl, rfl, h1, h2⟩ := trodAll_cons h
    exact trodAll_cons_mk (Below.trod hlaid (hr t (by simp)).1 (hr t (by simp)).2 h1 hb (fun x hx => hlt x (List.mem_append_left _ hx))) (ih _ _ _ (fun t ht => hr t (by simp [ht])) h2)
  exact key _ _ _ _ hrd hA
 ·rw [hvars, hfn]; exact rfl
 ·refine ⟨hb.os, hb.output, fun i hi => ?_⟩
  rw [hb.block i hi]
  cases W.heap[i]? with
  | none => rfl
  | some o => cases o <;> simp
end
end Go.Proofs.Ythagpbkmakocjaa
