import Derived.Test.YtchkcemlglpobaaGreatCl25
import Derived.Test.YtchkcemlglpobaaGreatCl12
import Derived.Test.YtchkcemlglpobaaGreatRows
import Derived.WalkKit
import Derived.ProofKit
import Derived.OpenShut
import Derived.Carry
import Derived.Deep.DeepHandedRow
import Derived.Test.YtchkcemlglpobaaGreatCl00
namespace Go.Proofs.YtchkcemlglpobaaGreat
set_option maxRecDepth 100000
set_option linter.all false
open Go Go.Eng
abbrev Zt0 : List (Key × Bool) := [((1, 2), false), ((1, 15), true)]
abbrev Zs4 (p0 : Scm) : Key × Blk := ((1, 2), ⟨0, true, 26, 3, [vL ZbG p0.messages, vL Zca p0.enums, vL ZcU p0.services]⟩)
abbrev ZA7 (r2 : List Int) : Key × Blk := ((1, 15), ⟨0, true, 3, 1, Zad Ze7 r2⟩)
abbrev E64 : List Int → AV := fun y => vL Ze7 y
def ZBH (p0 : Scm) (p1 : List Int) : Nat × List Int → St := fun (v1, r2) => mkS [(1, vL Ze7 p1), (2, .ptr (1, 2) 0 0), (5, .ref (1, 15) 0 0 r2.length), (6, vN v1)] [(Zs4 p0), (ZA7 r2)]
def ZEI : List Int → Nat × St := fun r12 => (0, mkS [(5, .ref (1, 15) 0 0 r12.length)] [((1, 15), ⟨0, true, 3, 1, Zad Ze7 r12⟩)])
def Zob (p0 : Scm) (p1 : List Int) (v1 : Nat) (r2 : List Int) : Int × Nat → St := fun (v3, v4) => mkS [(1, vL Ze7 p1), (2, .ptr (1, 2) 0 0), (5, .ref (1, 15) 0 0 r2.length), (6, vN v1), (7, vI v3), (8, vN v4)] [(Zs4 p0), (ZA7 r2)]
def ZBr (p0 : Scm) (p1 : List Int) (v1 : Nat) (r2 : List Int) : Int → Nat × St := fun v11 => (2, mkS [(1, vL Ze7 p1), (2, .ptr (1, 2) 0 0), (5, .ref (1, 15) 0 0 r2.length), (6, vN v1), (7, vI v11)] [(Zs4 p0), (ZA7 r2)])
def ZhZ (p0 : Scm) (p1 : List Int) (v1 : Nat) (r2 : List Int) (v3 : Int) (v4 : Nat) : PT 0 (Lv (Int × Nat) (Int) (List Int)) := vw .go <| ix p0.messages v1 fun e5 => vz (eqL e5.fields) <| br (decide ((v4 : Int) < (e5.fields.length : Int)) && decide ((0 : Int) ≤ v3)) (vw .go <| ix p0.messages v1 fun e6 => ix e6.fields v4 fun e7 => vw .go <| vw .go <| vw .go <| br ((!decide (e7.card = (1 : Int))) || (!decide (e7.type.kind = (10 : Int)))) (vs (wa v4 1) <| vz (fl r2) <| ln (Zob p0 p1 v1 r2) (v3, v4 + 1)) (vw .go <| vw .go <| cl (ZKW p0 e7.type.name) fun y8 => vw .go <| ixg (decide ((0 : Int) ≤ y8.2)) p1 y8.2 fun e9 => br (decide ((0 : Int) ≤ y8.2) && decide (e9 = (0 : Int))) (vs (wa v4 1) <| vz (fl r2) <| ln (Zob p0 p1 v1 r2) ((-1), v4 + 1)) (br (decide ((0 : Int) ≤ y8.2)) (ixi p1 y8.2 fun e10 => vs (wa v4 1) <| vz (fl r2) <| ln (Zob p0 p1 v1 r2) ((mmI true v3 e10), v4 + 1)) (vs (wa v4 1) <| vz (fl r2) <| ln (Zob p0 p1 v1 r2) (v3, v4 + 1))))) (vz (fl r2) <| lxe (ZBr p0 p1 v1 r2) v3)
def ZfJ (p0 : Scm) (p1 : List Int) (v1 : Nat) (r2 : List Int) : Int × Nat → Option (Lv (Int × Nat) (Int) (List Int)) := fun (v3, v4) => (ZhZ p0 p1 v1 r2 v3 v4).m
def ZtX (p0 : Scm) (p1 : List Int) (v1 : Nat) (r2 : List Int) (v11 : Int) : PT 0 (Lv (Nat × List Int) (List Int) (List Int)) := vs (wa v1 1) <| vz (fl (r2.set v1 (v11 + 1))) <| ln (ZBH p0 p1) (v1 + 1, r2.set v1 (v11 + 1))
def Zsi (p0 : Scm) (p1 : List Int) (v1 : Nat) (r2 : List Int) (v11 : Int) : PT 0 (Lv (Nat × List Int) (List Int) (List Int)) := vs (wi (v11 + 1)) <| vs (ir v1 r2.length 1) <| vs (st r2 v1 ((v11 + 1) : Int)) <| rn 5 15 r2.length (r2.set v1 (v11 + 1)) <| vz (fl (r2.set v1 (v11 + 1))) <| lc (mkS [(1, vL Ze7 p1), (2, .ptr (1, 2) 0 0), (5, .ref (1, 15) 0 0 (r2.set v1 (v11 + 1)).length), (6, vN v1)] [(Zs4 p0), ((1, 15), ⟨0, true, 3, 1, Zad Ze7 (r2.set v1 (v11 + 1))⟩)]) ((ZtX p0 p1 v1 r2 v11).m)
def Zup (p0 : Scm) (p1 : List Int) (v1 : Nat) (r2 : List Int) : PT 0 (Lv (Nat × List Int) (List Int) (List Int)) := vz (fl r2) <| lc (mkS [(1, vL Ze7 p1), (2, .ptr (1, 2) 0 0), (5, .ref (1, 15) 0 0 r2.length), (6, vN v1), (7, vI 0), (8, vI 0)] [(Zs4 p0), (ZA7 r2)]) ((Zaf (ZfJ p0 p1 v1 r2) big (0, 0)).bind (Sum.elim (fun v11 => (Zsi p0 p1 v1 r2 v11).m) (fun z => some (.rt z))))
def Zuq (p0 : Scm) (p1 : List Int) (v1 : Nat) (r2 : List Int) : PT 0 (Lv (Nat × List Int) (List Int) (List Int)) := vz (fl r2) <| lc (mkS [(1, vL Ze7 p1), (2, .ptr (1, 2) 0 0), (5, .ref (1, 15) 0 0 r2.length), (6, vN v1), (7, vI 0)] [(Zs4 p0), (ZA7 r2)]) ((Zup p0 p1 v1 r2).m)
def Zsk (p0 : Scm) (p1 : List Int) (v1 : Nat) (r2 : List Int) : PT 0 (Lv (Nat × List Int) (List Int) (List Int)) := vz (eqN r2.length) <| br (decide ((v1 : Int) < (r2.length : Int))) (vz (fl r2) <| lc (mkS [(1, vL Ze7 p1), (2, .ptr (1, 2) 0 0), (5, .ref (1, 15) 0 0 r2.length), (6, vN v1)] [(Zs4 p0), (ZA7 r2)]) ((Zuq p0 p1 v1 r2).m)) (vz (fl r2) <| lxe (ZEI) r2)
def Zpz (p0 : Scm) (p1 : List Int) : Nat × List Int → Option (Lv (Nat × List Int) (List Int) (List Int)) := fun (v1, r2) => (Zsk p0 p1 v1 r2).m
def ZAu (r12 : List Int) : PT 0 (List Int) := vz (fr r12) <| lr E64 (fun _ => []) r12
def Zw9 (p0 : Scm) (p1 : List Int) : PT 0 (List Int) := vz (fl (List.replicate p0.messages.length (0 : Int))) <| lc (mkS [(1, vL Ze7 p1), (2, .ptr (1, 2) 0 0), (5, .ref (1, 15) 0 0 (List.replicate p0.messages.length (0 : Int)).length), (6, vI 0)] [(Zs4 p0), ((1, 15), ⟨0, true, 3, 1, Zad Ze7 (List.replicate p0.messages.length (0 : Int))⟩)]) ((Zaf (Zpz p0 p1) big (0, List.replicate p0.messages.length (0 : Int))).bind (Sum.elim (fun r12 => (ZAu r12).m) some))
def ZAN (p0 : Scm) (p1 : List Int) : PT 0 (List Int) := vw .go <| vz (eqL p0.messages) <| ms p0.messages.length (0 : Int) [vI 0] (by first | rfl | kernel_rfl) <| vz (fl (List.replicate p0.messages.length (0 : Int))) <| lc (mkS [(1, vL Ze7 p1), (2, .ptr (1, 2) 0 0), (5, .ref (1, 15) 0 0 (List.replicate p0.messages.length (0 : Int)).length)] [(Zs4 p0), ((1, 15), ⟨0, true, 3, 1, Zad Ze7 (List.replicate p0.messages.length (0 : Int))⟩)]) ((Zw9 p0 p1).m)
def Za7 (p0 : Scm) (p1 : List Int) : Option (List Int) := (ZAN p0 p1).m
theorem Zzg {C : Cx} (co : CO C 0) (p0 : Scm) (p1 : List Int) (v1 : Nat) (r2 : List Int) : KL Tryz.prog (lkT tl) 86 C (pa [0, 0, 1, 0, 1, 0, 0, 1, 0, 0, 1, 0, 1, 1] (Zai Tryz.f64)) [.tmp 4] 0 (Zob p0 p1 v1 r2) (ZBr p0 p1 v1 r2) E64 (fun _ => []) (ZfJ p0 p1 v1 r2) := fun (v3, v4) _ hm Q Post hQ hL => Zbz co tok tmo (ZhZ p0 p1 v1 r2 v3 v4) (lf2 [1, 2, 5, 6, 7, 8] Zt0) (lf2 [1, 2, 5, 6, 7] Zt0) hQ hm hL fun r g => fun e5 => ⟨fun e6 => fun e7 => ⟨id, fun y8 => fun e9 => ⟨id, ⟨fun e10 => id, id⟩⟩⟩, id⟩
theorem Zx3 {C : Cx} (co : CO C 0) (p0 : Scm) (p1 : List Int) : KL Tryz.prog (lkT tl) 86 C (pa [0, 0, 1, 0, 1, 1] (Zai Tryz.f64)) [.tmp 4] 0 (ZBH p0 p1) (ZEI) E64 (fun _ => []) (Zpz p0 p1) := fun (v1, r2) _ hm Q Post hQ hL => Zap co tok tmo 1 (Zsk p0 p1 v1 r2) (lf2 [1, 2, 5, 6] Zt0) (lf2 [5] [((1, 15), true)]) hQ hm hL fun r g => ⟨fun _ hm hL => sq (bk 1 (Zap co tok tmo 1 (Zuq p0 p1 v1 r2) (lf2 [1, 2, 5, 6, 7] Zt0) nl hQ hm hL fun r g => fun _ hm hL => sq (Zap co tok tmo 1 (Zup p0 p1 v1 r2) (lf2 [1, 2, 5, 6, 7, 8] Zt0) nl hQ hm hL fun r g => fun _ hm hL => bk 2 (lo (lpL (Zzg co p0 p1 v1 r2) hQ hm hL (fun v11 hm => Zbz co tok tmo (Zsi p0 p1 v1 r2 v11) (lf2 [1, 2, 5, 6] Zt0) nl hQ hm hL fun r g => fun _ hm hL => Zbz co tok tmo (ZtX p0 p1 v1 r2 v11) (lf2 [1, 2, 5, 6] Zt0) nl hQ hm hL fun r g => id)))))), id⟩
theorem ZLL (p0 : Scm) (p1 : List Int) : KC Tryz.prog 64 [.agg ((Zb4 p0).map .d), vL Ze7 p1] (Za7 p0 p1) E64 := kc1 Tryz.func64 Tryz.ntmps64 tok [.tmp 4] fun C co y hm Post hL => Zap co tok tmo 2 (ZAN p0 p1) (lf2 [1, 2, 5] Zt0) nl (fun _ h => h) hm hL fun r g => fun _ hm hL => sq (Zap co tok tmo 1 (Zw9 p0 p1) (lf2 [1, 2, 5, 6] Zt0) nl (fun _ h => h) hm hL fun r g => fun _ hm hL => bk 0 (lo (lpF (Zx3 co p0 p1) (fun _ h => h) hm hL (fun r12 hm => Zax co tok tmo (ZAu r12) hm hL fun r g => id))))
abbrev ZG6 (p0 : Scm) : Key × Blk := ((1, 2), ⟨0, true, 26, 3, [vL ZbG p0.messages, vL Zca p0.enums, vL ZcU p0.services]⟩)
abbrev E27 : Int → AV := fun y => vI y
def ZCS (p0 : Scm) (y1 : Msg × Int) : List Int × Nat → St := fun (v2, v3) => mkS [(2, .ptr (1, 2) 0 0), (6, vI y1.2), (7, vL Ze7 v2), (8, vN v3)] [(ZG6 p0)]
def ZFB (y1 : Msg × Int) : List Int → Nat × St := fun v5 => (0, mkS [(6, vI y1.2), (7, vL Ze7 v5)] [])
def ZsO (p0 : Scm) (y1 : Msg × Int) (v2 : List Int) (v3 : Nat) : PT 0 (Lv (List Int × Nat) (List Int) (Int)) := vw .go <| vz (eqL p0.messages) <| br (decide ((v3 : Int) < (p0.messages.length : Int))) (vw .go <| cl (ZLL p0 v2) fun y4 => vs (wa v3 1) <| ln (ZCS p0 y1) (y4, v3 + 1)) (lxe (ZFB y1) v2)
def Zo8 (p0 : Scm) (y1 : Msg × Int) : List Int × Nat → Option (Lv (List Int × Nat) (List Int) (Int)) := fun (v2, v3) => (ZsO p0 y1 v2 v3).m
def ZrV (y1 : Msg × Int) (v5 : List Int) : PT 0 (Int) := ixi v5 y1.2 fun e6 => lr E27 (fun _ => []) e6
def Zt1 (p0 : Scm) (y1 : Msg × Int) : PT 0 (Int) := vw (.frz 20 [(7, ((List.replicate p0.messages.length (0 : Int)).map Ze7))] []) <| vz (fz (List.replicate p0.messages.length (0 : Int))) <| lc (mkS [(2, .ptr (1, 2) 0 0), (6, vI y1.2), (7, vL Ze7 (List.replicate p0.messages.length (0 : Int))), (8, vI 0)] [(ZG6 p0)]) ((Zaf (Zo8 p0 y1) big (List.replicate p0.messages.length (0 : Int), 0)).bind (Sum.elim (fun v5 => (ZrV y1 v5).m) some))
def ZsD (p0 : Scm) (y1 : Msg × Int) : PT 0 (Int) := vz (fl (List.replicate p0.messages.length (0 : Int))) <| lc (mkS [(2, .ptr (1, 2) 0 0), (6, vI y1.2), (7, .ref (1, 20) 0 0 (List.replicate p0.messages.length (0 : Int)).length), (8, vI 0)] [(ZG6 p0), ((1, 20), ⟨0, true, 3, 1, Zad Ze7 (List.replicate p0.messages.length (0 : Int))⟩)]) ((Zt1 p0 y1).m)
def Zui (p0 : Scm) (p1 : ByteArray) : PT 0 (Int) := vw .go <| cl (ZKW p0 p1) fun y1 => vw .go <| br (decide (y1.2 < (0 : Int))) (lr E27 (fun _ => []) 0) (vw .go <| vz (eqL p0.messages) <| ms p0.messages.length (0 : Int) [vI 0] (by first | rfl | kernel_rfl) <| vz (fl (List.replicate p0.messages.length (0 : Int))) <| lc (mkS [(2, .ptr (1, 2) 0 0), (6, vI y1.2), (7, .ref (1, 20) 0 0 (List.replicate p0.messages.length (0 : Int)).length)] [(ZG6 p0), ((1, 20), ⟨0, true, 3, 1, Zad Ze7 (List.replicate p0.messages.length (0 : Int))⟩)]) ((ZsD p0 y1).m))
def ZaI (p0 : Scm) (p1 : ByteArray) : Option (Int) := (Zui p0 p1).m
theorem ZyN {C : Cx} (co : CO C 0) (p0 : Scm) (y1 : Msg × Int) : KL Tryz.prog (lkT tl) 35 C (pa [0, 0, 1, 0, 1, 1, 1, 1] (Zai Tryz.f27)) [.tmp 4] 0 (ZCS p0 y1) (ZFB y1) E27 (fun _ => []) (Zo8 p0 y1) := fun (v2, v3) _ hm Q Post hQ hL => Zbz co tok tmo (ZsO p0 y1 v2 v3) (lf2 [2, 6, 7, 8] kb3) (lf1 [6, 7]) hQ hm hL fun r g => ⟨fun y4 => id, id⟩
theorem ZLN (p0 : Scm) (p1 : ByteArray) : KC Tryz.prog 27 [.agg ((Zb4 p0).map .d), vS p1] (ZaI p0 p1) E27 := kc1 Tryz.func27 Tryz.ntmps27 tok [.tmp 4] fun C co y hm Post hL => Zap co tok tmo 4 (Zui p0 p1) (lf2 [2, 6, 7] [((1, 2), false), ((1, 20), true)]) nl (fun _ h => h) hm hL fun r g => fun y1 => ⟨id, fun _ hm hL => sq (Zap co tok tmo 1 (ZsD p0 y1) (lf2 [2, 6, 7, 8] [((1, 2), false), ((1, 20), true)]) nl (fun _ h => h) hm hL fun r g => fun _ hm hL => bk 0 (ZrL co (Zt1 p0 y1) (lf2 [2, 6, 7, 8] kb3) hm hL fun r g => fun _ hm hL => lo (lpF (ZyN co p0 y1) (fun _ h => h) hm hL (fun v5 hm => Zax co tok tmo (ZrV y1 v5) hm hL fun r g => fun e6 => id))))⟩
abbrev ZGC : Key × Blk := ((1, 4), ⟨0, true, 49, 5, [vS ⟨#[]⟩, .e0, .e0, .e0, .e0]⟩)
abbrev ZIS (p0 : Scm) : Key × Blk := ((1, 2), ⟨0, true, 26, 3, [vL ZbG p0.messages, vL Zca p0.enums, vL ZcU p0.services]⟩)
abbrev E17 : Msg × Bool → AV := fun y => .tup [.agg ((ZbG y.1).map .d), vB y.2]
def ZCM (p0 : Scm) (p1 : ByteArray) : Nat → St := fun v1 => mkS [(1, vS p1), (2, .ptr (1, 2) 0 0), (4, .ptr (1, 4) 0 0), (6, vN v1)] [(ZIS p0), ZGC]
def ZFc : Unit → Nat × St := fun _ => (0, mkS [(4, .ptr (1, 4) 0 0)] [ZGC])
def Zs6 (p0 : Scm) (p1 : ByteArray) (v1 : Nat) : PT 0 (Lv (Nat) (Unit) (Msg × Bool)) := vw .go <| vz (eqL p0.messages) <| br (decide ((v1 : Int) < (p0.messages.length : Int))) (vw .go <| ix p0.messages v1 fun e2 => br (decide (e2.name = p1)) (vw .go <| ix p0.messages v1 fun e3 => vw .go <| lrt E17 (fun _ => []) (e3, true)) (vs (wa v1 1) <| ln (ZCM p0 p1) (v1 + 1))) (lxe (ZFc) ())
def Zp6 (p0 : Scm) (p1 : ByteArray) : Nat → Option (Lv (Nat) (Unit) (Msg × Bool)) := fun v1 => (Zs6 p0 p1 v1).m
def ZAy : PT 0 (Msg × Bool) := vw .go <| lr E17 (fun _ => []) ((.mk ⟨#[]⟩ [] [] [] [] : Msg), false)
def ZxD (p0 : Scm) (p1 : ByteArray) : PT 0 (Msg × Bool) := lc (mkS [(1, vS p1), (2, .ptr (1, 2) 0 0), (4, .ptr (1, 4) 0 0), (6, vI 0)] [(ZIS p0), ZGC]) ((Zaf (Zp6 p0 p1) big 0).bind (Sum.elim (fun _ => (ZAy).m) some))
def ZzP (p0 : Scm) (p1 : ByteArray) : PT 0 (Msg × Bool) := lc (mkS [(1, vS p1), (2, .ptr (1, 2) 0 0), (4, .ptr (1, 4) 0 0)] [(ZIS p0), ZGC]) ((ZxD p0 p1).m)
def Za6 (p0 : Scm) (p1 : ByteArray) : Option (Msg × Bool) := (ZzP p0 p1).m
theorem ZzK {C : Cx} (co : CO C 0) (p0 : Scm) (p1 : ByteArray) : KL Tryz.prog (lkT tl) 28 C (pa [0, 0, 1, 0, 1] (Zai Tryz.f17)) [.cell 4 49, .tmp 5] 0 (ZCM p0 p1) (ZFc) E17 (fun _ => []) (Zp6 p0 p1) := fun v1 _ hm Q Post hQ hL => Zbz co tok tmo (Zs6 p0 p1 v1) (lf2 [1, 2, 4, 6] ZBe) (lf2 [4] Zkw) hQ hm hL fun r g => ⟨fun e2 => ⟨fun e3 => id, id⟩, id⟩
theorem ZM6 (p0 : Scm) (p1 : ByteArray) : KC Tryz.prog 17 [.agg ((Zb4 p0).map .d), vS p1] (Za6 p0 p1) E17 := kc1 Tryz.func17 Tryz.ntmps17 tok [.cell 4 49, .tmp 5] fun C co y hm Post hL => Zap co tok tmo 1 (ZzP p0 p1) (lf2 [1, 2, 4] ZBe) nl (fun _ h => h) hm hL fun r g => fun _ hm hL => sq (Zap co tok tmo 1 (ZxD p0 p1) (lf2 [1, 2, 4, 6] ZBe) nl (fun _ h => h) hm hL fun r g => fun _ hm hL => bk 0 (lo (lpF (ZzK co p0 p1) (fun _ h => h) hm hL (fun _ hm => Zax co tok tmo (ZAy) hm hL fun r g => id))))
abbrev E65 : Val → AV := fun y => .agg ((Zay y).map .d)
def ZzT (p0 : Int) : PT 0 (Val) := cl (ZFK p0) fun y1 => br (!y1) (vw .go <| lr E65 (fun _ => []) (.mk 0 0 ⟨#[]⟩ [] [] [] [] : Val)) (vw .go <| lr E65 (fun _ => []) (.mk p0 0 ⟨#[]⟩ [] [] [] [] : Val))
def ZbD (p0 : Int) : Option (Val) := (ZzT p0).m
theorem ZMq (p0 : Int) : KC Tryz.prog 65 [vI p0] (ZbD p0) E65 := kc1 Tryz.func65 Tryz.ntmps65 tok [.cell 2 35] fun C co y hm Post hL => Zax co tok tmo (ZzT p0) hm hL fun r g => fun y1 => ⟨id, id⟩
abbrev ZJY : List (Key × Bool) := [((1, 3), false), ((1, 6), false), ((1, 8), false), ((1, 9), false), ((1, 1085), true)]
abbrev ZE8 : Key × Blk := ((1, 6), ⟨0, true, 35, 7, [vI 0, .d (.int .u64 0), vS ⟨#[]⟩, .e0, .e0, .e0, .e0]⟩)
abbrev ZGI (p0 : Scm) : Key × Blk := ((1, 3), ⟨0, true, 26, 3, [vL ZbG p0.messages, vL Zca p0.enums, vL ZcU p0.services]⟩)
abbrev ZGY (y1 : Msg × Bool) : Key × Blk := ((1, 9), ⟨0, true, 49, 5, [vS y1.1.name, vL ZaH y1.1.fields, vL Zdu y1.1.reserved, vL ZaX y1.1.gone, vL eNt y1.1.notes]⟩)
abbrev ZKN : Key × Blk := ((1, 8), ⟨0, true, 35, 7, [vI 10, .d (.int .u64 0), vS ⟨#[]⟩, .e0, .e0, .e0, .e0]⟩)
abbrev E28 : Val × Int → AV := fun y => .tup [.agg ((Zay y.1).map .d), vI y.2]
def Zt7 (p0 : Scm) (y1 : Msg × Bool) : Int × Nat × List Slt → St := fun (v2, v3, r4) => mkS [(2, vI v2), (3, .ptr (1, 3) 0 0), (6, .ptr (1, 6) 0 0), (8, .ptr (1, 8) 0 0), (9, .ptr (1, 9) 0 0), (11, vN v3)] [(ZGI p0), ZE8, ((1, 8), ⟨0, true, 35, 7, [vI 10, .d (.int .u64 0), vS ⟨#[]⟩, .e0, .e0, .ref (1, 1085) 0 0 r4.length, .e0]⟩), (ZGY y1), ((1, 1085), ⟨0, true, 63, 8, Zad Zar r4⟩)]
def ZCl : Int × List Slt → Nat × St := fun (v8, r9) => (0, mkS [(2, vI v8), (6, .ptr (1, 6) 0 0), (8, .ptr (1, 8) 0 0)] [ZE8, ((1, 8), ⟨0, true, 35, 7, [vI 10, .d (.int .u64 0), vS ⟨#[]⟩, .e0, .e0, .ref (1, 1085) 0 0 r9.length, .e0]⟩), ((1, 1085), ⟨0, true, 63, 8, Zad Zar r9⟩)])
def ZAC (p0 : Scm) (R28 : Scm → ByteArray → Int → Option (Val × Int)) (y1 : Msg × Bool) (v2 : Int) (v3 : Nat) (r4 : List Slt) : PT 0 (Lv (Int × Nat × List Slt) (Int × List Slt) (Val × Int)) := vw .go <| vz (eqL y1.1.fields) <| br (decide ((v3 : Int) < (y1.1.fields.length : Int)) && decide ((0 : Int) ≤ v2)) (vw .go <| ix y1.1.fields v3 fun e5 => vw .go <| vw .go <| br (!decide (e5.card = (1 : Int))) (vs (wa v3 1) <| vz (fl r4) <| ln (Zt7 p0 y1) (v2, v3 + 1, r4)) (vw .go <| cl (ZMq e5.type.kind) fun y6 => vw .go <| vw .go <| br (decide (e5.type.kind = (10 : Int))) (vw .go <| vw .go <| cs Tryz.prog 28 [.agg ((Zb4 p0).map .d), vS e5.type.name, vI v2] [] [] (R28 p0 e5.type.name v2) (fun y => .tup [.agg ((Zay y.1).map .d), vI y.2]) fun y7 => vw .go <| vw .go <| vw .go <| vw .go <| vw .sep <| ap r4 ((.mk e5.num y7.1 : Slt) : Slt) <| vw .go <| vs (wa v3 1) <| vz (fl (r4 ++ ([(.mk e5.num y7.1 : Slt)]))) <| ln (Zt7 p0 y1) (y7.2, v3 + 1, r4 ++ ([(.mk e5.num y7.1 : Slt)]))) (vs (wi (v2 - 1)) <| vw .go <| vw .go <| vw .go <| vw .sep <| ap r4 ((.mk e5.num y6 : Slt) : Slt) <| vw .go <| vs (wa v3 1) <| vz (fl (r4 ++ ([(.mk e5.num y6 : Slt)]))) <| ln (Zt7 p0 y1) ((v2 - 1), v3 + 1, r4 ++ ([(.mk e5.num y6 : Slt)]))))) (vz (fl r4) <| lxe (ZCl) (v2, r4))
def Ztf (p0 : Scm) (R28 : Scm → ByteArray → Int → Option (Val × Int)) (y1 : Msg × Bool) : Int × Nat × List Slt → Option (Lv (Int × Nat × List Slt) (Int × List Slt) (Val × Int)) := fun (v2, v3, r4) => (ZAC p0 R28 y1 v2 v3 r4).m
def ZxZ (v8 : Int) (r9 : List Slt) : PT 0 (Val × Int) := vw .go <| vw .go <| vz (fr r9) <| lr E28 (fun _ => []) ((.mk 10 0 ⟨#[]⟩ [] [] r9 [] : Val), v8)
def Zzs (p0 : Scm) (p2 : Int) (R28 : Scm → ByteArray → Int → Option (Val × Int)) (y1 : Msg × Bool) : PT 0 (Val × Int) := vw (.adc (1, 8) 5 1085 63 8) <| vz (fl ([] : List Slt)) <| lc (mkS [(2, vI (p2 - 1)), (3, .ptr (1, 3) 0 0), (6, .ptr (1, 6) 0 0), (8, .ptr (1, 8) 0 0), (9, .ptr (1, 9) 0 0), (11, vI 0)] [(ZGI p0), ZE8, ((1, 8), ⟨0, true, 35, 7, [vI 10, .d (.int .u64 0), vS ⟨#[]⟩, .e0, .e0, .ref (1, 1085) 0 0 ([] : List Slt).length, .e0]⟩), (ZGY y1), ((1, 1085), ⟨0, true, 63, 8, Zad Zar ([] : List Slt)⟩)]) ((Zaf (Ztf p0 R28 y1) big ((p2 - 1), 0, ([] : List Slt))).bind (Sum.elim (fun (v8, r9) => (ZxZ v8 r9).m) some))
def ZyA (p0 : Scm) (p2 : Int) (R28 : Scm → ByteArray → Int → Option (Val × Int)) (y1 : Msg × Bool) : PT 0 (Val × Int) := lc (mkS [(2, vI (p2 - 1)), (3, .ptr (1, 3) 0 0), (6, .ptr (1, 6) 0 0), (8, .ptr (1, 8) 0 0), (9, .ptr (1, 9) 0 0), (11, vI 0)] [(ZGI p0), ZE8, ZKN, (ZGY y1)]) ((Zzs p0 p2 R28 y1).m)
def ZyL (p0 : Scm) (p1 : ByteArray) (p2 : Int) (R28 : Scm → ByteArray → Int → Option (Val × Int)) : PT 0 (Val × Int) := vw .go <| vs (wi (p2 - 1)) <| vw .go <| cl (ZM6 p0 p1) fun y1 => vw .go <| lc (mkS [(2, vI (p2 - 1)), (3, .ptr (1, 3) 0 0), (6, .ptr (1, 6) 0 0), (8, .ptr (1, 8) 0 0), (9, .ptr (1, 9) 0 0)] [(ZGI p0), ZE8, ZKN, (ZGY y1)]) ((ZyA p0 p2 R28 y1).m)
def ZHl (R28 : Scm → ByteArray → Int → Option (Val × Int)) (p0 : Scm) (p1 : ByteArray) (p2 : Int) : Option (Val × Int) := (ZyL p0 p1 p2 R28).m
theorem Zyv {C : Cx} (co : CO C 0) (p0 : Scm) (R28 : Scm → ByteArray → Int → Option (Val × Int)) (y1 : Msg × Bool) (hR : ∀ (p0 : Scm) (p1 : ByteArray) (p2 : Int), KC Tryz.prog 28 [.agg ((Zb4 p0).map .d), vS p1, vI p2] (R28 p0 p1 p2) E28) : KL Tryz.prog (lkT tl) 72 C (pa [0, 0, 1, 0, 1, 1, 1, 1] (Zai Tryz.f28)) [.cell 6 35, .tmp 7] 0 (Zt7 p0 y1) (ZCl) E28 (fun _ => []) (Ztf p0 R28 y1) := fun (v2, v3, r4) _ hm Q Post hQ hL => Zbz co tok tmo (ZAC p0 R28 y1 v2 v3 r4) (lf2 [2, 3, 6, 8, 9, 11] ZJY) (lf2 [2, 6, 8] [((1, 6), false), ((1, 8), false), ((1, 1085), true)]) hQ hm hL fun r g => ⟨fun e5 => ⟨id, fun y6 => ⟨⟨fun y hy H' _ _ => by rw [(hR p0 e5.type.name v2).x, (hR p0 e5.type.name v2).e]; exact (hR p0 e5.type.name v2).k _ H' y hy, fun y7 => id⟩, id⟩⟩, id⟩
theorem ZIg (R28 : Scm → ByteArray → Int → Option (Val × Int)) (hR : ∀ (p0 : Scm) (p1 : ByteArray) (p2 : Int), KC Tryz.prog 28 [.agg ((Zb4 p0).map .d), vS p1, vI p2] (R28 p0 p1 p2) E28) (p0 : Scm) (p1 : ByteArray) (p2 : Int) : KC Tryz.prog 28 [.agg ((Zb4 p0).map .d), vS p1, vI p2] (ZHl R28 p0 p1 p2) E28 := kc1 Tryz.func28 Tryz.ntmps28 tok [.cell 6 35, .tmp 7] fun C co y hm Post hL => Zap co tok tmo 4 (ZyL p0 p1 p2 R28) (lf2 [2, 3, 6, 8, 9] [((1, 3), false), ((1, 6), false), ((1, 8), false), ((1, 9), false)]) nl (fun _ h => h) hm hL fun r g => fun y1 => fun _ hm hL => sq (Zap co tok tmo 1 (ZyA p0 p2 R28 y1) (lf2 [2, 3, 6, 8, 9, 11] [((1, 3), false), ((1, 6), false), ((1, 8), false), ((1, 9), false)]) nl (fun _ h => h) hm hL fun r g => fun _ hm hL => bk 0 (ZrL co (Zzs p0 p2 R28 y1) (lf2 [2, 3, 6, 8, 9, 11] ZJY) hm hL fun r g => fun _ hm hL => lo (lpF (Zyv co p0 R28 y1 hR) (fun _ h => h) hm hL (fun (v8, r9) hm => Zax co tok tmo (ZxZ v8 r9) hm hL fun r g => id))))
def Zao : Nat → Scm → ByteArray → Int → Option (Val × Int)
 | 0 => fun _ _ _ => none
 | fu + 1 => ZHl (Zao fu)
theorem ZKp : ∀ (fu : Nat) (p0 : Scm) (p1 : ByteArray) (p2 : Int), KC Tryz.prog 28 [.agg ((Zb4 p0).map .d), vS p1, vI p2] (Zao fu p0 p1 p2) E28
 | 0, p0, p1, p2 => ⟨fun _ _ _ h => (by cases h), by intro r; kernel_rfl, by intro r y; kernel_rfl⟩
 | fu + 1, p0, p1, p2 => ZIg (Zao fu) (ZKp fu) p0 p1 p2
abbrev E9 : Val × Bool → AV := fun y => .tup [.agg ((Zay y.1).map .d), vB y.2]
def ZI7 (p0 : Scm) (p1 : ByteArray) : PT 0 (Val × Bool) := vw .go <| cl (ZLN p0 p1) fun y1 => br (decide (y1 < (1 : Int)) || decide ((16 : Int) < y1)) (vw .go <| lr E9 (fun _ => []) ((.mk 0 0 ⟨#[]⟩ [] [] [] [] : Val), false)) (vw .go <| cl (ZKp big p0 p1 4096) fun y2 => vw .go <| br (decide (y2.2 < (0 : Int))) (vw .go <| lr E9 (fun _ => []) ((.mk 0 0 ⟨#[]⟩ [] [] [] [] : Val), false)) (vw .go <| vw .go <| lr E9 (fun _ => []) (y2.1, true)))
def Zbx (p0 : Scm) (p1 : ByteArray) : Option (Val × Bool) := (ZI7 p0 p1).m
theorem K_9 (p0 : Scm) (p1 : ByteArray) : KC Tryz.prog 9 [.agg ((Zb4 p0).map .d), vS p1] (Zbx p0 p1) E9 := kc1 Tryz.func9 Tryz.ntmps9 tok [.cell 4 35, .tmp 5] fun C co y hm Post hL => Zax co tok tmo (ZI7 p0 p1) hm hL fun r g => fun y1 => ⟨id, fun y2 => ⟨id, id⟩⟩
abbrev Zmv (p0 : Val) : Key × Blk := ((1, 2), ⟨0, true, 35, 7, [vI p0.kind, .d (.int .u64 p0.bits), vS p0.text, vL Zb7 p0.list, vL rPr p0.pairs, vL Zar p0.slots, vL Zcg p0.raws]⟩)
abbrev Zmx (p1 : Val) : Key × Blk := ((1, 3), ⟨0, true, 35, 7, [vI p1.kind, .d (.int .u64 p1.bits), vS p1.text, vL Zb7 p1.list, vL rPr p1.pairs, vL Zar p1.slots, vL Zcg p1.raws]⟩)
abbrev E10 : Bool → AV := fun y => vB y
def ZD7 (p0 : Val) (p1 : Val) : Nat → St := fun v1 => mkS [(2, .ptr (1, 2) 0 0), (3, .ptr (1, 3) 0 0), (5, vN v1)] [(Zmv p0), (Zmx p1)]
def ZEy (p0 : Val) (p1 : Val) : Unit → Nat × St := fun _ => (0, mkS [(2, .ptr (1, 2) 0 0), (3, .ptr (1, 3) 0 0)] [(Zmv p0), (Zmx p1)])
def Zyk (p0 : Val) (p1 : Val) (R10 : Val → Val → Option (Bool)) (v1 : Nat) : PT 0 (Lv (Nat) (Unit) (Bool)) := vw .go <| vz (eqL p0.list) <| br (decide ((v1 : Int) < (p0.list.length : Int))) (vw .go <| ix p0.list v1 fun e2 => vw .go <| ix p1.list v1 fun e3 => cs Tryz.prog 10 [.agg ((Zay e2).map .d), .agg ((Zay e3).map .d)] [] [] (R10 e2 e3) (fun y => vB y) fun y4 => br (!y4) (lrt E10 (fun _ => []) false) (vs (wa v1 1) <| ln (ZD7 p0 p1) (v1 + 1))) (lxe (ZEy p0 p1) ())
def Ztz (p0 : Val) (p1 : Val) (R10 : Val → Val → Option (Bool)) : Nat → Option (Lv (Nat) (Unit) (Bool)) := fun v1 => (Zyk p0 p1 R10 v1).m
def ZCd (p0 : Val) (p1 : Val) : Nat → St := fun v5 => mkS [(2, .ptr (1, 2) 0 0), (3, .ptr (1, 3) 0 0), (6, vN v5)] [(Zmv p0), (Zmx p1)]
def ZFH (p0 : Val) (p1 : Val) : Unit → Nat × St := fun _ => (2, mkS [(2, .ptr (1, 2) 0 0), (3, .ptr (1, 3) 0 0)] [(Zmv p0), (Zmx p1)])
def ZxF (p0 : Val) (p1 : Val) (R10 : Val → Val → Option (Bool)) (v5 : Nat) : PT 0 (Lv (Nat) (Unit) (Bool)) := vw .go <| vz (eqL p0.pairs) <| br (decide ((v5 : Int) < (p0.pairs.length : Int))) (vw .go <| ix p0.pairs v5 fun e6 => vw .go <| ix p1.pairs v5 fun e7 => cs Tryz.prog 10 [.agg ((Zay e6.key).map .d), .agg ((Zay e7.key).map .d)] [] [] (R10 e6.key e7.key) (fun y => vB y) fun y8 => vw .go <| ixg (!(!y8)) p0.pairs (v5 : Int) fun e9 => vw .go <| ixg (!(!y8)) p1.pairs (v5 : Int) fun e10 => csg (!(!y8)) Tryz.prog 10 [.agg ((Zay e9.val).map .d), .agg ((Zay e10.val).map .d)] [] [] (R10 e9.val e10.val) (fun y => vB y) fun y11 => br ((!y8) || (!y11)) (lrt E10 (fun _ => []) false) (vs (wa v5 1) <| ln (ZCd p0 p1) (v5 + 1))) (lxe (ZFH p0 p1) ())
def Zsd (p0 : Val) (p1 : Val) (R10 : Val → Val → Option (Bool)) : Nat → Option (Lv (Nat) (Unit) (Bool)) := fun v5 => (ZxF p0 p1 R10 v5).m
def ZC9 (p0 : Val) (p1 : Val) : Nat → St := fun v12 => mkS [(2, .ptr (1, 2) 0 0), (3, .ptr (1, 3) 0 0), (7, vN v12)] [(Zmv p0), (Zmx p1)]
def ZF5 (p0 : Val) (p1 : Val) : Unit → Nat × St := fun _ => (4, mkS [(2, .ptr (1, 2) 0 0), (3, .ptr (1, 3) 0 0)] [(Zmv p0), (Zmx p1)])
def ZAX (p0 : Val) (p1 : Val) (R10 : Val → Val → Option (Bool)) (v12 : Nat) : PT 0 (Lv (Nat) (Unit) (Bool)) := vw .go <| vz (eqL p0.slots) <| br (decide ((v12 : Int) < (p0.slots.length : Int))) (vw .go <| ix p0.slots v12 fun e13 => vw .go <| ix p1.slots v12 fun e14 => vw .go <| ixg (!(!decide (e13.num = e14.num))) p0.slots (v12 : Int) fun e15 => vw .go <| ixg (!(!decide (e13.num = e14.num))) p1.slots (v12 : Int) fun e16 => csg (!(!decide (e13.num = e14.num))) Tryz.prog 10 [.agg ((Zay e15.val).map .d), .agg ((Zay e16.val).map .d)] [] [] (R10 e15.val e16.val) (fun y => vB y) fun y17 => br ((!decide (e13.num = e14.num)) || (!y17)) (lrt E10 (fun _ => []) false) (vs (wa v12 1) <| ln (ZC9 p0 p1) (v12 + 1))) (lxe (ZF5 p0 p1) ())
def Ztt (p0 : Val) (p1 : Val) (R10 : Val → Val → Option (Bool)) : Nat → Option (Lv (Nat) (Unit) (Bool)) := fun v12 => (ZAX p0 p1 R10 v12).m
def ZF7 (p0 : Val) (p1 : Val) : Nat → St := fun v18 => mkS [(2, .ptr (1, 2) 0 0), (3, .ptr (1, 3) 0 0), (8, vN v18)] [(Zmv p0), (Zmx p1)]
def ZFx : Unit → Nat × St := fun _ => (6, mkS [] [])
def ZwK (p0 : Val) (p1 : Val) (v18 : Nat) : PT 0 (Lv (Nat) (Unit) (Bool)) := vw .go <| vz (eqL p0.raws) <| br (decide ((v18 : Int) < (p0.raws.length : Int))) (vw .go <| ix p0.raws v18 fun e19 => vw .go <| ix p1.raws v18 fun e20 => br (!(decide (e19.num = e20.num) && (decide (e19.wire = e20.wire) && (decide (e19.bits = e20.bits) && (decide (e19.data = e20.data) && true))))) (lrt E10 (fun _ => []) false) (vs (wa v18 1) <| ln (ZF7 p0 p1) (v18 + 1))) (lxe (ZFx) ())
def Zsn (p0 : Val) (p1 : Val) (R10 : Val → Val → Option (Bool)) : Nat → Option (Lv (Nat) (Unit) (Bool)) := fun v18 => (ZwK p0 p1 v18).m
def ZxQ : PT 0 (Bool) := lr E10 (fun _ => []) true
def ZwR (p0 : Val) (p1 : Val) (R10 : Val → Val → Option (Bool)) : PT 0 (Bool) := lc (mkS [(2, .ptr (1, 2) 0 0), (3, .ptr (1, 3) 0 0), (8, vI 0)] [(Zmv p0), (Zmx p1)]) ((Zaf (Zsn p0 p1 R10) big 0).bind (Sum.elim (fun _ => (ZxQ).m) some))
def Zyj (p0 : Val) (p1 : Val) (R10 : Val → Val → Option (Bool)) : PT 0 (Bool) := lc (mkS [(2, .ptr (1, 2) 0 0), (3, .ptr (1, 3) 0 0), (7, vI 0)] [(Zmv p0), (Zmx p1)]) ((Zaf (Ztt p0 p1 R10) big 0).bind (Sum.elim (fun _ => (ZwR p0 p1 R10).m) some))
def ZxX (p0 : Val) (p1 : Val) (R10 : Val → Val → Option (Bool)) : PT 0 (Bool) := lc (mkS [(2, .ptr (1, 2) 0 0), (3, .ptr (1, 3) 0 0), (6, vI 0)] [(Zmv p0), (Zmx p1)]) ((Zaf (Zsd p0 p1 R10) big 0).bind (Sum.elim (fun _ => (Zyj p0 p1 R10).m) some))
def ZAV (p0 : Val) (p1 : Val) (R10 : Val → Val → Option (Bool)) : PT 0 (Bool) := lc (mkS [(2, .ptr (1, 2) 0 0), (3, .ptr (1, 3) 0 0), (5, vI 0)] [(Zmv p0), (Zmx p1)]) ((Zaf (Ztz p0 p1 R10) big 0).bind (Sum.elim (fun _ => (ZxX p0 p1 R10).m) some))
def ZnC (p0 : Val) (p1 : Val) (R10 : Val → Val → Option (Bool)) : PT 0 (Bool) := vw .go <| vw .go <| vw .go <| vw .go <| vw .go <| vw .go <| vw .go <| vy (!(((!decide (p0.kind = p1.kind)) || (!decide (p0.bits = p1.bits))) || (!decide (p0.text = p1.text)))) (eqL p0.list) <| vw .go <| vy (!(((!decide (p0.kind = p1.kind)) || (!decide (p0.bits = p1.bits))) || (!decide (p0.text = p1.text)))) (eqL p1.list) <| vw .go <| vy (!((((!decide (p0.kind = p1.kind)) || (!decide (p0.bits = p1.bits))) || (!decide (p0.text = p1.text))) || (!decide ((p0.list.length : Int) = (p1.list.length : Int))))) (eqL p0.pairs) <| vw .go <| vy (!((((!decide (p0.kind = p1.kind)) || (!decide (p0.bits = p1.bits))) || (!decide (p0.text = p1.text))) || (!decide ((p0.list.length : Int) = (p1.list.length : Int))))) (eqL p1.pairs) <| vw .go <| vy (!(((((!decide (p0.kind = p1.kind)) || (!decide (p0.bits = p1.bits))) || (!decide (p0.text = p1.text))) || (!decide ((p0.list.length : Int) = (p1.list.length : Int)))) || (!decide ((p0.pairs.length : Int) = (p1.pairs.length : Int))))) (eqL p0.slots) <| vw .go <| vy (!(((((!decide (p0.kind = p1.kind)) || (!decide (p0.bits = p1.bits))) || (!decide (p0.text = p1.text))) || (!decide ((p0.list.length : Int) = (p1.list.length : Int)))) || (!decide ((p0.pairs.length : Int) = (p1.pairs.length : Int))))) (eqL p1.slots) <| vw .go <| vy (!((((((!decide (p0.kind = p1.kind)) || (!decide (p0.bits = p1.bits))) || (!decide (p0.text = p1.text))) || (!decide ((p0.list.length : Int) = (p1.list.length : Int)))) || (!decide ((p0.pairs.length : Int) = (p1.pairs.length : Int)))) || (!decide ((p0.slots.length : Int) = (p1.slots.length : Int))))) (eqL p0.raws) <| vw .go <| vy (!((((((!decide (p0.kind = p1.kind)) || (!decide (p0.bits = p1.bits))) || (!decide (p0.text = p1.text))) || (!decide ((p0.list.length : Int) = (p1.list.length : Int)))) || (!decide ((p0.pairs.length : Int) = (p1.pairs.length : Int)))) || (!decide ((p0.slots.length : Int) = (p1.slots.length : Int))))) (eqL p1.raws) <| br (((((((!decide (p0.kind = p1.kind)) || (!decide (p0.bits = p1.bits))) || (!decide (p0.text = p1.text))) || (!decide ((p0.list.length : Int) = (p1.list.length : Int)))) || (!decide ((p0.pairs.length : Int) = (p1.pairs.length : Int)))) || (!decide ((p0.slots.length : Int) = (p1.slots.length : Int)))) || (!decide ((p0.raws.length : Int) = (p1.raws.length : Int)))) (lr E10 (fun _ => []) false) (lc (mkS [(2, .ptr (1, 2) 0 0), (3, .ptr (1, 3) 0 0)] [(Zmv p0), (Zmx p1)]) ((ZAV p0 p1 R10).m))
def ZGZ (R10 : Val → Val → Option (Bool)) (p0 : Val) (p1 : Val) : Option (Bool) := (ZnC p0 p1 R10).m
theorem ZxL {C : Cx} (co : CO C 0) (p0 : Val) (p1 : Val) (R10 : Val → Val → Option (Bool)) (hR : ∀ (p0 : Val) (p1 : Val), KC Tryz.prog 10 [.agg ((Zay p0).map .d), .agg ((Zay p1).map .d)] (R10 p0 p1) E10) : KL Tryz.prog (lkT tl) 174 C (pa [0, 0, 1, 0, 1, 1] (Zai Tryz.f10)) [.tmp 4] 0 (ZD7 p0 p1) (ZEy p0 p1) E10 (fun _ => []) (Ztz p0 p1 R10) := fun v1 _ hm Q Post hQ hL => Zbz co tok tmo (Zyk p0 p1 R10 v1) (lf2 [2, 3, 5] Zmp) (lf2 [2, 3] Zmp) hQ hm hL fun r g => ⟨fun e2 => fun e3 => ⟨fun y hy H' _ _ => by rw [(hR e2 e3).x, (hR e2 e3).e]; exact (hR e2 e3).k _ H' y hy, fun y4 => ⟨id, id⟩⟩, id⟩
theorem Zzu {C : Cx} (co : CO C 0) (p0 : Val) (p1 : Val) (R10 : Val → Val → Option (Bool)) (hR : ∀ (p0 : Val) (p1 : Val), KC Tryz.prog 10 [.agg ((Zay p0).map .d), .agg ((Zay p1).map .d)] (R10 p0 p1) E10) : KL Tryz.prog (lkT tl) 174 C (pa [0, 0, 1, 0, 1, 1, 1] (Zai Tryz.f10)) [.tmp 4] 0 (ZCd p0 p1) (ZFH p0 p1) E10 (fun _ => []) (Zsd p0 p1 R10) := fun v5 _ hm Q Post hQ hL => Zbz co tok tmo (ZxF p0 p1 R10 v5) (lf2 [2, 3, 6] Zmp) (lf2 [2, 3] Zmp) hQ hm hL fun r g => ⟨fun e6 => fun e7 => ⟨fun y hy H' _ _ => by rw [(hR e6.key e7.key).x, (hR e6.key e7.key).e]; exact (hR e6.key e7.key).k _ H' y hy, fun y8 => fun e9 => fun e10 => ⟨fun y hy H' _ _ => by rw [(hR e9.val e10.val).x, (hR e9.val e10.val).e]; exact (hR e9.val e10.val).k _ H' y hy, fun y11 => ⟨id, id⟩⟩⟩, id⟩
theorem ZAv {C : Cx} (co : CO C 0) (p0 : Val) (p1 : Val) (R10 : Val → Val → Option (Bool)) (hR : ∀ (p0 : Val) (p1 : Val), KC Tryz.prog 10 [.agg ((Zay p0).map .d), .agg ((Zay p1).map .d)] (R10 p0 p1) E10) : KL Tryz.prog (lkT tl) 174 C (pa [0, 0, 1, 0, 1, 1, 1, 1] (Zai Tryz.f10)) [.tmp 4] 0 (ZC9 p0 p1) (ZF5 p0 p1) E10 (fun _ => []) (Ztt p0 p1 R10) := fun v12 _ hm Q Post hQ hL => Zbz co tok tmo (ZAX p0 p1 R10 v12) (lf2 [2, 3, 7] Zmp) (lf2 [2, 3] Zmp) hQ hm hL fun r g => ⟨fun e13 => fun e14 => fun e15 => fun e16 => ⟨fun y hy H' _ _ => by rw [(hR e15.val e16.val).x, (hR e15.val e16.val).e]; exact (hR e15.val e16.val).k _ H' y hy, fun y17 => ⟨id, id⟩⟩, id⟩
theorem ZzD {C : Cx} (co : CO C 0) (p0 : Val) (p1 : Val) (R10 : Val → Val → Option (Bool)) (hR : ∀ (p0 : Val) (p1 : Val), KC Tryz.prog 10 [.agg ((Zay p0).map .d), .agg ((Zay p1).map .d)] (R10 p0 p1) E10) : KL Tryz.prog (lkT tl) 174 C (pa [0, 0, 1, 0, 1, 1, 1, 1, 1] (Zai Tryz.f10)) [.tmp 4] 0 (ZF7 p0 p1) (ZFx) E10 (fun _ => []) (Zsn p0 p1 R10) := fun v18 _ hm Q Post hQ hL => Zbz co tok tmo (ZwK p0 p1 v18) (lf2 [2, 3, 8] Zmp) nl hQ hm hL fun r g => ⟨fun e19 => fun e20 => ⟨id, id⟩, id⟩
theorem ZIq (R10 : Val → Val → Option (Bool)) (hR : ∀ (p0 : Val) (p1 : Val), KC Tryz.prog 10 [.agg ((Zay p0).map .d), .agg ((Zay p1).map .d)] (R10 p0 p1) E10) (p0 : Val) (p1 : Val) : KC Tryz.prog 10 [.agg ((Zay p0).map .d), .agg ((Zay p1).map .d)] (ZGZ R10 p0 p1) E10 := kc1 Tryz.func10 Tryz.ntmps10 tok [.tmp 4] fun C co y hm Post hL => Zap co tok tmo 2 (ZnC p0 p1 R10) (lf2 [2, 3] Zmp) nl (fun _ h => h) hm hL fun r g => ⟨id, fun _ hm hL => sq (Zap co tok tmo 1 (ZAV p0 p1 R10) (lf2 [2, 3, 5] Zmp) nl (fun _ h => h) hm hL fun r g => fun _ hm hL => bk 0 (lo (lpF (ZxL co p0 p1 R10 hR) (fun _ h => h) hm hL (fun _ hm => sq (Zap co tok tmo 1 (ZxX p0 p1 R10) (lf2 [2, 3, 6] Zmp) nl (fun _ h => h) hm hL fun r g => fun _ hm hL => bk 2 (lo (lpF (Zzu co p0 p1 R10 hR) (fun _ h => h) hm hL (fun _ hm => sq (Zap co tok tmo 1 (Zyj p0 p1 R10) (lf2 [2, 3, 7] Zmp) nl (fun _ h => h) hm hL fun r g => fun _ hm hL => bk 4 (lo (lpF (ZAv co p0 p1 R10 hR) (fun _ h => h) hm hL (fun _ hm => sq (Zap co tok tmo 1 (ZwR p0 p1 R10) (lf2 [2, 3, 8] Zmp) nl (fun _ h => h) hm hL fun r g => fun _ hm hL => bk 6 (lo (lpF (ZzD co p0 p1 R10 hR) (fun _ h => h) hm hL (fun _ hm => Zax co tok tmo (ZxQ) hm hL fun r g => id))))))))))))))))⟩
def Zah : Nat → Val → Val → Option (Bool)
 | 0 => fun _ _ => none
 | fu + 1 => ZGZ (Zah fu)
theorem ZLA : ∀ (fu : Nat) (p0 : Val) (p1 : Val), KC Tryz.prog 10 [.agg ((Zay p0).map .d), .agg ((Zay p1).map .d)] (Zah fu p0 p1) E10
 | 0, p0, p1 => ⟨fun _ _ _ h => (by cases h), by intro r; kernel_rfl, by intro r y; kernel_rfl⟩
 | fu + 1, p0, p1 => ZIq (Zah fu) (ZLA fu) p0 p1
abbrev E3 : Bool → AV := fun y => vB y
def ZI9 (p0 : Scm) (p1 : ByteArray) : PT 0 (Bool) := vw .go <| cl (K_6 p0 p1) fun y1 => br (!y1) (cl (K_7) fun y2 => lr E3 (fun _ => []) y2) (vw .go <| cl (K_8 p0 p1) fun y3 => vw .go <| vw .go <| cl (K_9 p0 p1) fun y4 => vw .go <| vw .go <| vw .go <| clg (y3.2 == y4.2) (ZLA big y3.1 y4.1) fun y5 => clg ((y3.2 == y4.2) && y5) (K_7) fun y6 => lr E3 (fun _ => []) (((y3.2 == y4.2) && y5) && y6))
def ZaC (p0 : Scm) (p1 : ByteArray) : Option (Bool) := (ZI9 p0 p1).m
theorem K_3 (p0 : Scm) (p1 : ByteArray) : KC Tryz.prog 3 [.agg ((Zb4 p0).map .d), vS p1] (ZaC p0 p1) E3 := kc1 Tryz.func3 Tryz.ntmps3 tok [.tmp 4] fun C co y hm Post hL => Zax co tok tmo (ZI9 p0 p1) hm hL fun r g => fun y1 => ⟨fun y2 => id, fun y3 => fun y4 => fun y5 => fun y6 => id⟩
end Go.Proofs.YtchkcemlglpobaaGreat
namespace Go.Proofs.YtchkcemlglpobaaGreat
set_option linter.all false
open Go Go.Eng
end Go.Proofs.YtchkcemlglpobaaGreat
namespace Go.Proofs.YtchkcemlglpobaaGreat
set_option linter.all false
open Go Go.Eng Go.ChangeShapes Go.WideShapes Go.ChangeAt Go.RowKit
theorem ZkP {H : Type} (b : List UInt8) : Rows.uptoBulk (DataW.lit (H := H) (.string b)) = b.length + 1 := by simp only [Rows.uptoBulk]
theorem ZlF {H : Type} (a b : List (DataW H)) : Rows.uptoBulk (.slice a b) = Rows.uptoBulkAll a + Rows.uptoBulkAll b + 1 := by simp only [Rows.uptoBulk]
theorem Zst {H : Type} (a : List (DataW H)) : Rows.uptoBulk (.agg a) = Rows.uptoBulkAll a + 1 := by simp only [Rows.uptoBulk]
def Zie (W : World) (ds : List D) (cs : List Value) (o : Nat) : Prop := ∀ (i : Nat) (d : D), ds[i]? = some d → ∃ c, cs[o + i]? = some c ∧ RepD W (· < W.heap.size) d c
def Zka (W : World) (ds : List D) (cs : List Value) : Prop := ds.length = cs.length ∧ Zie W ds cs 0
theorem Zie.app {W : World} {ds es : List D} {cs : List Value} {o : Nat} (h : Zie W ds cs o) (k : Zie W es cs (o + ds.length)) : Zie W (ds ++ es) cs o := fun i d hi => by
 rcases Yo i ds.length with hl | hl
 ·rw [Yg hl] at hi; exact h i d hi
 ·rw [Yk hl] at hi
  obtain ⟨c, h1, h2⟩ := k _ d hi
  grind
theorem Zie.nil {W : World} {cs : List Value} {o : Nat} : Zie W [] cs o := fun i d h => by simp at h
theorem Zka.at {W : World} {ds : List D} {cs : List Value} {o k : Nat} (h : Zka W ds ((cs.drop o).take k)) : Zie W ds cs o := fun i d hi => by
 obtain ⟨c, h1, h2⟩ := h.2 i d hi
 grind
mutual
def bk : D → Nat
 | .int _ _ => 0
 | .bool _ => 0
 | .str s => s.size
 | .list es => Zjw es
 | .map _ es => Zjw es
def bkL : List D → Nat
 | [] => 0
 | d :: l => bk d + bkL l
def Zjw : List (List D) → Nat
 | [] => 0
 | e :: l => bkL e + 1 + Zjw l
end
theorem ZhD : ∀ a b : List D, bkL (a ++ b) = bkL a + bkL b
 | [], b => by rw [Yag, bkL, Yz]
 | d :: a, b => by rw [YaF, bkL, bkL, ZhD a b, Yp]
theorem Zny (d : D) : bkL [d] = bk d := by rw [bkL, bkL, Yae]
theorem ZcH {α : Type} {e : α → List D} : ∀ l : List α, l.length ≤ Zjw (l.map e)
 | [] => Y4 _
 | x :: l => by have := ZcH (e := e) l; rw [YE, Zjw, YZ]; omega
theorem ZcR {α : Type} {e : α → List D} {x : α} : ∀ {l : List α}, x ∈ l → bkL (e x) + 1 ≤ Zjw (l.map e)
 | y :: l, h => by
  rw [YE, Zjw]
  cases Ys.1 h with
  | inl h => subst h; omega
  | inr h => have := ZcR (e := e) h; omega
section
variable {H : Type} (enc : TypeId × Value → H) (P : Program) (W : World)
def RdN {α : Type} (n : Nat) (t : TypeId) (e : α → List D) : Prop :=
 ∀ cs x, DataW.trod enc P W 0 (fun _ => true) true n t cs = some x → ∃ v : α, Zka W (e v) cs ∧ bkL (e v) + 1 ≤ Rows.uptoBulk x.1
end
section
variable {H : Type} {enc : TypeId × Value → H} {P : Program} {W : World} {n : Nat} {t : TypeId}
theorem ZhX (d : DataW H) : 1 ≤ Rows.uptoBulk d := by cases d <;> (try (rename_i l; cases l)) <;> simp [Rows.uptoBulk]
theorem Zd1 {d : D} {c : Value} (h : RepD W (· < W.heap.size) d c) : Zka W [d] [c] := ⟨rfl, fun i d' hi => by
 cases i with
 | zero => cases hi; exact ⟨c, rfl, h⟩
 | succ i => simp at hi⟩
theorem Zc0 {k : IntKind} (ht : P.underlying t = some (.int k)) : RdN enc P W n t (fun v : Int => [.int k v]) := fun cs x hx => by
 obtain ⟨m, rfl, rfl, _⟩ := DataW.trod_int ht hx
 exact ⟨m, Zd1 (.int _ _), ZhX _⟩
theorem Zqk (ht : P.underlying t = some .bool) : RdN enc P W n t (fun v : Bool => [.bool v]) := fun cs x hx => by
 obtain ⟨m, rfl, rfl⟩ := DataW.trod_bool ht hx
 exact ⟨m, Zd1 (.bool _), ZhX _⟩
theorem ZcY (ht : P.underlying t = some .string) : RdN enc P W n t (fun v : ByteArray => [.str v]) := fun cs x hx => by
 obtain ⟨m, rfl, rfl, _⟩ := DataW.trod_string ht hx
 refine ⟨m, Zd1 (.str _), ?_⟩
 rw [ZkP, Zny]
 exact Yd _
theorem ZvK {α : Type} {e : α → List D} : ∀ (l : List α) (xs : List (DataW H × List MemPlace)), l.length = xs.length → (∀ (i : Nat) (v : α), l[i]? = some v → ∃ y : DataW H × List MemPlace, xs[i]? = some y ∧ bkL (e v) + 1 ≤ Rows.uptoBulk y.1) → Zjw (l.map e) ≤ Rows.uptoBulkAll (xs.map (·.1))
 | [], _, _, _ => Y4 _
 | x :: l, [], h, _ => by cases h
 | x :: l, y :: xs, h, k => by
  have := ZvK l xs (YaK h) (fun i v hi => k (i + 1) v hi)
  obtain ⟨y', h1, h2⟩ := k 0 x rfl
  cases h1
  rw [YE, YE, Zjw]
  simp only [Rows.uptoBulkAll]
  omega
theorem Zpr {α : Type} {Q : Nat → α → Prop} : ∀ (len : Nat), (∀ i, i < len → ∃ v, Q i v) → ∃ l : List α, l.length = len ∧ ∀ i v, l[i]? = some v → Q i v
 | 0, _ => ⟨[], rfl, fun i v h => by simp at h⟩
 | len + 1, h => by
  obtain ⟨l, h1, h2⟩ := Zpr len (fun i hi => h i (by omega))
  obtain ⟨v, hv⟩ := h len (by omega)
  refine ⟨l ++ [v], by simp [h1], fun i w hi => ?_⟩
  grind
theorem ZaP {α : Type} {e : TypeId} {enc' : α → List D} {sz : Nat} (ht : P.underlying t = some (.slice e)) (hsz : P.cellsOf e = sz) (hs0 : sz ≠ 0) (hl : ∀ x, (enc' x).length = sz) (h : ∀ m, m < n → RdN enc P W m e enc') :
  RdN enc P W n t (fun l : List α => [.list (l.map enc')]) := fun cs x hx => by
 rcases DataW.trod_slice ht hx with ⟨rfl, rfl⟩ | ⟨a, len, cap, elems, rest, m, rfl, rfl, rfl, hb, hlc, hcm, hel, hi, _, _⟩
 ·exact ⟨[], Zd1 .nil, ZhX _⟩
 ·have each : ∀ i, i < len → ∃ v : α, ∃ y cs', elems[i]? = some y ∧ W.cells? 0 (a.add (i * sz)) sz = some cs' ∧ Zka W (enc' v) cs' ∧ bkL (enc' v) + 1 ≤ Rows.uptoBulk y.1 := fun i hlt => by
   have h1 := hi i hlt
   rw [Yb (by omega), hsz] at h1
   obtain ⟨cs', h2, h3⟩ := Yba.1 h1
   obtain ⟨v, h4, h5⟩ := h m (by omega) cs' _ h3
   exact ⟨v, _, cs', Yb (by omega), h2, h4, h5⟩
  obtain ⟨l, hll, hlq⟩ := Zpr len each
  have cell : ∀ (i j : Nat) (e' : List D) (x : D), (l.map enc')[i]? = some e' → e'[j]? = some x → ∃ c, W.cell? (a.add (i * sz + j)) = some c ∧ RepD W (· < W.heap.size) x c := fun i j e' x hi' hj => by
   rw [Yv] at hi'
   cases hv : l[i]? with
   | none => rw [hv] at hi'; cases hi'
   | some v =>
    rw [hv] at hi'
    cases hi'
    obtain ⟨y, cs', g1, g2, g3, g4⟩ := hlq i v hv
    obtain ⟨c, g5, g6⟩ := g3.2 j x hj
    rw [Yz] at g5
    obtain ⟨_, g7, g8⟩ := World.cells?_some g2
    have hjl : j < sz := by
     rw [← hl v]
     rcases Yo j (enc' v).length with h | h
     ·exact h
     ·rw [Yx h] at hj; cases hj
    refine ⟨c, ?_, g6⟩
    rw [← Go.Eng.add_add, g8 j hjl, g5]
  refine ⟨l, Zd1 ?_, ?_⟩
  ·have hlen : (l.map enc').length = len := by simp [hll]
   have := RepD.list (w := W) (S := (· < W.heap.size)) (l.map enc') a sz cap (fun i j => (W.cell? (a.add (i * sz + j))).getD undef) (fun hne => by
     have h0 : 0 < len := by
      rcases YaU len with h | h
      ·exact absurd (YO (hlen.trans h)) hne
      ·exact h
     obtain ⟨v, y, cs', _, g2, _⟩ := each 0 h0
     have := World.cells?_block g2 (by omega)
     rw [Yay] at this
     rw [← Go.Eng.block_add a 0]; exact this)
    (by rw [hlen]; exact hlc) (fun e' he => by obtain ⟨y, _, rfl⟩ := Yy.1 he; exact hl y)
    (fun i j e' x hi' hj => by obtain ⟨c, g1, _⟩ := cell i j e' x hi' hj; rw [g1]; rfl)
    (fun i j e' x hi' hj => by obtain ⟨c, g1, g2⟩ := cell i j e' x hi' hj; rw [g1]; exact g2)
   rw [hlen] at this
   exact this
  ·rw [ZlF, Zny, bk]
   have := ZvK (e := enc') l elems (by omega) (fun i v hv => by
    obtain ⟨y, cs', g1, g2, g3, g4⟩ := hlq i v hv
    exact ⟨y, g1, g4⟩)
   omega
def FB (xs : List (DataW H × List MemPlace)) (i : Nat) : Nat := Rows.uptoBulkAll ((xs.drop i).map (·.1))
theorem Zaz {xs : List (DataW H × List MemPlace)} {i : Nat} {a b : List D} (h : bkL a + 1 + FB xs (i + 1) ≤ FB xs i) (k : bkL b ≤ FB xs (i + 1)) : bkL (a ++ b) ≤ FB xs i := by
 rw [ZhD]; omega
theorem ZcV {xs : List (DataW H × List MemPlace)} {i : Nat} {a : List D} (h : bkL a + 1 + FB xs (i + 1) ≤ FB xs i) : bkL a ≤ FB xs i := by omega
theorem ZcW {xs : List (DataW H × List MemPlace)} {a : List D} (h : bkL a ≤ FB xs 0) : bkL a + 1 ≤ Rows.uptoBulk (.agg (xs.map (·.1))) := by
 rw [Zst]; exact Nat.succ_le_succ h
theorem Zt4 {α : Type} {e : α → List D} {m i : Nat} {t' : TypeId} {piece : List Value} {xs : List (DataW H × List MemPlace)} (h : RdN enc P W m t' e) (hf : DataW.trod enc P W 0 (fun _ => true) true m t' piece = xs[i]?) (hi : i < xs.length) :
  ∃ v, Zka W (e v) piece ∧ bkL (e v) + 1 + FB xs (i + 1) ≤ FB xs i := by
 rw [Yb hi] at hf
 obtain ⟨v, h1, h2⟩ := h _ _ hf
 refine ⟨v, h1, ?_⟩
 unfold FB
 rw [Y2 hi, YE]
 simp only [Rows.uptoBulkAll]
 omega
theorem rf {α : Type} {e : α → List D} {m i k : Nat} {t' : TypeId} {piece : List Value} {xs : List (DataW H × List MemPlace)} (h : RdN enc P W m t' e) (hf : DataW.trod enc P W 0 (fun _ => true) true m t' piece = xs[i]?) (hx : xs.length = k) (hi : Nat.blt i k = true := by kernel_rfl) :
  ∃ v, Zka W (e v) piece ∧ bkL (e v) + 1 + FB xs (i + 1) ≤ FB xs i := Zt4 h hf (by rw [hx]; exact Yc hi)
theorem ZqN {α : Type} {e e' : α → List D} (he : ∀ x, e x = e' x) (h : RdN enc P W n t e') : RdN enc P W n t e := fun cs x hx => by
 obtain ⟨v, h1, h2⟩ := h cs x hx
 grind
theorem ZAJ {α : Type} {e : α → List D} {fs : Array Field} {r : Reach} {base : Nat} {v : Value} {d : DataW H} {p : List MemPlace} (rd : ∀ n, RdN enc P W n t e) (ht : P.underlying t = some (.struct fs)) (hv : Value.okWide P W r base t v)
  (h : DataW.Trod enc P W 0 (fun _ => true) true t v d p) : ∃ x : α, (∀ m l, RepA W (· < W.heap.size) (fun _ => ⟨0, false, 0, 0, []⟩) m l (.agg ((e x).map .d)) v) ∧ bkL (e x) + 1 ≤ Rows.uptoBulk d := by
 obtain ⟨cs, rfl, _⟩ := okWide_struct ht hv
 obtain ⟨n, hn⟩ := h
 obtain ⟨x, h1, h2⟩ := rd n _ _ hn
 have hl : (e x).length = cs.size := by rw [h1.1]; simp [Value.cells]
 have key : ∀ (i : Nat) (c : Value) , cs[i]? = some c → ∃ d, (e x)[i]? = some d ∧ RepD W (· < W.heap.size) d c := fun i c hc => by
  have hlt : i < (e x).length := by
   grind
  obtain ⟨c', h3, h4⟩ := h1.2 i _ (Yb hlt)
  have : c' = c := by
   rw [Yz] at h3
   have : cs.toList[i]? = some c' := h3
   grind
  grind
 refine ⟨x, fun m l => .agg _ _ (by rw [Yu, hl]) (fun i c hc => ?_) (fun i y c hy hc => ?_), h2⟩
 ·obtain ⟨d, _, h3⟩ := key i c hc; exact h3.one
 ·obtain ⟨d, h3, h4⟩ := key i c hc
  rw [Yv, h3] at hy
  cases hy
  exact .d _ _ h4
theorem Zx4 {r : Reach} {base : Nat} {v : Value} {d : DataW H} {p : List MemPlace} (ht : P.underlying t = some .string) (hv : Value.okWide P W r base t v) (h : DataW.Trod enc P W 0 (fun _ => true) true t v d p) :
  ∃ x : ByteArray, (∀ S Hp m l, RepA W S Hp m l (.d (.str x)) v) ∧ x.size + 1 ≤ Rows.uptoBulk d := by
 obtain ⟨x, rfl⟩ := okWide_string ht hv
 obtain ⟨n, hn⟩ := h
 obtain ⟨s, h1, h2, _⟩ := DataW.trod_string ht hn
 have h1 : x = s := by simpa [Value.cells] using h1
 subst h1
 have h2 : d = .lit (.string x.data.toList) := congrArg Prod.fst h2
 subst h2
 refine ⟨x, fun _ _ _ _ => .d _ _ (.str _), ?_⟩
 rw [ZkP]
 exact Yd _
def Hp0 : Hp := fun _ => ⟨0, false, 0, 0, []⟩
theorem ok0 (m : Mu) : Ok 0 Hp0 m (· < W.heap.size) W := ⟨fun _ h => h, fun _ _ h => (by cases h), fun _ _ h => (by cases h), fun _ _ _ _ h => (by cases h), fun _ _ h => (by cases h), ⟨fun _ _ h => (by cases h), fun _ _ h => (by cases h), fun _ _ _ _ h => (by cases h)⟩⟩
def ZLp (w : World) (S : Nat → Prop) (Hp : Hp) (m : Mu) (l : Nat) : List AV → List Value → Prop
 | [], [] => True
 | x :: xs, v :: vs => RepA w S Hp m l x v ∧ ZLp w S Hp m l xs vs
 | _, _ => False
theorem Zym {w : World} {S : Nat → Prop} {Hp : Hp} {m : Mu} {l : Nat} {xs : List AV} {vs : List Value} (h : ZLp w S Hp m l xs vs) : Ze0 w S Hp m l xs vs.toArray := by
 suffices hh : xs.length = vs.length ∧ ∀ (i : Nat) (x : AV) (v : Value), xs[i]? = some x → vs[i]? = some v → RepA w S Hp m l x v by
  exact ⟨by simpa using hh.1, fun i x v hx hv => hh.2 i x v hx (by simpa using hv)⟩
 induction xs generalizing vs with
 | nil => cases vs with
  | nil => exact ⟨rfl, fun i x v h => by simp at h⟩
  | cons _ _ => exact h.elim
 | cons x xs ih => cases vs with
  | nil => exact h.elim
  | cons v vs =>
   obtain ⟨h1, h2⟩ := ih h.2
   refine ⟨by simp [h1], fun i y u hy hu => ?_⟩
   cases i with
   | zero => simp at hy hu; subst hy; subst hu; exact h.1
   | succ i => exact h2 i y u (by simpa using hy) (by simpa using hu)
theorem ZpB {f : Func} {s : ChangeSpec} {W' : World} {args : Array Value} {ds gs : List (DataW H)} {before : List MemPlace} {u : TypeId} (hW : DataW.Whole enc P f.params.toList s.vars false W args.toList ds gs before) (hvars : s.vars = [])
  (hlaid : laidOutB P = true) (hrd : ∀ t ∈ f.params.toList, P.readableRec t = true ∧ t < P.types.size) (hres : f.resultTypes.toList = [u]) (hu : P.underlying u = some .bool)
  (hfn : s.fn H (ds ++ gs) = { results := [.lit (.bool true)], args := ds }) (hb : Below W.heap.size W W') : s.post enc P f false true false false W args (.bool true) W' := by
 obtain ⟨p, q, hA, hV, rfl, hfz, hnd⟩ := id hW
 rw [hvars] at hV
 obtain ⟨rfl, rfl⟩ := trodVars_none hV
 refine ⟨ds, [], p ++ [], [], p, [], hW, ?_, ?_, ?_, ?_, fun h => by cases h⟩
 ·rw [hfn, hres]
  have : (Value.bool true).resultList f.resultTypes.size = [.bool true] := by
   have : f.resultTypes.size = 1 := by rw [← YQ, hres]; rfl
   rw [this]; rfl
  rw [this]
  exact trodAll_cons_mk (shut_bool hu _) trodAll_mk0
 ·rw [hfn]
  have key : ∀ (ts : List TypeId) (vs : List Value) (es : List (DataW H)) (ps : List MemPlace), (∀ t ∈ ts, P.readableRec t = true ∧ t < P.types.size) → DataW.TrodAll enc P W 0 (fun _ => true) true ts vs es ps →
    DataW.TrodAll enc P W' 0 (fun b => decide (b < W.heap.size)) true ts vs es ps := by
   intro ts
   induction ts with
   | nil => intro vs es ps _ h; obtain ⟨rfl, rfl, rfl⟩ := trodAll_nil h; exact trodAll_mk0
   | cons t ts ih =>
    intro vs es ps hr h
    have hlt := DataW.TrodAll.lt h
    obtain ⟨v, vs1, d, ds1, a, b, rfl, rfl, rfl, h1, h2⟩ := trodAll_cons h
    exact trodAll_cons_mk (Below.trod hlaid (hr t (by simp)).1 (hr t (by simp)).2 h1 hb (fun x hx => hlt x (Y6 _ hx))) (ih _ _ _ (fun t ht => hr t (by simp [ht])) h2)
  exact key _ _ _ _ hrd hA
 ·rw [hvars, hfn]; exact rfl
 ·refine ⟨hb.os, hb.output, fun i hi => ?_⟩
  rw [hb.block i hi]
  cases W.heap[i]? with
  | none => rfl
  | some o => cases o <;> simp
end
end Go.Proofs.YtchkcemlglpobaaGreat
namespace Go.Proofs.YtchkcemlglpobaaGreat
set_option linter.all false
open Go Go.Eng
section
variable {H : Type} {enc : TypeId × Value → H} {W : World}
set_option maxRecDepth 100000
theorem ZE3 (n : Nat) : RdN enc Tryz.prog W n 73 Zcg := fun cs x hx => by
 obtain ⟨xs, m, rfl, rfl, hcl, hxl, hf⟩ := DataW.trod_struct Tryz.underlying73 hx
 obtain ⟨v0, r0, b0⟩ := rf (Zc0 Tryz.underlying3) (hf 0 _ rfl) hxl
 obtain ⟨v1, r1, b1⟩ := rf (Zc0 Tryz.underlying3) (hf 1 _ rfl) hxl
 obtain ⟨v2, r2, b2⟩ := rf (Zc0 Tryz.underlying29) (hf 2 _ rfl) hxl
 obtain ⟨v3, r3, b3⟩ := rf (ZcY Tryz.underlying9) (hf 3 _ rfl) hxl
 have q := ZcW (Zaz b0 (Zaz b1 (Zaz b2 (ZcV b3))))
 exact ⟨.mk v0 v1 v2 v3, ⟨by rw [hcl]; kernel_rfl, (r0.at.app (r1.at.app (r2.at.app r3.at)))⟩, q⟩
theorem Zsu (n : Nat) (h : ∀ k, k < n → RdN enc Tryz.prog W k 35 Zay) : RdN enc Tryz.prog W n 71 ePr := fun cs x hx => by
 obtain ⟨xs, m, rfl, rfl, hcl, hxl, hf⟩ := DataW.trod_struct Tryz.underlying71 hx
 obtain ⟨v0, r0, b0⟩ := rf (h m (by omega)) (hf 0 _ rfl) hxl
 obtain ⟨v1, r1, b1⟩ := rf (h m (by omega)) (hf 1 _ rfl) hxl
 have q := ZcW (Zaz b0 (ZcV b1))
 exact ⟨.mk v0 v1, ⟨by rw [hcl]; kernel_rfl, (r0.at.app r1.at)⟩, q⟩
theorem Zpm (n : Nat) (h : ∀ k, k < n → RdN enc Tryz.prog W k 35 Zay) : RdN enc Tryz.prog W n 63 Zh8 := fun cs x hx => by
 obtain ⟨xs, m, rfl, rfl, hcl, hxl, hf⟩ := DataW.trod_struct Tryz.underlying63 hx
 obtain ⟨v0, r0, b0⟩ := rf (Zc0 Tryz.underlying3) (hf 0 _ rfl) hxl
 obtain ⟨v1, r1, b1⟩ := rf (h m (by omega)) (hf 1 _ rfl) hxl
 have q := ZcW (Zaz b0 (ZcV b1))
 exact ⟨.mk v0 v1, ⟨by rw [hcl]; kernel_rfl, (r0.at.app r1.at)⟩, q⟩
theorem Zvd (n : Nat) : RdN enc Tryz.prog W n 35 Zay := by
 induction n using Nat.strongRecOn with
 | ind n ih =>
 intro cs x hx
 obtain ⟨xs, m, rfl, rfl, hcl, hxl, hf⟩ := DataW.trod_struct Tryz.underlying35 hx
 obtain ⟨v0, r0, b0⟩ := rf (Zc0 Tryz.underlying3) (hf 0 _ rfl) hxl
 obtain ⟨v1, r1, b1⟩ := rf (Zc0 Tryz.underlying29) (hf 1 _ rfl) hxl
 obtain ⟨v2, r2, b2⟩ := rf (ZcY Tryz.underlying9) (hf 2 _ rfl) hxl
 obtain ⟨v3, r3, b3⟩ := rf (ZaP Tryz.underlying30 (by kernel_rfl : Tryz.prog.cellsOf 35 = 7) (by decide) (fun x => by rw [Zd2]; rfl) (fun k hk => (ZqN Zd2 (ih k (by omega))))) (hf 3 _ rfl) hxl
 obtain ⟨v4, r4, b4⟩ := rf (ZaP Tryz.underlying31 (by kernel_rfl : Tryz.prog.cellsOf 71 = 14) (by decide) (fun x => by rw [Zg1]; rfl) (fun k hk => (ZqN Zg1 (Zsu k (fun j hj => ih j (by omega)))))) (hf 4 _ rfl) hxl
 obtain ⟨v5, r5, b5⟩ := rf (ZaP Tryz.underlying32 (by kernel_rfl : Tryz.prog.cellsOf 63 = 8) (by decide) (fun x => by rw [Zc7]; rfl) (fun k hk => (ZqN Zc7 (Zpm k (fun j hj => ih j (by omega)))))) (hf 5 _ rfl) hxl
 obtain ⟨v6, r6, b6⟩ := rf (ZaP Tryz.underlying33 (by kernel_rfl : Tryz.prog.cellsOf 73 = 4) (by decide) (fun _ => rfl) (fun k hk => (ZE3 k))) (hf 6 _ rfl) hxl
 have q := ZcW (Zaz b0 (Zaz b1 (Zaz b2 (Zaz b3 (Zaz b4 (Zaz b5 (ZcV b6)))))))
 exact ⟨.mk v0 v1 v2 v3 v4 v5 v6, ⟨by rw [hcl]; kernel_rfl, (r0.at.app (r1.at.app (r2.at.app (r3.at.app (r4.at.app (r5.at.app r6.at))))))⟩, q⟩
theorem ZDF (n : Nat) : RdN enc Tryz.prog W n 53 ZGr := fun cs x hx => by
 obtain ⟨xs, m, rfl, rfl, hcl, hxl, hf⟩ := DataW.trod_struct Tryz.underlying53 hx
 obtain ⟨v0, r0, b0⟩ := rf (Zc0 Tryz.underlying3) (hf 0 _ rfl) hxl
 obtain ⟨v1, r1, b1⟩ := rf (ZcY Tryz.underlying9) (hf 1 _ rfl) hxl
 have q := ZcW (Zaz b0 (ZcV b1))
 exact ⟨.mk v0 v1, ⟨by rw [hcl]; kernel_rfl, (r0.at.app r1.at)⟩, q⟩
theorem ZlY (n : Nat) : RdN enc Tryz.prog W n 135 eNt := fun cs x hx => by
 obtain ⟨xs, m, rfl, rfl, hcl, hxl, hf⟩ := DataW.trod_struct Tryz.underlying135 hx
 obtain ⟨v0, r0, b0⟩ := rf (ZcY Tryz.underlying9) (hf 0 _ rfl) hxl
 obtain ⟨v1, r1, b1⟩ := rf (Zvd m) (hf 1 _ rfl) hxl
 have q := ZcW (Zaz b0 (ZcV b1))
 exact ⟨.mk v0 v1, ⟨by rw [hcl]; kernel_rfl, (r0.at.app r1.at)⟩, q⟩
theorem ZDd (n : Nat) : RdN enc Tryz.prog W n 55 ZaH := fun cs x hx => by
 obtain ⟨xs, m, rfl, rfl, hcl, hxl, hf⟩ := DataW.trod_struct Tryz.underlying55 hx
 obtain ⟨v0, r0, b0⟩ := rf (Zc0 Tryz.underlying3) (hf 0 _ rfl) hxl
 obtain ⟨v1, r1, b1⟩ := rf (ZcY Tryz.underlying9) (hf 1 _ rfl) hxl
 obtain ⟨v2, r2, b2⟩ := rf (Zc0 Tryz.underlying3) (hf 2 _ rfl) hxl
 obtain ⟨v3, r3, b3⟩ := rf (Zc0 Tryz.underlying3) (hf 3 _ rfl) hxl
 obtain ⟨v4, r4, b4⟩ := rf (ZDF m) (hf 4 _ rfl) hxl
 obtain ⟨v5, r5, b5⟩ := rf (ZcY Tryz.underlying9) (hf 5 _ rfl) hxl
 obtain ⟨v6, r6, b6⟩ := rf (Zqk Tryz.underlying4) (hf 6 _ rfl) hxl
 obtain ⟨v7, r7, b7⟩ := rf (Zvd m) (hf 7 _ rfl) hxl
 obtain ⟨v8, r8, b8⟩ := rf (ZaP Tryz.underlying47 (by kernel_rfl : Tryz.prog.cellsOf 135 = 8) (by decide) (fun _ => rfl) (fun k hk => (ZlY k))) (hf 8 _ rfl) hxl
 have q := ZcW (Zaz b0 (Zaz b1 (Zaz b2 (Zaz b3 (Zaz b4 (Zaz b5 (Zaz b6 (Zaz b7 (ZcV b8)))))))))
 exact ⟨.mk v0 v1 v2 v3 v4 v5 v6 v7 v8, ⟨by rw [hcl]; kernel_rfl, (r0.at.app (r1.at.app (r2.at.app (r3.at.app (r4.at.app (r5.at.app (r6.at.app (r7.at.app r8.at))))))))⟩, q⟩
theorem ZvI (n : Nat) : RdN enc Tryz.prog W n 209 Zdu := fun cs x hx => by
 obtain ⟨xs, m, rfl, rfl, hcl, hxl, hf⟩ := DataW.trod_struct Tryz.underlying209 hx
 obtain ⟨v0, r0, b0⟩ := rf (Zc0 Tryz.underlying3) (hf 0 _ rfl) hxl
 obtain ⟨v1, r1, b1⟩ := rf (Zc0 Tryz.underlying3) (hf 1 _ rfl) hxl
 have q := ZcW (Zaz b0 (ZcV b1))
 exact ⟨.mk v0 v1, ⟨by rw [hcl]; kernel_rfl, (r0.at.app r1.at)⟩, q⟩
theorem ZFb (n : Nat) : RdN enc Tryz.prog W n 49 ZbG := fun cs x hx => by
 obtain ⟨xs, m, rfl, rfl, hcl, hxl, hf⟩ := DataW.trod_struct Tryz.underlying49 hx
 obtain ⟨v0, r0, b0⟩ := rf (ZcY Tryz.underlying9) (hf 0 _ rfl) hxl
 obtain ⟨v1, r1, b1⟩ := rf (ZaP Tryz.underlying44 (by kernel_rfl : Tryz.prog.cellsOf 55 = 16) (by decide) (fun _ => rfl) (fun k hk => (ZDd k))) (hf 1 _ rfl) hxl
 obtain ⟨v2, r2, b2⟩ := rf (ZaP Tryz.underlying45 (by kernel_rfl : Tryz.prog.cellsOf 209 = 2) (by decide) (fun _ => rfl) (fun k hk => (ZvI k))) (hf 2 _ rfl) hxl
 obtain ⟨v3, r3, b3⟩ := rf (ZaP Tryz.underlying46 (by kernel_rfl : Tryz.prog.cellsOf 9 = 1) (by decide) (fun _ => rfl) (fun k hk => (ZcY Tryz.underlying9))) (hf 3 _ rfl) hxl
 obtain ⟨v4, r4, b4⟩ := rf (ZaP Tryz.underlying47 (by kernel_rfl : Tryz.prog.cellsOf 135 = 8) (by decide) (fun _ => rfl) (fun k hk => (ZlY k))) (hf 4 _ rfl) hxl
 have q := ZcW (Zaz b0 (Zaz b1 (Zaz b2 (Zaz b3 (ZcV b4)))))
 exact ⟨.mk v0 v1 v2 v3 v4, ⟨by rw [hcl]; kernel_rfl, (r0.at.app (r1.at.app (r2.at.app (r3.at.app r4.at))))⟩, q⟩
theorem ZDI (n : Nat) : RdN enc Tryz.prog W n 99 ZrF := fun cs x hx => by
 obtain ⟨xs, m, rfl, rfl, hcl, hxl, hf⟩ := DataW.trod_struct Tryz.underlying99 hx
 obtain ⟨v0, r0, b0⟩ := rf (ZcY Tryz.underlying9) (hf 0 _ rfl) hxl
 obtain ⟨v1, r1, b1⟩ := rf (Zc0 Tryz.underlying3) (hf 1 _ rfl) hxl
 obtain ⟨v2, r2, b2⟩ := rf (ZaP Tryz.underlying47 (by kernel_rfl : Tryz.prog.cellsOf 135 = 8) (by decide) (fun _ => rfl) (fun k hk => (ZlY k))) (hf 2 _ rfl) hxl
 have q := ZcW (Zaz b0 (Zaz b1 (ZcV b2)))
 exact ⟨.mk v0 v1 v2, ⟨by rw [hcl]; kernel_rfl, (r0.at.app (r1.at.app r2.at))⟩, q⟩
theorem ZCJ (n : Nat) : RdN enc Tryz.prog W n 97 Zca := fun cs x hx => by
 obtain ⟨xs, m, rfl, rfl, hcl, hxl, hf⟩ := DataW.trod_struct Tryz.underlying97 hx
 obtain ⟨v0, r0, b0⟩ := rf (ZcY Tryz.underlying9) (hf 0 _ rfl) hxl
 obtain ⟨v1, r1, b1⟩ := rf (Zqk Tryz.underlying4) (hf 1 _ rfl) hxl
 obtain ⟨v2, r2, b2⟩ := rf (ZaP Tryz.underlying95 (by kernel_rfl : Tryz.prog.cellsOf 99 = 3) (by decide) (fun _ => rfl) (fun k hk => (ZDI k))) (hf 2 _ rfl) hxl
 obtain ⟨v3, r3, b3⟩ := rf (ZaP Tryz.underlying45 (by kernel_rfl : Tryz.prog.cellsOf 209 = 2) (by decide) (fun _ => rfl) (fun k hk => (ZvI k))) (hf 3 _ rfl) hxl
 obtain ⟨v4, r4, b4⟩ := rf (ZaP Tryz.underlying47 (by kernel_rfl : Tryz.prog.cellsOf 135 = 8) (by decide) (fun _ => rfl) (fun k hk => (ZlY k))) (hf 4 _ rfl) hxl
 have q := ZcW (Zaz b0 (Zaz b1 (Zaz b2 (Zaz b3 (ZcV b4)))))
 exact ⟨.mk v0 v1 v2 v3 v4, ⟨by rw [hcl]; kernel_rfl, (r0.at.app (r1.at.app (r2.at.app (r3.at.app r4.at))))⟩, q⟩
theorem ZE5 (n : Nat) : RdN enc Tryz.prog W n 104 ZrN := fun cs x hx => by
 obtain ⟨xs, m, rfl, rfl, hcl, hxl, hf⟩ := DataW.trod_struct Tryz.underlying104 hx
 obtain ⟨v0, r0, b0⟩ := rf (ZcY Tryz.underlying9) (hf 0 _ rfl) hxl
 obtain ⟨v1, r1, b1⟩ := rf (ZcY Tryz.underlying9) (hf 1 _ rfl) hxl
 obtain ⟨v2, r2, b2⟩ := rf (ZcY Tryz.underlying9) (hf 2 _ rfl) hxl
 obtain ⟨v3, r3, b3⟩ := rf (Zc0 Tryz.underlying3) (hf 3 _ rfl) hxl
 obtain ⟨v4, r4, b4⟩ := rf (ZaP Tryz.underlying47 (by kernel_rfl : Tryz.prog.cellsOf 135 = 8) (by decide) (fun _ => rfl) (fun k hk => (ZlY k))) (hf 4 _ rfl) hxl
 have q := ZcW (Zaz b0 (Zaz b1 (Zaz b2 (Zaz b3 (ZcV b4)))))
 exact ⟨.mk v0 v1 v2 v3 v4, ⟨by rw [hcl]; kernel_rfl, (r0.at.app (r1.at.app (r2.at.app (r3.at.app r4.at))))⟩, q⟩
theorem ZCt (n : Nat) : RdN enc Tryz.prog W n 102 ZcU := fun cs x hx => by
 obtain ⟨xs, m, rfl, rfl, hcl, hxl, hf⟩ := DataW.trod_struct Tryz.underlying102 hx
 obtain ⟨v0, r0, b0⟩ := rf (ZcY Tryz.underlying9) (hf 0 _ rfl) hxl
 obtain ⟨v1, r1, b1⟩ := rf (ZaP Tryz.underlying100 (by kernel_rfl : Tryz.prog.cellsOf 104 = 5) (by decide) (fun _ => rfl) (fun k hk => (ZE5 k))) (hf 1 _ rfl) hxl
 obtain ⟨v2, r2, b2⟩ := rf (ZaP Tryz.underlying47 (by kernel_rfl : Tryz.prog.cellsOf 135 = 8) (by decide) (fun _ => rfl) (fun k hk => (ZlY k))) (hf 2 _ rfl) hxl
 have q := ZcW (Zaz b0 (Zaz b1 (ZcV b2)))
 exact ⟨.mk v0 v1 v2, ⟨by rw [hcl]; kernel_rfl, (r0.at.app (r1.at.app r2.at))⟩, q⟩
theorem ZB3 (n : Nat) : RdN enc Tryz.prog W n 26 Zb4 := fun cs x hx => by
 obtain ⟨xs, m, rfl, rfl, hcl, hxl, hf⟩ := DataW.trod_struct Tryz.underlying26 hx
 obtain ⟨v0, r0, b0⟩ := rf (ZaP Tryz.underlying22 (by kernel_rfl : Tryz.prog.cellsOf 49 = 5) (by decide) (fun _ => rfl) (fun k hk => (ZFb k))) (hf 0 _ rfl) hxl
 obtain ⟨v1, r1, b1⟩ := rf (ZaP Tryz.underlying23 (by kernel_rfl : Tryz.prog.cellsOf 97 = 5) (by decide) (fun _ => rfl) (fun k hk => (ZCJ k))) (hf 1 _ rfl) hxl
 obtain ⟨v2, r2, b2⟩ := rf (ZaP Tryz.underlying24 (by kernel_rfl : Tryz.prog.cellsOf 102 = 3) (by decide) (fun _ => rfl) (fun k hk => (ZCt k))) (hf 2 _ rfl) hxl
 have q := ZcW (Zaz b0 (Zaz b1 (ZcV b2)))
 exact ⟨.mk v0 v1 v2, ⟨by rw [hcl]; kernel_rfl, (r0.at.app (r1.at.app r2.at))⟩, q⟩
end
end Go.Proofs.YtchkcemlglpobaaGreat
