import Derived.Test.YthhipejbnbochaaCw19
import Derived.Test.YthhipejbnbochaaCw11
import Derived.Test.YthhipejbnbochaaCw10
import Derived.Test.YthhipejbnbochaaRows
import Derived.WalkKit
import Derived.ProofKit
import Derived.OpenShut
import Derived.Carry
import Derived.Deep.DeepHandedRow
import Derived.Test.YthhipejbnbochaaCw00
namespace Go.Proofs.Ythhipejbnbochaa
set_option linter.all false
open Go Go.Eng
abbrev E28 : List ByteArray → AV := fun y => vL Zac y
def Zq5 (p1 : List ByteArray) (y1 : Web) : List ByteArray × Nat → St := fun (r2, v3) => mkS [(5, .iptr (Zcx y1) 0), (6, .ref (1, 6) 0 0 r2.length), (14, vL Zac p1), (15, vN p1.length), (16, vN v3)] [((1, 6), ⟨0, true, 9, 1, Zaf Zac r2⟩)]
def ZtL : List ByteArray → Nat × St := fun r18 => (0, mkS [(6, .ref (1, 6) 0 0 r18.length)] [((1, 6), ⟨0, true, 9, 1, Zaf Zac r18⟩)])
def ZvR (p1 : List ByteArray) (y1 : Web) (v3 : Nat) : List ByteArray × List (ByteArray × Bool) → St := fun (r11, r12) => mkS [(5, .iptr (Zcx y1) 0), (6, .ref (1, 6) 0 0 r11.length), (14, vL Zac p1), (15, vN p1.length), (16, vN v3), (48, .ptr (1, 48) 0 0)] [((1, 6), ⟨0, true, 9, 1, Zaf Zac r11⟩), ((1, 48), ⟨0, true, .i false (r12.map eEt) none, 0, []⟩)]
def ZuL (p1 : List ByteArray) (y1 : Web) (v3 : Nat) : List ByteArray → Nat × St := fun r16 => (2, mkS [(5, .iptr (Zcx y1) 0), (6, .ref (1, 6) 0 0 r16.length), (14, vL Zac p1), (15, vN p1.length), (16, vN v3)] [((1, 6), ⟨0, true, 9, 1, Zaf Zac r16⟩)])
def ZrH (p1 : List ByteArray) (y1 : Web) (v3 : Nat) (r11 : List ByteArray) (p13 : ByteArray × Bool) (l14 : List (ByteArray × Bool)) : PT 0 (List (Lv (List ByteArray × List (ByteArray × Bool)) (List ByteArray) (List ByteArray))) := vw .sep <| vw .sep <| ap r11 (p13.1 : ByteArray) <| cl (ZxK y1 p13.1) fun y15 => aq (r11 ++ [p13.1]) y15 <| vz (fl ((r11 ++ [p13.1]) ++ y15)) <| lnN (ZvR p1 y1 v3) ((r11 ++ [p13.1]) ++ y15, l14)
def Zr8 (p1 : List ByteArray) (y1 : Web) (v3 : Nat) (r11 : List ByteArray) (p13 : ByteArray × Bool) (l14 : List (ByteArray × Bool)) : PT 0 (List (Lv (List ByteArray × List (ByteArray × Bool)) (List ByteArray) (List ByteArray))) := vz (fl r11) <| lc (mkS [(5, .iptr (Zcx y1) 0), (6, .ref (1, 6) 0 0 r11.length), (11, vS p13.1), (14, vL Zac p1), (15, vN p1.length), (16, vN v3), (48, .ptr (1, 48) 0 0)] [((1, 6), ⟨0, true, 9, 1, Zaf Zac r11⟩), ((1, 48), ⟨0, true, .i false (l14.map eEt) none, 0, []⟩)]) ((ZrH p1 y1 v3 r11 p13 l14).m)
def ZoI (p1 : List ByteArray) (y1 : Web) (v3 : Nat) (r11 : List ByteArray) (r12 : List (ByteArray × Bool)) : PT 0 (List (Lv (List ByteArray × List (ByteArray × Bool)) (List ByteArray) (List ByteArray))) := nxN r12 (vw .go <| vz (fl r11) <| ZmZ (ZuL p1 y1 v3) r11) fun p13 l14 => vw .go <| vz (fl r11) <| lc (mkS [(5, .iptr (Zcx y1) 0), (6, .ref (1, 6) 0 0 r11.length), (14, vL Zac p1), (15, vN p1.length), (16, vN v3), (48, .ptr (1, 48) 0 0)] [((1, 6), ⟨0, true, 9, 1, Zaf Zac r11⟩), ((1, 48), ⟨0, true, .i false (l14.map eEt) (some (eEt p13)), 0, []⟩)]) ((Zr8 p1 y1 v3 r11 p13 l14).m)
def ZlU (p1 : List ByteArray) (y1 : Web) (v3 : Nat) : List ByteArray × List (ByteArray × Bool) → Option (List (Lv (List ByteArray × List (ByteArray × Bool)) (List ByteArray) (List ByteArray))) := fun (r11, r12) => (ZoI p1 y1 v3 r11 r12).m
def Zny (p1 : List ByteArray) (y1 : Web) (v3 : Nat) (r16 : List ByteArray) : PT 0 (List (Lv (List ByteArray × Nat) (List ByteArray) (List ByteArray))) := vs (wa v3 1) <| vz (fl r16) <| lnN (Zq5 p1 y1) (r16, v3 + 1)
def ZoF (p1 : List ByteArray) (y1 : Web) (r2 : List ByteArray) (v3 : Nat) (e4 : ByteArray) (y9 : List ByteArray) : PT 0 (List (Lv (List ByteArray × Nat) (List ByteArray) (List ByteArray))) := cl (ZxM y1 e4) fun y10 => vz (fl ((r2 ++ [e4]) ++ y9)) <| lc (mkS [(5, .iptr (Zcx y1) 0), (6, .ref (1, 6) 0 0 ((r2 ++ [e4]) ++ y9).length), (14, vL Zac p1), (15, vN p1.length), (16, vN v3), (48, .ptr (1, 48) 0 0)] [((1, 6), ⟨0, true, 9, 1, Zaf Zac ((r2 ++ [e4]) ++ y9)⟩), ((1, 48), ⟨0, true, .i false (y10.map eEt) none, 0, []⟩)]) (ZdA (Zda (ZlU p1 y1 v3) big ((r2 ++ [e4]) ++ y9, y10)) (Sum.elim (fun r16 => (Zny p1 y1 v3 r16).m) (fun z => some [.rt z])))
def Zne (p1 : List ByteArray) (y1 : Web) (r2 : List ByteArray) (v3 : Nat) (e4 : ByteArray) : PT 0 (List (Lv (List ByteArray × Nat) (List ByteArray) (List ByteArray))) := vw .sep <| vw .sep <| ap r2 (e4 : ByteArray) <| cl (ZxK y1 e4) fun y9 => aq (r2 ++ [e4]) y9 <| vz (fl ((r2 ++ [e4]) ++ y9)) <| lc (mkS [(5, .iptr (Zcx y1) 0), (6, .ref (1, 6) 0 0 ((r2 ++ [e4]) ++ y9).length), (8, vS e4), (14, vL Zac p1), (15, vN p1.length), (16, vN v3)] [((1, 6), ⟨0, true, 9, 1, Zaf Zac ((r2 ++ [e4]) ++ y9)⟩)]) ((ZoF p1 y1 r2 v3 e4 y9).m)
def Znf (p1 : List ByteArray) (y1 : Web) (v3 : Nat) (r17 : List ByteArray) : PT 0 (List (Lv (List ByteArray × Nat) (List ByteArray) (List ByteArray))) := vs (wa v3 1) <| vz (fl r17) <| lnN (Zq5 p1 y1) (r17, v3 + 1)
def ZlB (p1 : List ByteArray) (y1 : Web) (v3 : Nat) : List ByteArray → St := fun r17 => mkS [(5, .iptr (Zcx y1) 0), (6, .ref (1, 6) 0 0 r17.length), (14, vL Zac p1), (15, vN p1.length), (16, vN v3)] [((1, 6), ⟨0, true, 9, 1, Zaf Zac r17⟩)]
def ZeT (p1 : List ByteArray) (y1 : Web) (v3 : Nat) : List ByteArray → Option (List (Lv (List ByteArray × Nat) (List ByteArray) (List ByteArray))) := fun r17 => (Znf p1 y1 v3 r17).m
def Zoi (p1 : List ByteArray) (y1 : Web) (r2 : List ByteArray) (v3 : Nat) : PT 0 (List (Lv (List ByteArray × Nat) (List ByteArray) (List ByteArray))) := ix p1 v3 fun e4 => mlk y1.messages e4 fun m5 b6 => vw .go <| br (!b6) (mlk y1.enums e4 fun m7 b8 => br m7 (vw .sep <| vw .sep <| ap r2 (e4 : ByteArray) <| vz (fl (r2 ++ [e4])) <| lxc 1 (ZlB p1 y1 v3 (r2 ++ [e4])) (ZeT p1 y1 v3 (r2 ++ [e4]))) (vz (fl r2) <| lxc 1 (ZlB p1 y1 v3 r2) (ZeT p1 y1 v3 r2))) (vz (fl r2) <| lc (mkS [(5, .iptr (Zcx y1) 0), (6, .ref (1, 6) 0 0 r2.length), (8, vS e4), (14, vL Zac p1), (15, vN p1.length), (16, vN v3)] [((1, 6), ⟨0, true, 9, 1, Zaf Zac r2⟩)]) ((Zne p1 y1 r2 v3 e4).m))
def Zis (p1 : List ByteArray) (y1 : Web) (r2 : List ByteArray) (v3 : Nat) : PT 0 (List (Lv (List ByteArray × Nat) (List ByteArray) (List ByteArray))) := br (decide ((v3 : Int) < (p1.length : Int))) (vz (fl r2) <| lc (mkS [(5, .iptr (Zcx y1) 0), (6, .ref (1, 6) 0 0 r2.length), (14, vL Zac p1), (15, vN p1.length), (16, vN v3)] [((1, 6), ⟨0, true, 9, 1, Zaf Zac r2⟩)]) ((Zoi p1 y1 r2 v3).m)) (vz (fl r2) <| ZmZ (ZtL) r2)
def Zkc (p1 : List ByteArray) (y1 : Web) : List ByteArray × Nat → Option (List (Lv (List ByteArray × Nat) (List ByteArray) (List ByteArray))) := fun (r2, v3) => (Zis p1 y1 r2 v3).m
def ZlD (y20 : List ByteArray) : PT 0 (List (List ByteArray)) := vz (fr y20) <| lrN E28 (fun _ => []) y20
def ZkP (y20 : List ByteArray) : PT 0 (List (List ByteArray)) := vz (fl y20) <| lc (mkS [(4, .ref (1, 6) 0 0 y20.length)] [((1, 6), ⟨0, true, 9, 1, Zaf Zac y20⟩)]) ((ZlD y20).m)
def Zmg (y19 : List ByteArray) : PT 0 (List (List ByteArray)) := vz (fl y19) <| lc (mkS [(64, .ref (1, 6) 0 0 y19.length)] [((1, 6), ⟨0, true, 9, 1, Zaf Zac y19⟩)]) ((ZaQ y19).bind fun y20 => (ZkP y20).m)
def Zl4 (r18 : List ByteArray) (y19 : List ByteArray) : PT 0 (List (List ByteArray)) := rn 6 6 r18.length y19 <| vz (fl y19) <| lc (mkS [(6, .ref (1, 6) 0 0 y19.length)] [((1, 6), ⟨0, true, 9, 1, Zaf Zac y19⟩)]) ((Zmg y19).m)
def ZkM (r18 : List ByteArray) : PT 0 (List (List ByteArray)) := vz (fl r18) <| lc (mkS [(6, .ref (1, 6) 0 0 r18.length), (62, .ref (1, 6) 0 0 r18.length)] [((1, 6), ⟨0, true, 9, 1, Zaf Zac r18⟩)]) ((Za8 r18).bind fun y19 => (Zl4 r18 y19).m)
def Zmk (p1 : List ByteArray) (y1 : Web) : PT 0 (List (List ByteArray)) := vw (.ads 6 6 9 1) <| vw (.fzb 5 [5]) <| vz (fl ([] : List ByteArray)) <| lc (mkS [(5, .iptr (Zcx y1) 0), (6, .ref (1, 6) 0 0 ([] : List ByteArray).length), (14, vL Zac p1), (15, vN p1.length), (16, vI 0)] [((1, 6), ⟨0, true, 9, 1, Zaf Zac ([] : List ByteArray)⟩)]) (ZdA (Zda (Zkc p1 y1) big (([] : List ByteArray), 0)) (Sum.elim (fun r18 => (ZkM r18).m) (fun z => some [z])))
def ZlM (p1 : List ByteArray) (y1 : Web) : PT 0 (List (List ByteArray)) := vz (eqL p1) <| lc (mkS [(5, .ptr (1, 5) 0 0), (6, .e0), (14, vL Zac p1), (15, vN p1.length), (16, vI 0)] [((1, 5), ⟨0, true, 69, 2, [.d (.map true (y1.messages.map eEt)), .d (.map false (y1.enums.map eEt))]⟩)]) ((Zmk p1 y1).m)
def ZmF (p0 : Scm) (p1 : List ByteArray) : PT 0 (List (List ByteArray)) := vw .go <| cl (Zu5 p0) fun y1 => vw .go <| lc (mkS [(1, vL Zac p1), (5, .ptr (1, 5) 0 0), (6, .e0)] [((1, 5), ⟨0, true, 69, 2, [.d (.map true (y1.messages.map eEt)), .d (.map false (y1.enums.map eEt))]⟩)]) ((ZlM p1 y1).m)
def ZbO (p0 : Scm) (p1 : List ByteArray) : Option (List (List ByteArray)) := (ZmF p0 p1).m
set_option maxRecDepth 100000 in
theorem ZsC {C : Cx} (co : CO C 0) (p1 : List ByteArray) (y1 : Web) (v3 : Nat) : KLN Try.prog (lkT tl) 66 C (pa [0, 0, 1, 1, 1, 1, 0, 0, 1, 1, 0, 0, 1, 0, 1, 1, 1] (Zal Try.f28)) [.tmp 4] 0 (ZvR p1 y1 v3) (ZuL p1 y1 v3) E28 (fun _ => []) (ZlU p1 y1 v3) := fun (r11, r12) _ hm Q Post hQ hL => ZaD co tok tmo 2 (ZoI p1 y1 v3 r11 r12) (lf2 [5, 6, 14, 15, 16, 48] [((1, 6), true), ((1, 48), false)]) (lf2 [5, 6, 14, 15, 16] [((1, 6), true)]) hQ hm hL fun r g => ⟨Zed _, fun h => h _ (.head _), fun p13 l14 => fun _ hm hL => bk 3 (ZaD co tok tmo 1 (Zr8 p1 y1 v3 r11 p13 l14) (lf2 [5, 6, 11, 14, 15, 16, 48] [((1, 6), true), ((1, 48), false)]) nl hQ hm hL fun r g => fun _ hm hL => Zs0 co tok tmo (.fst 0 (.fst 1 (.fst 4 (.fst 5 (.fst 2 (.fst 3 (.fst 6 (.fst 7 (.fst 8 .nil))))))))) [5] (ZrH p1 y1 v3 r11 p13 l14) (lf2 [5, 6, 14, 15, 16, 48] [((1, 6), true), ((1, 48), false)]) hm hL fun r g => fun y15 => fun h => h _ (.head _))⟩
set_option maxRecDepth 100000 in
theorem Zri {C : Cx} (co : CO C 0) (p1 : List ByteArray) (y1 : Web) : KLN Try.prog (lkT tl) 66 C (pa [0, 0, 1, 0, 1, 1, 1] (Zal Try.f28)) [.tmp 4] 0 (Zq5 p1 y1) (ZtL) E28 (fun _ => []) (Zkc p1 y1) := fun (r2, v3) _ hm Q Post hQ hL => ZaD co tok tmo 2 (Zis p1 y1 r2 v3) (lf2 [5, 6, 14, 15, 16] [((1, 6), true)]) (lf2 [6] [((1, 6), true)]) hQ hm hL fun r g => ⟨fun _ hm hL => sq (bk 1 (Zxv co tok tmo 2 (Zoi p1 y1 r2 v3) (lf2 [5, 6, 8, 14, 15, 16] [((1, 6), true)]) (lf2 [5, 6, 14, 15, 16] [((1, 6), true)]) hQ hm hL 1 (ZlB p1 y1 v3) (ZeT p1 y1 v3) (fun r17 _ hm hL => Zb7 co tok tmo (Znf p1 y1 v3 r17) (lf2 [5, 6, 14, 15, 16] [((1, 6), true)]) nl hQ hm hL fun r g => fun h => h _ (.head _)) fun J8 r g => fun e4 => fun m5 b6 => ⟨fun m7 b8 => ⟨J8 (r2 ++ [e4]), J8 r2⟩, fun _ hm hL => sq (Zs0 co tok tmo (.fst 0 (.fst 1 (.fst 4 (.fst 5 (.fst 2 (.fst 3 (.fst 6 (.fst 7 (.fst 8 .nil))))))))) [5] (Zne p1 y1 r2 v3 e4) (lf2 [5, 6, 8, 14, 15, 16] [((1, 6), true)]) hm hL fun r g => fun y9 => fun _ hm hL => ZaD co tok tmo 1 (ZoF p1 y1 r2 v3 e4 y9) (lf2 [5, 6, 14, 15, 16, 48] [((1, 6), true), ((1, 48), false)]) nl hQ hm hL fun r g => fun y10 => fun _ hm hL => bk 2 (lo (Zyz (ZsC co p1 y1 v3) hQ hm hL (fun r16 _ hm hL => Zb7 co tok tmo (Zny p1 y1 v3 r16) (lf2 [5, 6, 14, 15, 16] [((1, 6), true)]) nl hQ hm hL fun r g => fun h => h _ (.head _)))))⟩)), fun h => h _ (.head _)⟩
set_option maxRecDepth 100000 in
theorem ZyT (p0 : Scm) (p1 : List ByteArray) : KCN Try.prog 28 [.agg ((ZbR p0).map .d), vL Zac p1] (ZbO p0 p1) E28 := ZxA Try.func28 Try.ntmps28 tok [.tmp 4] fun C co y hm Post hL => ZaD co tok tmo 3 (ZmF p0 p1) (lf2 [1, 5, 6] [((1, 5), false)]) nl (fun _ h => h) hm hL fun r g => fun y1 => fun _ hm hL => sq (ZaD co tok tmo 1 (ZlM p1 y1) (lf2 [5, 6, 14, 15, 16] [((1, 5), false)]) nl (fun _ h => h) hm hL fun r g => fun _ hm hL => bk 0 (Zi1 co (Zmk p1 y1) (lf2 [5, 6, 14, 15, 16] [((1, 6), true)]) hm hL fun r g => fun _ hm hL => lo (Zvj (Zri co p1 y1) (fun _ h => h) hm hL (fun r18 _ hm hL => sq (rg (ZlX co tok 1 (ZkM r18) (lf2 [6, 62] [((1, 6), true)]) hm hL fun r g => fun _ hm hL => Ze4 co hm 51 [.ref (1, 6) 0 0 r18.length] [(1, 6)] ([((1, 6), ⟨0, true, 9, 1, Zaf Zac r18⟩)] ++ []) (fun z => .tup []) (fun z => [((1, 6), ⟨0, true, 9, 1, Zaf Zac z⟩)]) [] (fun z => trivial) (trivial) (fun z hz r g => Za2 (ZxH r18) hz co g [((1, 6), ⟨0, true, 9, 1, Zaf Zac r18⟩)] [] [((1, 6), ⟨0, true, 9, 1, Zaf Zac z⟩)] (lkS []) (fun H' hg ho => trivial) (fun H => ⟨fun _ => ⟨rfl, Zas (Zah _ _) (by kernel_rfl)⟩, by kernel_rfl, trivial⟩) (fun H => ⟨fun _ => ⟨rfl, Zas (Zah _ _) (by kernel_rfl)⟩, by kernel_rfl, trivial⟩)) fun y19 hm => Zkk co tok (Zl4 r18 y19) (lf2 [6] [((1, 6), true)]) hm hL fun r g => fun _ hm hL => sq (rg (ZlX co tok 1 (Zmg y19) (lf2 [64] [((1, 6), true)]) hm hL fun r g => fun _ hm hL => Ze4 co hm 52 [.ref (1, 6) 0 0 y19.length] [(1, 6)] ([((1, 6), ⟨0, true, 9, 1, Zaf Zac y19⟩)] ++ []) (fun z => .ref (1, 6) 0 0 z.length) (fun z => [((1, 6), ⟨0, true, 9, 1, Zaf Zac z⟩)]) [] (fun z => trivial) (trivial) (fun z hz r g => Za2 (Zya y19) hz co g [((1, 6), ⟨0, true, 9, 1, Zaf Zac y19⟩)] [] [((1, 6), ⟨0, true, 9, 1, Zaf Zac z⟩)] (lkS []) (fun H' hg ho => trivial) (fun H => ⟨fun _ => ⟨rfl, Zas (Zah _ _) (by kernel_rfl)⟩, by kernel_rfl, trivial⟩) (fun H => ⟨fun _ => ⟨rfl, Zas (Zah _ _) (by kernel_rfl)⟩, by kernel_rfl, trivial⟩)) fun y20 hm => Zkk co tok (ZkP y20) (lf2 [4] [((1, 6), true)]) hm hL fun r g => fun _ hm hL => Zcl co tok tmo (ZlD y20) hm hL fun r g => fun h => h _ (.head _)))))))))
def ZcH (p0 : Scm) (p1 : List ByteArray) : Option (List ByteArray) := Zsj (ZbO p0 p1)
theorem Zux (p0 : Scm) (p1 : List ByteArray) : KC Try.prog 28 [.agg ((ZbR p0).map .d), vL Zac p1] (ZcH p0 p1) E28 := (ZyT p0 p1).uniq
abbrev E14 : Bool → AV := fun y => vB y
def Zt7 (p0 : List ByteArray) (p1 : List ByteArray) : Nat → St := fun v1 => mkS [(0, vL Zac p0), (1, vL Zac p1), (5, vN v1)] []
def Zvs : Unit → Nat × St := fun _ => (0, mkS [] [])
def Znv (p0 : List ByteArray) (p1 : List ByteArray) (v1 : Nat) : PT 0 (Lv (Nat) (Unit) (Bool)) := vz (eqL p0) <| br (decide ((v1 : Int) < (p0.length : Int))) (ix p0 v1 fun e2 => ix p1 v1 fun e3 => br (!decide (e2 = e3)) (lrt E14 (fun _ => []) false) (vs (wa v1 1) <| ln (Zt7 p0 p1) (v1 + 1))) (lxe (Zvs) ())
def Zli (p0 : List ByteArray) (p1 : List ByteArray) : Nat → Option (Lv (Nat) (Unit) (Bool)) := fun v1 => (Znv p0 p1 v1).m
def ZsE : PT 0 (Bool) := lr E14 (fun _ => []) true
def Zrg (p0 : List ByteArray) (p1 : List ByteArray) : PT 0 (Bool) := lc (mkS [(0, vL Zac p0), (1, vL Zac p1), (5, vI 0)] []) ((Zao (Zli p0 p1) big 0).bind (Sum.elim (fun _ => (ZsE).m) some))
def ZsD (p0 : List ByteArray) (p1 : List ByteArray) : PT 0 (Bool) := vz (eqL p0) <| vz (eqL p1) <| br (!decide ((p0.length : Int) = (p1.length : Int))) (lr E14 (fun _ => []) false) (lc (mkS [(0, vL Zac p0), (1, vL Zac p1)] []) ((Zrg p0 p1).m))
def ZaO (p0 : List ByteArray) (p1 : List ByteArray) : Option (Bool) := (ZsD p0 p1).m
set_option maxRecDepth 100000 in
theorem Zrs {C : Cx} (co : CO C 0) (p0 : List ByteArray) (p1 : List ByteArray) : KL Try.prog (lkT tl) 26 C (pa [0, 0, 1, 0, 1, 1] (Zal Try.f14)) [.tmp 4] 0 (Zt7 p0 p1) (Zvs) E14 (fun _ => []) (Zli p0 p1) := fun v1 _ hm Q Post hQ hL => Zb7 co tok tmo (Znv p0 p1 v1) (lf1 [0, 1, 5]) nl hQ hm hL fun r g => ⟨fun e2 => fun e3 => ⟨id, id⟩, id⟩
set_option maxRecDepth 100000 in
theorem ZyR (p0 : List ByteArray) (p1 : List ByteArray) : KC Try.prog 14 [vL Zac p0, vL Zac p1] (ZaO p0 p1) E14 := kc1 Try.func14 Try.ntmps14 tok [.tmp 4] fun C co y hm Post hL => ZaD co tok tmo 2 (ZsD p0 p1) (lf1 [0, 1]) nl (fun _ h => h) hm hL fun r g => ⟨id, fun _ hm hL => sq (ZaD co tok tmo 1 (Zrg p0 p1) (lf1 [0, 1, 5]) nl (fun _ h => h) hm hL fun r g => fun _ hm hL => bk 0 (lo (lpF (Zrs co p0 p1) (fun _ h => h) hm hL (fun _ hm => Zcl co tok tmo (ZsE) hm hL fun r g => id))))⟩
abbrev E29 : List ByteArray → AV := fun y => vL Zac y
def ZqX (p0 : Scm) (p1 : ByteArray) : PT 0 (List ByteArray) := vw .go <| cl (Zu5 p0) fun y1 => cl (ZxK y1 p1) fun y2 => lr E29 (fun _ => []) y2
def ZcE (p0 : Scm) (p1 : ByteArray) : Option (List ByteArray) := (ZqX p0 p1).m
set_option maxRecDepth 100000 in
theorem ZzH (p0 : Scm) (p1 : ByteArray) : KC Try.prog 29 [.agg ((ZbR p0).map .d), vS p1] (ZcE p0 p1) E29 := kc1 Try.func29 Try.ntmps29 tok [.tmp 4] fun C co y hm Post hL => Zcl co tok tmo (ZqX p0 p1) hm hL fun r g => fun y1 => fun y2 => id
abbrev E30 : List ByteArray → AV := fun y => vL Zac y
def ZqZ (p0 : Scm) (y1 : Msg × Int) : List ByteArray × Nat → St := fun (v2, v3) => mkS [(2, .ptr (1, 2) 0 0), (5, vL Zac v2), (6, .ptr (1, 6) 0 0), (8, vN v3)] [((1, 2), ⟨0, true, 26, 3, [vL Zbe p0.messages, vL Zby p0.enums, vL ZbP p0.services]⟩), ((1, 6), ⟨0, true, 42, 5, [vS y1.1.name, vL Zdj y1.1.fields, vL Zk3 y1.1.reserved, vL Zac y1.1.gone, vL eNt y1.1.notes]⟩)]
def ZvG : List ByteArray → Nat × St := fun v7 => (0, mkS [(5, vL Zac v7)] [])
def Zn0 (p0 : Scm) (y1 : Msg × Int) (v2 : List ByteArray) (v3 : Nat) : PT 0 (Lv (List ByteArray × Nat) (List ByteArray) (List ByteArray)) := vw .go <| vz (eqL y1.1.fields) <| br (decide ((v3 : Int) < (y1.1.fields.length : Int))) (vw .go <| vw .go <| ix y1.1.fields v3 fun e4 => cl (ZyF p0 e4) fun y5 => br y5.2 (cl (ZsW v2 y5.1) fun y6 => vs (wa v3 1) <| ln (ZqZ p0 y1) (y6, v3 + 1)) (vs (wa v3 1) <| ln (ZqZ p0 y1) (v2, v3 + 1))) (lxe (ZvG) v2)
def Zl7 (p0 : Scm) (y1 : Msg × Int) : List ByteArray × Nat → Option (Lv (List ByteArray × Nat) (List ByteArray) (List ByteArray)) := fun (v2, v3) => (Zn0 p0 y1 v2 v3).m
def Zrx (v7 : List ByteArray) : PT 0 (List ByteArray) := lr E30 (fun _ => []) v7
def Zr9 (p0 : Scm) (y1 : Msg × Int) : PT 0 (List ByteArray) := vw (.ads 5 5 9 1) <| vw (.frz 5 [(5, (([] : List ByteArray).map Zac))] []) <| vz (fz ([] : List ByteArray)) <| lc (mkS [(2, .ptr (1, 2) 0 0), (5, vL Zac ([] : List ByteArray)), (6, .ptr (1, 6) 0 0), (8, vI 0)] [((1, 2), ⟨0, true, 26, 3, [vL Zbe p0.messages, vL Zby p0.enums, vL ZbP p0.services]⟩), ((1, 6), ⟨0, true, 42, 5, [vS y1.1.name, vL Zdj y1.1.fields, vL Zk3 y1.1.reserved, vL Zac y1.1.gone, vL eNt y1.1.notes]⟩)]) ((Zao (Zl7 p0 y1) big (([] : List ByteArray), 0)).bind (Sum.elim (fun v7 => (Zrx v7).m) some))
def Zqd (p0 : Scm) (y1 : Msg × Int) : PT 0 (List ByteArray) := lc (mkS [(2, .ptr (1, 2) 0 0), (5, .e0), (6, .ptr (1, 6) 0 0), (8, vI 0)] [((1, 2), ⟨0, true, 26, 3, [vL Zbe p0.messages, vL Zby p0.enums, vL ZbP p0.services]⟩), ((1, 6), ⟨0, true, 42, 5, [vS y1.1.name, vL Zdj y1.1.fields, vL Zk3 y1.1.reserved, vL Zac y1.1.gone, vL eNt y1.1.notes]⟩)]) ((Zr9 p0 y1).m)
def Zsm (p0 : Scm) (p1 : ByteArray) : PT 0 (List ByteArray) := vw .go <| cl (Zvz p0 p1) fun y1 => vw .go <| lc (mkS [(2, .ptr (1, 2) 0 0), (5, .e0), (6, .ptr (1, 6) 0 0)] [((1, 2), ⟨0, true, 26, 3, [vL Zbe p0.messages, vL Zby p0.enums, vL ZbP p0.services]⟩), ((1, 6), ⟨0, true, 42, 5, [vS y1.1.name, vL Zdj y1.1.fields, vL Zk3 y1.1.reserved, vL Zac y1.1.gone, vL eNt y1.1.notes]⟩)]) ((Zqd p0 y1).m)
def ZaX (p0 : Scm) (p1 : ByteArray) : Option (List ByteArray) := (Zsm p0 p1).m
set_option maxRecDepth 100000 in
theorem Zr1 {C : Cx} (co : CO C 0) (p0 : Scm) (y1 : Msg × Int) : KL Try.prog (lkT tl) 39 C (pa [0, 0, 1, 0, 1, 1, 1] (Zal Try.f30)) [.tmp 4] 0 (ZqZ p0 y1) (ZvG) E30 (fun _ => []) (Zl7 p0 y1) := fun (v2, v3) _ hm Q Post hQ hL => Zb7 co tok tmo (Zn0 p0 y1 v2 v3) (lf2 [2, 5, 6, 8] [((1, 2), false), ((1, 6), false)]) (lf1 [5]) hQ hm hL fun r g => ⟨fun e4 => fun y5 => ⟨fun y6 => id, id⟩, id⟩
set_option maxRecDepth 100000 in
theorem ZzD (p0 : Scm) (p1 : ByteArray) : KC Try.prog 30 [.agg ((ZbR p0).map .d), vS p1] (ZaX p0 p1) E30 := kc1 Try.func30 Try.ntmps30 tok [.tmp 4] fun C co y hm Post hL => ZaD co tok tmo 3 (Zsm p0 p1) (lf2 [2, 5, 6] [((1, 2), false), ((1, 6), false)]) nl (fun _ h => h) hm hL fun r g => fun y1 => fun _ hm hL => sq (ZaD co tok tmo 1 (Zqd p0 y1) (lf2 [2, 5, 6, 8] [((1, 2), false), ((1, 6), false)]) nl (fun _ h => h) hm hL fun r g => fun _ hm hL => bk 0 (Zi1 co (Zr9 p0 y1) (lf2 [2, 5, 6, 8] [((1, 2), false), ((1, 6), false)]) hm hL fun r g => fun _ hm hL => lo (lpF (Zr1 co p0 y1) (fun _ h => h) hm hL (fun v7 hm => Zcl co tok tmo (Zrx v7) hm hL fun r g => id))))
abbrev E54 : Bool → AV := fun y => vB y
def Zra (p0 : Scm) (p1 : ByteArray) : PT 0 (Bool) := vw .go <| cl (Zvz p0 p1) fun y1 => vw .go <| vw .go <| cl (ZwX p0 p1) fun y2 => vw .go <| lr E54 (fun _ => []) (decide ((0 : Int) ≤ y1.2) || decide ((0 : Int) ≤ y2.2))
def ZaH (p0 : Scm) (p1 : ByteArray) : Option (Bool) := (Zra p0 p1).m
set_option maxRecDepth 100000 in
theorem ZzO (p0 : Scm) (p1 : ByteArray) : KC Try.prog 54 [.agg ((ZbR p0).map .d), vS p1] (ZaH p0 p1) E54 := kc1 Try.func54 Try.ntmps54 tok [.tmp 4] fun C co y hm Post hL => Zcl co tok tmo (Zra p0 p1) hm hL fun r g => fun y1 => fun y2 => id
abbrev E31 : List ByteArray → AV := fun y => vL Zac y
def ZuS (p0 : Scm) (p1 : List ByteArray) : List ByteArray × Nat → St := fun (v1, v2) => mkS [(1, vL Zac p1), (2, .ptr (1, 2) 0 0), (5, vL Zac v1), (6, vN v2)] [((1, 2), ⟨0, true, 26, 3, [vL Zbe p0.messages, vL Zby p0.enums, vL ZbP p0.services]⟩)]
def Zxm (p0 : Scm) (p1 : List ByteArray) : List ByteArray → Nat × St := fun v7 => (0, mkS [(1, vL Zac p1), (2, .ptr (1, 2) 0 0), (5, vL Zac v7)] [((1, 2), ⟨0, true, 26, 3, [vL Zbe p0.messages, vL Zby p0.enums, vL ZbP p0.services]⟩)])
def ZsK (p0 : Scm) (p1 : List ByteArray) (v1 : List ByteArray) (v2 : Nat) : PT 0 (Lv (List ByteArray × Nat) (List ByteArray) (List ByteArray)) := vz (eqL p1) <| br (decide ((v2 : Int) < (p1.length : Int))) (vw .go <| ix p1 v2 fun e3 => cl (ZzO p0 e3) fun y4 => br y4 (ix p1 v2 fun e5 => cl (ZsW v1 e5) fun y6 => vs (wa v2 1) <| ln (ZuS p0 p1) (y6, v2 + 1)) (vs (wa v2 1) <| ln (ZuS p0 p1) (v1, v2 + 1))) (lxe (Zxm p0 p1) v1)
def Zoa (p0 : Scm) (p1 : List ByteArray) : List ByteArray × Nat → Option (Lv (List ByteArray × Nat) (List ByteArray) (List ByteArray)) := fun (v1, v2) => (ZsK p0 p1 v1 v2).m
def Zxi (p0 : Scm) (y8 : List ByteArray) : List ByteArray × Nat → St := fun (v9, v10) => mkS [(2, .ptr (1, 2) 0 0), (5, vL Zac v9), (7, vL Zac y8), (8, vN v10)] [((1, 2), ⟨0, true, 26, 3, [vL Zbe p0.messages, vL Zby p0.enums, vL ZbP p0.services]⟩)]
def ZxI : List ByteArray → Nat × St := fun v18 => (2, mkS [(5, vL Zac v18)] [])
def Zxn (p0 : Scm) (y8 : List ByteArray) (v10 : Nat) (y12 : List ByteArray) : List ByteArray × Nat → St := fun (v13, v14) => mkS [(2, .ptr (1, 2) 0 0), (5, vL Zac v13), (7, vL Zac y8), (8, vN v10), (9, vL Zac y12), (10, vN v14)] [((1, 2), ⟨0, true, 26, 3, [vL Zbe p0.messages, vL Zby p0.enums, vL ZbP p0.services]⟩)]
def Zxk (p0 : Scm) (y8 : List ByteArray) (v10 : Nat) : List ByteArray → Nat × St := fun v17 => (4, mkS [(2, .ptr (1, 2) 0 0), (5, vL Zac v17), (7, vL Zac y8), (8, vN v10)] [((1, 2), ⟨0, true, 26, 3, [vL Zbe p0.messages, vL Zby p0.enums, vL ZbP p0.services]⟩)])
def Zqz (p0 : Scm) (y8 : List ByteArray) (v10 : Nat) (y12 : List ByteArray) (v13 : List ByteArray) (v14 : Nat) : PT 0 (Lv (List ByteArray × Nat) (List ByteArray) (List ByteArray)) := vz (eqL y12) <| br (decide ((v14 : Int) < (y12.length : Int))) (ix y12 v14 fun e15 => cl (ZsW v13 e15) fun y16 => vs (wa v14 1) <| ln (Zxn p0 y8 v10 y12) (y16, v14 + 1)) (lxe (Zxk p0 y8 v10) v13)
def Zn4 (p0 : Scm) (y8 : List ByteArray) (v10 : Nat) (y12 : List ByteArray) : List ByteArray × Nat → Option (Lv (List ByteArray × Nat) (List ByteArray) (List ByteArray)) := fun (v13, v14) => (Zqz p0 y8 v10 y12 v13 v14).m
def Zru (p0 : Scm) (y8 : List ByteArray) (v10 : Nat) (v17 : List ByteArray) : PT 0 (Lv (List ByteArray × Nat) (List ByteArray) (List ByteArray)) := vs (wa v10 1) <| ln (Zxi p0 y8) (v17, v10 + 1)
def ZsO (p0 : Scm) (y8 : List ByteArray) (v9 : List ByteArray) (v10 : Nat) : PT 0 (Lv (List ByteArray × Nat) (List ByteArray) (List ByteArray)) := vw .go <| ix y8 v10 fun e11 => cl (ZzD p0 e11) fun y12 => lc (mkS [(2, .ptr (1, 2) 0 0), (5, vL Zac v9), (7, vL Zac y8), (8, vN v10), (9, vL Zac y12), (10, vI 0)] [((1, 2), ⟨0, true, 26, 3, [vL Zbe p0.messages, vL Zby p0.enums, vL ZbP p0.services]⟩)]) ((Zao (Zn4 p0 y8 v10 y12) big (v9, 0)).bind (Sum.elim (fun v17 => (Zru p0 y8 v10 v17).m) (fun z => some (.rt z))))
def ZsR (p0 : Scm) (y8 : List ByteArray) (v9 : List ByteArray) (v10 : Nat) : PT 0 (Lv (List ByteArray × Nat) (List ByteArray) (List ByteArray)) := vz (eqL y8) <| br (decide ((v10 : Int) < (y8.length : Int))) (lc (mkS [(2, .ptr (1, 2) 0 0), (5, vL Zac v9), (7, vL Zac y8), (8, vN v10)] [((1, 2), ⟨0, true, 26, 3, [vL Zbe p0.messages, vL Zby p0.enums, vL ZbP p0.services]⟩)]) ((ZsO p0 y8 v9 v10).m)) (lxe (ZxI) v9)
def Zok (p0 : Scm) (y8 : List ByteArray) : List ByteArray × Nat → Option (Lv (List ByteArray × Nat) (List ByteArray) (List ByteArray)) := fun (v9, v10) => (ZsR p0 y8 v9 v10).m
def Zvy (v18 : List ByteArray) : PT 0 (List ByteArray) := lr E31 (fun _ => []) v18
def Ztb (p0 : Scm) (v7 : List ByteArray) (y8 : List ByteArray) : PT 0 (List ByteArray) := lc (mkS [(2, .ptr (1, 2) 0 0), (5, vL Zac v7), (7, vL Zac y8), (8, vI 0)] [((1, 2), ⟨0, true, 26, 3, [vL Zbe p0.messages, vL Zby p0.enums, vL ZbP p0.services]⟩)]) ((Zao (Zok p0 y8) big (v7, 0)).bind (Sum.elim (fun v18 => (Zvy v18).m) some))
def ZuR (p0 : Scm) (p1 : List ByteArray) (v7 : List ByteArray) : PT 0 (List ByteArray) := vw .go <| cl (Zza p0 p1) fun y8 => lc (mkS [(2, .ptr (1, 2) 0 0), (5, vL Zac v7), (7, vL Zac y8)] [((1, 2), ⟨0, true, 26, 3, [vL Zbe p0.messages, vL Zby p0.enums, vL ZbP p0.services]⟩)]) ((Ztb p0 v7 y8).m)
def Zul (p0 : Scm) (p1 : List ByteArray) : PT 0 (List ByteArray) := vw (.ads 5 5 9 1) <| vw (.frz 5 [(5, (([] : List ByteArray).map Zac))] []) <| vz (fz ([] : List ByteArray)) <| lc (mkS [(1, vL Zac p1), (2, .ptr (1, 2) 0 0), (5, vL Zac ([] : List ByteArray)), (6, vI 0)] [((1, 2), ⟨0, true, 26, 3, [vL Zbe p0.messages, vL Zby p0.enums, vL ZbP p0.services]⟩)]) ((Zao (Zoa p0 p1) big (([] : List ByteArray), 0)).bind (Sum.elim (fun v7 => (ZuR p0 p1 v7).m) some))
def ZpN (p0 : Scm) (p1 : List ByteArray) : PT 0 (List ByteArray) := lc (mkS [(1, vL Zac p1), (2, .ptr (1, 2) 0 0), (5, .e0), (6, vI 0)] [((1, 2), ⟨0, true, 26, 3, [vL Zbe p0.messages, vL Zby p0.enums, vL ZbP p0.services]⟩)]) ((Zul p0 p1).m)
def Zpj (p0 : Scm) (p1 : List ByteArray) : PT 0 (List ByteArray) := lc (mkS [(1, vL Zac p1), (2, .ptr (1, 2) 0 0), (5, .e0)] [((1, 2), ⟨0, true, 26, 3, [vL Zbe p0.messages, vL Zby p0.enums, vL ZbP p0.services]⟩)]) ((ZpN p0 p1).m)
def Zbb (p0 : Scm) (p1 : List ByteArray) : Option (List ByteArray) := (Zpj p0 p1).m
abbrev E10 : Bool → AV := fun y => vB y
def Ztf (p0 : Scm) (p1 : List ByteArray) (y3 : List ByteArray) : List ByteArray × Nat → St := fun (r6, v7) => mkS [(1, vL Zac p1), (2, .ptr (1, 2) 0 0), (5, vL Zac y3), (6, .ref (1, 6) 0 0 r6.length), (7, vN v7)] [((1, 2), ⟨0, true, 26, 3, [vL Zbe p0.messages, vL Zby p0.enums, vL ZbP p0.services]⟩), ((1, 6), ⟨0, true, 9, 1, Zaf Zac r6⟩)]
def Zuw (p1 : List ByteArray) (y3 : List ByteArray) : List ByteArray → Nat × St := fun r10 => (0, mkS [(1, vL Zac p1), (5, vL Zac y3), (6, .ref (1, 6) 0 0 r10.length)] [((1, 6), ⟨0, true, 9, 1, Zaf Zac r10⟩)])
def ZnA (p0 : Scm) (p1 : List ByteArray) (y3 : List ByteArray) (r6 : List ByteArray) (v7 : Nat) (y9 : List ByteArray) : PT 0 (Lv (List ByteArray × Nat) (List ByteArray) (Bool)) := vs (wa v7 1) <| vz (fl (r6 ++ y9)) <| ln (Ztf p0 p1 y3) (r6 ++ y9, v7 + 1)
def Znx (p0 : Scm) (p1 : List ByteArray) (y3 : List ByteArray) (r6 : List ByteArray) (v7 : Nat) : PT 0 (Lv (List ByteArray × Nat) (List ByteArray) (Bool)) := ix y3 v7 fun e8 => vw .go <| cl (ZzH p0 e8) fun y9 => aq r6 y9 <| vz (fl (r6 ++ y9)) <| lc (mkS [(1, vL Zac p1), (2, .ptr (1, 2) 0 0), (5, vL Zac y3), (6, .ref (1, 6) 0 0 (r6 ++ y9).length), (7, vN v7)] [((1, 2), ⟨0, true, 26, 3, [vL Zbe p0.messages, vL Zby p0.enums, vL ZbP p0.services]⟩), ((1, 6), ⟨0, true, 9, 1, Zaf Zac (r6 ++ y9)⟩)]) ((ZnA p0 p1 y3 r6 v7 y9).m)
def Zm4 (p0 : Scm) (p1 : List ByteArray) (y3 : List ByteArray) (r6 : List ByteArray) (v7 : Nat) : PT 0 (Lv (List ByteArray × Nat) (List ByteArray) (Bool)) := vz (eqL y3) <| br (decide ((v7 : Int) < (y3.length : Int))) (vz (fl r6) <| lc (mkS [(1, vL Zac p1), (2, .ptr (1, 2) 0 0), (5, vL Zac y3), (6, .ref (1, 6) 0 0 r6.length), (7, vN v7)] [((1, 2), ⟨0, true, 26, 3, [vL Zbe p0.messages, vL Zby p0.enums, vL ZbP p0.services]⟩), ((1, 6), ⟨0, true, 9, 1, Zaf Zac r6⟩)]) ((Znx p0 p1 y3 r6 v7).m)) (vz (fl r6) <| lxe (Zuw p1 y3) r6)
def Zlm (p0 : Scm) (p1 : List ByteArray) (y3 : List ByteArray) : List ByteArray × Nat → Option (Lv (List ByteArray × Nat) (List ByteArray) (Bool)) := fun (r6, v7) => (Zm4 p0 p1 y3 r6 v7).m
def Zwy (p1 : List ByteArray) (y3 : List ByteArray) (r10 : List ByteArray) : Nat → St := fun v11 => mkS [(1, vL Zac p1), (5, vL Zac y3), (6, .ref (1, 6) 0 0 r10.length), (8, vN v11)] [((1, 6), ⟨0, true, 9, 1, Zaf Zac r10⟩)]
def Zuo (p1 : List ByteArray) (y3 : List ByteArray) (r10 : List ByteArray) : Unit → Nat × St := fun _ => (2, mkS [(1, vL Zac p1), (5, vL Zac y3), (6, .ref (1, 6) 0 0 r10.length)] [((1, 6), ⟨0, true, 9, 1, Zaf Zac r10⟩)])
def ZoR (p1 : List ByteArray) (y3 : List ByteArray) (r10 : List ByteArray) (v11 : Nat) : PT 0 (Lv (Nat) (Unit) (Bool)) := vz (eqN r10.length) <| br (decide ((v11 : Int) < (r10.length : Int))) (vs (ir v11 r10.length 1) <| ca r10 v11 fun e12 => cl (ZwO y3 e12) fun y13 => br (!y13) (lrt E10 (fun _ => []) false) (vs (wa v11 1) <| vz (fl r10) <| ln (Zwy p1 y3 r10) (v11 + 1))) (vz (fl r10) <| lxe (Zuo p1 y3 r10) ())
def Zmy (p1 : List ByteArray) (y3 : List ByteArray) (r10 : List ByteArray) : Nat → Option (Lv (Nat) (Unit) (Bool)) := fun v11 => (ZoR p1 y3 r10 v11).m
def ZvC (p1 : List ByteArray) (y3 : List ByteArray) (r10 : List ByteArray) : Nat → St := fun v14 => mkS [(1, vL Zac p1), (5, vL Zac y3), (6, vL Zac r10), (9, vN v14)] []
def Zwz : Unit → Nat × St := fun _ => (4, mkS [] [])
def Zly (p1 : List ByteArray) (y3 : List ByteArray) (r10 : List ByteArray) (v14 : Nat) : PT 0 (Lv (Nat) (Unit) (Bool)) := vz (eqL y3) <| br (decide ((v14 : Int) < (y3.length : Int))) (ix y3 v14 fun e15 => cl (ZwO p1 e15) fun y16 => ixg (!y16) y3 (v14 : Int) fun e17 => clg (!y16) (ZwO r10 e17) fun y18 => vg ((!((!y16) && (!y18))) && decide ((0 : Int) < (v14 : Int))) (wi ((v14 : Int) - 1)) <| ixg ((!((!y16) && (!y18))) && decide ((0 : Int) < (v14 : Int))) y3 ((v14 : Int) - 1) fun e19 => ixg ((!((!y16) && (!y18))) && decide ((0 : Int) < (v14 : Int))) y3 (v14 : Int) fun e20 => br (((!y16) && (!y18)) || (decide ((0 : Int) < (v14 : Int)) && (!sLt e19 e20))) (lrt E10 (fun _ => []) false) (vs (wa v14 1) <| ln (ZvC p1 y3 r10) (v14 + 1))) (lxe (Zwz) ())
def ZjK (p1 : List ByteArray) (y3 : List ByteArray) (r10 : List ByteArray) : Nat → Option (Lv (Nat) (Unit) (Bool)) := fun v14 => (Zly p1 y3 r10 v14).m
def ZjZ : PT 0 (Bool) := cl (Zzo) fun y21 => lr E10 (fun _ => []) y21
def Zjs (p1 : List ByteArray) (y3 : List ByteArray) (r10 : List ByteArray) : PT 0 (Bool) := vw (.frz 6 [(6, (r10.map Zac))] []) <| vz (fz r10) <| lc (mkS [(1, vL Zac p1), (5, vL Zac y3), (6, vL Zac r10), (9, vI 0)] []) ((Zao (ZjK p1 y3 r10) big 0).bind (Sum.elim (fun _ => (ZjZ).m) some))
def Zjz (p1 : List ByteArray) (y3 : List ByteArray) (r10 : List ByteArray) : PT 0 (Bool) := vz (fl r10) <| lc (mkS [(1, vL Zac p1), (5, vL Zac y3), (6, .ref (1, 6) 0 0 r10.length), (9, vI 0)] [((1, 6), ⟨0, true, 9, 1, Zaf Zac r10⟩)]) ((Zjs p1 y3 r10).m)
def Zjh (p1 : List ByteArray) (y3 : List ByteArray) (r10 : List ByteArray) : PT 0 (Bool) := vz (fl r10) <| lc (mkS [(1, vL Zac p1), (5, vL Zac y3), (6, .ref (1, 6) 0 0 r10.length), (8, vI 0)] [((1, 6), ⟨0, true, 9, 1, Zaf Zac r10⟩)]) ((Zao (Zmy p1 y3 r10) big 0).bind (Sum.elim (fun _ => (Zjz p1 y3 r10).m) some))
def Zfv (p0 : Scm) (p1 : List ByteArray) (y3 : List ByteArray) : PT 0 (Bool) := vw (.ads 6 6 9 1) <| vz (fl ([] : List ByteArray)) <| lc (mkS [(1, vL Zac p1), (2, .ptr (1, 2) 0 0), (5, vL Zac y3), (6, .ref (1, 6) 0 0 ([] : List ByteArray).length), (7, vI 0)] [((1, 2), ⟨0, true, 26, 3, [vL Zbe p0.messages, vL Zby p0.enums, vL ZbP p0.services]⟩), ((1, 6), ⟨0, true, 9, 1, Zaf Zac ([] : List ByteArray)⟩)]) ((Zao (Zlm p0 p1 y3) big (([] : List ByteArray), 0)).bind (Sum.elim (fun r10 => (Zjh p1 y3 r10).m) some))
def Zfh (p0 : Scm) (p1 : List ByteArray) (y3 : List ByteArray) : PT 0 (Bool) := lc (mkS [(1, vL Zac p1), (2, .ptr (1, 2) 0 0), (5, vL Zac y3), (6, .e0), (7, vI 0)] [((1, 2), ⟨0, true, 26, 3, [vL Zbe p0.messages, vL Zby p0.enums, vL ZbP p0.services]⟩)]) ((Zfv p0 p1 y3).m)
def Zff (p0 : Scm) (p1 : List ByteArray) : PT 0 (Bool) := vw .go <| cl (Zy3 p0) fun y1 => vy (!(!y1)) (eqL p1) <| vw .go <| clg (!((!y1) || decide ((20 : Int) < (p1.length : Int)))) (Zzg p0) fun y2 => br (((!y1) || decide ((20 : Int) < (p1.length : Int))) || y2) (lr E10 (fun _ => []) true) (vw .go <| cl (Zux p0 p1) fun y3 => vw .go <| cl (Zux p0 y3) fun y4 => cl (ZyR y4 y3) fun y5 => br (!y5) (lr E10 (fun _ => []) false) (lc (mkS [(1, vL Zac p1), (2, .ptr (1, 2) 0 0), (5, vL Zac y3), (6, .e0)] [((1, 2), ⟨0, true, 26, 3, [vL Zbe p0.messages, vL Zby p0.enums, vL ZbP p0.services]⟩)]) ((Zfh p0 p1 y3).m)))
def Zai (p0 : Scm) (p1 : List ByteArray) : Option (Bool) := (Zff p0 p1).m
set_option maxRecDepth 100000 in
theorem ZqE {C : Cx} (co : CO C 0) (p0 : Scm) (p1 : List ByteArray) (y3 : List ByteArray) : KL Try.prog (lkT tl) 97 C (pa [0, 0, 1, 0, 1, 1, 1, 1, 1] (Zal Try.f10)) [.tmp 4] 0 (Ztf p0 p1 y3) (Zuw p1 y3) E10 (fun _ => []) (Zlm p0 p1 y3) := fun (r6, v7) _ hm Q Post hQ hL => ZaD co tok tmo 1 (Zm4 p0 p1 y3 r6 v7) (lf2 [1, 2, 5, 6, 7] [((1, 2), false), ((1, 6), true)]) (lf2 [1, 5, 6] [((1, 6), true)]) hQ hm hL fun r g => ⟨fun _ hm hL => sq (bk 1 (drw tmo [0, 2, 3, 4, 1, 5, 6, 7, 8] (Zkk co tok (Znx p0 p1 y3 r6 v7) (lf2 [1, 2, 5, 6, 7] [((1, 2), false), ((1, 6), true)]) hm hL fun r g => fun e8 => fun y9 => fun _ hm hL => Zb7 co tok tmo (ZnA p0 p1 y3 r6 v7 y9) (lf2 [1, 2, 5, 6, 7] [((1, 2), false), ((1, 6), true)]) nl hQ hm hL fun r g => id))), id⟩
set_option maxRecDepth 100000 in
theorem Zq2 {C : Cx} (co : CO C 0) (p1 : List ByteArray) (y3 : List ByteArray) (r10 : List ByteArray) : KL Try.prog (lkT tl) 97 C (pa [0, 0, 1, 0, 1, 1, 1, 1, 1, 1] (Zal Try.f10)) [.tmp 4] 0 (Zwy p1 y3 r10) (Zuo p1 y3 r10) E10 (fun _ => []) (Zmy p1 y3 r10) := fun v11 _ hm Q Post hQ hL => Zb7 co tok tmo (ZoR p1 y3 r10 v11) (lf2 [1, 5, 6, 8] [((1, 6), true)]) (lf2 [1, 5, 6] [((1, 6), true)]) hQ hm hL fun r g => ⟨fun e12 => fun y13 => ⟨id, id⟩, id⟩
set_option maxRecDepth 100000 in
theorem Zp6 {C : Cx} (co : CO C 0) (p1 : List ByteArray) (y3 : List ByteArray) (r10 : List ByteArray) : KL Try.prog (lkT tl) 97 C (pa [0, 0, 1, 0, 1, 1, 1, 1, 1, 1, 1] (Zal Try.f10)) [.tmp 4] 0 (ZvC p1 y3 r10) (Zwz) E10 (fun _ => []) (ZjK p1 y3 r10) := fun v14 _ hm Q Post hQ hL => Zb7 co tok tmo (Zly p1 y3 r10 v14) (lf1 [1, 5, 6, 9]) nl hQ hm hL fun r g => ⟨fun e15 => fun y16 => fun e17 => fun y18 => fun e19 => fun e20 => ⟨id, id⟩, id⟩
set_option maxRecDepth 100000 in
theorem Zzv (p0 : Scm) (p1 : List ByteArray) : KC Try.prog 10 [.agg ((ZbR p0).map .d), vL Zac p1] (Zai p0 p1) E10 := kc1 Try.func10 Try.ntmps10 tok [.tmp 4] fun C co y hm Post hL => ZaD co tok tmo 5 (Zff p0 p1) (lf2 [1, 2, 5, 6] [((1, 2), false)]) nl (fun _ h => h) hm hL fun r g => fun y1 => fun y2 => ⟨id, fun y3 => fun y4 => fun y5 => ⟨id, fun _ hm hL => sq (ZaD co tok tmo 1 (Zfh p0 p1 y3) (lf2 [1, 2, 5, 6, 7] [((1, 2), false)]) nl (fun _ h => h) hm hL fun r g => fun _ hm hL => bk 0 (Zi1 co (Zfv p0 p1 y3) (lf2 [1, 2, 5, 6, 7] [((1, 2), false), ((1, 6), true)]) hm hL fun r g => fun _ hm hL => lo (lpF (ZqE co p0 p1 y3) (fun _ h => h) hm hL (fun r10 hm => sq (ZaD co tok tmo 1 (Zjh p1 y3 r10) (lf2 [1, 5, 6, 8] [((1, 6), true)]) nl (fun _ h => h) hm hL fun r g => fun _ hm hL => bk 2 (lo (lpF (Zq2 co p1 y3 r10) (fun _ h => h) hm hL (fun _ hm => sq (ZaD co tok tmo 1 (Zjz p1 y3 r10) (lf2 [1, 5, 6, 9] [((1, 6), true)]) nl (fun _ h => h) hm hL fun r g => fun _ hm hL => bk 4 (Zi1 co (Zjs p1 y3 r10) (lf1 [1, 5, 6, 9]) hm hL fun r g => fun _ hm hL => lo (lpF (Zp6 co p1 y3 r10) (fun _ h => h) hm hL (fun _ hm => Zcl co tok tmo (ZjZ) hm hL fun r g => fun y21 => id))))))))))))⟩⟩
end Go.Proofs.Ythhipejbnbochaa
namespace Go.Proofs.Ythhipejbnbochaa
set_option linter.all false
open Go Go.Eng Go.ChangeShapes Go.WideShapes Go.ChangeAt Go.RowKit
theorem ZoJ {H : Type} (b : List UInt8) : Rows.uptoBulk (DataW.lit (H := H) (.string b)) = b.length + 1 := by simp only [Rows.uptoBulk]
theorem Zkd {H : Type} (a b : List (DataW H)) : Rows.uptoBulk (.slice a b) = Rows.uptoBulkAll a + Rows.uptoBulkAll b + 1 := by simp only [Rows.uptoBulk]
theorem ZoN {H : Type} (a : List (DataW H)) : Rows.uptoBulk (.agg a) = Rows.uptoBulkAll a + 1 := by simp only [Rows.uptoBulk]
def ZgN (W : World) (ds : List D) (cs : List Value) (o : Nat) : Prop := ∀ (i : Nat) (d : D), ds[i]? = some d → ∃ c, cs[o + i]? = some c ∧ RepD W (· < W.heap.size) d c
def Zht (W : World) (ds : List D) (cs : List Value) : Prop := ds.length = cs.length ∧ ZgN W ds cs 0
theorem ZgN.app {W : World} {ds es : List D} {cs : List Value} {o : Nat} (h : ZgN W ds cs o) (k : ZgN W es cs (o + ds.length)) : ZgN W (ds ++ es) cs o := fun i d hi => by
 rcases Yq i ds.length with hl | hl
 ·rw [Yi hl] at hi; exact h i d hi
 ·rw [Yn hl] at hi
  obtain ⟨c, h1, h2⟩ := k _ d hi
  grind
theorem ZgN.nil {W : World} {cs : List Value} {o : Nat} : ZgN W [] cs o := fun i d h => by simp at h
theorem Zht.at {W : World} {ds : List D} {cs : List Value} {o k : Nat} (h : Zht W ds ((cs.drop o).take k)) : ZgN W ds cs o := fun i d hi => by
 obtain ⟨c, h1, h2⟩ := h.2 i d hi
 grind
mutual
def bk : D → Nat
 | .int _ _ => 0
 | .bool _ => 0
 | .str s => s.size
 | .list es => ZsH es
 | .map _ es => ZsH es
def bkL : List D → Nat
 | [] => 0
 | d :: l => bk d + bkL l
def ZsH : List (List D) → Nat
 | [] => 0
 | e :: l => bkL e + 1 + ZsH l
end
theorem ZmL : ∀ a b : List D, bkL (a ++ b) = bkL a + bkL b
 | [], b => by rw [Yam, bkL, Yy]
 | d :: a, b => by rw [YaN, bkL, bkL, ZmL a b, Yw]
theorem ZhK (d : D) : bkL [d] = bk d := by rw [bkL, bkL, Yaa]
theorem ZpH {α : Type} {e : α → List D} : ∀ l : List α, l.length ≤ ZsH (l.map e)
 | [] => Yar _
 | x :: l => by have := ZpH (e := e) l; rw [YP, ZsH, Y4]; omega
section
variable {H : Type} (enc : TypeId × Value → H) (P : Program) (W : World)
def RdN {α : Type} (n : Nat) (t : TypeId) (e : α → List D) : Prop :=
 ∀ cs x, DataW.trod enc P W 0 (fun _ => true) true n t cs = some x → ∃ v : α, Zht W (e v) cs ∧ bkL (e v) + 1 ≤ Rows.uptoBulk x.1
end
section
variable {H : Type} {enc : TypeId × Value → H} {P : Program} {W : World} {n : Nat} {t : TypeId}
theorem Zgi (d : DataW H) : 1 ≤ Rows.uptoBulk d := by cases d <;> (try (rename_i l; cases l)) <;> simp [Rows.uptoBulk]
theorem ZcG {d : D} {c : Value} (h : RepD W (· < W.heap.size) d c) : Zht W [d] [c] := ⟨rfl, fun i d' hi => by
 cases i with
 | zero => cases hi; exact ⟨c, rfl, h⟩
 | succ i => simp at hi⟩
theorem ZbU {k : IntKind} (ht : P.underlying t = some (.int k)) : RdN enc P W n t (fun v : Int => [.int k v]) := fun cs x hx => by
 obtain ⟨m, rfl, rfl, _⟩ := DataW.trod_int ht hx
 exact ⟨m, ZcG (.int _ _), Zgi _⟩
theorem ZkR (ht : P.underlying t = some .bool) : RdN enc P W n t (fun v : Bool => [.bool v]) := fun cs x hx => by
 obtain ⟨m, rfl, rfl⟩ := DataW.trod_bool ht hx
 exact ⟨m, ZcG (.bool _), Zgi _⟩
theorem ZbM (ht : P.underlying t = some .string) : RdN enc P W n t (fun v : ByteArray => [.str v]) := fun cs x hx => by
 obtain ⟨m, rfl, rfl, _⟩ := DataW.trod_string ht hx
 refine ⟨m, ZcG (.str _), ?_⟩
 rw [ZoJ, ZhK]
 exact Yg _
theorem Zpv {α : Type} {e : α → List D} : ∀ (l : List α) (xs : List (DataW H × List MemPlace)), l.length = xs.length → (∀ (i : Nat) (v : α), l[i]? = some v → ∃ y : DataW H × List MemPlace, xs[i]? = some y ∧ bkL (e v) + 1 ≤ Rows.uptoBulk y.1) → ZsH (l.map e) ≤ Rows.uptoBulkAll (xs.map (·.1))
 | [], _, _, _ => Yar _
 | x :: l, [], h, _ => by cases h
 | x :: l, y :: xs, h, k => by
  have := Zpv l xs (YaU h) (fun i v hi => k (i + 1) v hi)
  obtain ⟨y', h1, h2⟩ := k 0 x rfl
  cases h1
  rw [YP, YP, ZsH]
  simp only [Rows.uptoBulkAll]
  omega
theorem ZlO {α : Type} {Q : Nat → α → Prop} : ∀ (len : Nat), (∀ i, i < len → ∃ v, Q i v) → ∃ l : List α, l.length = len ∧ ∀ i v, l[i]? = some v → Q i v
 | 0, _ => ⟨[], rfl, fun i v h => by simp at h⟩
 | len + 1, h => by
  obtain ⟨l, h1, h2⟩ := ZlO len (fun i hi => h i (by omega))
  obtain ⟨v, hv⟩ := h len (by omega)
  refine ⟨l ++ [v], by simp [h1], fun i w hi => ?_⟩
  grind
theorem Zay {α : Type} {e : TypeId} {enc' : α → List D} {sz : Nat} (ht : P.underlying t = some (.slice e)) (hsz : P.cellsOf e = sz) (hs0 : sz ≠ 0) (hl : ∀ x, (enc' x).length = sz) (h : ∀ m, m < n → RdN enc P W m e enc') :
  RdN enc P W n t (fun l : List α => [.list (l.map enc')]) := fun cs x hx => by
 rcases DataW.trod_slice ht hx with ⟨rfl, rfl⟩ | ⟨a, len, cap, elems, rest, m, rfl, rfl, rfl, hb, hlc, hcm, hel, hi, _, _⟩
 ·exact ⟨[], ZcG .nil, Zgi _⟩
 ·have each : ∀ i, i < len → ∃ v : α, ∃ y cs', elems[i]? = some y ∧ W.cells? 0 (a.add (i * sz)) sz = some cs' ∧ Zht W (enc' v) cs' ∧ bkL (enc' v) + 1 ≤ Rows.uptoBulk y.1 := fun i hlt => by
   have h1 := hi i hlt
   rw [Yc (by omega), hsz] at h1
   obtain ⟨cs', h2, h3⟩ := Ybk.1 h1
   obtain ⟨v, h4, h5⟩ := h m (by omega) cs' _ h3
   exact ⟨v, _, cs', Yc (by omega), h2, h4, h5⟩
  obtain ⟨l, hll, hlq⟩ := ZlO len each
  have cell : ∀ (i j : Nat) (e' : List D) (x : D), (l.map enc')[i]? = some e' → e'[j]? = some x → ∃ c, W.cell? (a.add (i * sz + j)) = some c ∧ RepD W (· < W.heap.size) x c := fun i j e' x hi' hj => by
   rw [Ys] at hi'
   cases hv : l[i]? with
   | none => rw [hv] at hi'; cases hi'
   | some v =>
    rw [hv] at hi'
    cases hi'
    obtain ⟨y, cs', g1, g2, g3, g4⟩ := hlq i v hv
    obtain ⟨c, g5, g6⟩ := g3.2 j x hj
    rw [Yy] at g5
    obtain ⟨_, g7, g8⟩ := World.cells?_some g2
    have hjl : j < sz := by
     rw [← hl v]
     rcases Yq j (enc' v).length with h | h
     ·exact h
     ·rw [Yx h] at hj; cases hj
    refine ⟨c, ?_, g6⟩
    rw [← Go.Eng.add_add, g8 j hjl, g5]
  refine ⟨l, ZcG ?_, ?_⟩
  ·have hlen : (l.map enc').length = len := by simp [hll]
   have := RepD.list (w := W) (S := (· < W.heap.size)) (l.map enc') a sz cap (fun i j => (W.cell? (a.add (i * sz + j))).getD undef) (fun hne => by
     have h0 : 0 < len := by
      rcases Ya5 len with h | h
      ·exact absurd (YG (hlen.trans h)) hne
      ·exact h
     obtain ⟨v, y, cs', _, g2, _⟩ := each 0 h0
     have := World.cells?_block g2 (by omega)
     rw [Yab] at this
     rw [← Go.Eng.block_add a 0]; exact this)
    (by rw [hlen]; exact hlc) (fun e' he => by obtain ⟨y, _, rfl⟩ := Yr.1 he; exact hl y)
    (fun i j e' x hi' hj => by obtain ⟨c, g1, _⟩ := cell i j e' x hi' hj; rw [g1]; rfl)
    (fun i j e' x hi' hj => by obtain ⟨c, g1, g2⟩ := cell i j e' x hi' hj; rw [g1]; exact g2)
   rw [hlen] at this
   exact this
  ·rw [Zkd, ZhK, bk]
   have := Zpv (e := enc') l elems (by omega) (fun i v hv => by
    obtain ⟨y, cs', g1, g2, g3, g4⟩ := hlq i v hv
    exact ⟨y, g1, g4⟩)
   omega
def FB (xs : List (DataW H × List MemPlace)) (i : Nat) : Nat := Rows.uptoBulkAll ((xs.drop i).map (·.1))
theorem Zan {xs : List (DataW H × List MemPlace)} {i : Nat} {a b : List D} (h : bkL a + 1 + FB xs (i + 1) ≤ FB xs i) (k : bkL b ≤ FB xs (i + 1)) : bkL (a ++ b) ≤ FB xs i := by
 rw [ZmL]; omega
theorem ZbT {xs : List (DataW H × List MemPlace)} {i : Nat} {a : List D} (h : bkL a + 1 + FB xs (i + 1) ≤ FB xs i) : bkL a ≤ FB xs i := by omega
theorem ZbZ {xs : List (DataW H × List MemPlace)} {a : List D} (h : bkL a ≤ FB xs 0) : bkL a + 1 ≤ Rows.uptoBulk (.agg (xs.map (·.1))) := by
 rw [ZoN]; exact Nat.succ_le_succ h
theorem ZnN {α : Type} {e : α → List D} {m i : Nat} {t' : TypeId} {piece : List Value} {xs : List (DataW H × List MemPlace)} (h : RdN enc P W m t' e) (hf : DataW.trod enc P W 0 (fun _ => true) true m t' piece = xs[i]?) (hi : i < xs.length) :
  ∃ v, Zht W (e v) piece ∧ bkL (e v) + 1 + FB xs (i + 1) ≤ FB xs i := by
 rw [Yc hi] at hf
 obtain ⟨v, h1, h2⟩ := h _ _ hf
 refine ⟨v, h1, ?_⟩
 unfold FB
 rw [Y8 hi, YP]
 simp only [Rows.uptoBulkAll]
 omega
theorem rf {α : Type} {e : α → List D} {m i k : Nat} {t' : TypeId} {piece : List Value} {xs : List (DataW H × List MemPlace)} (h : RdN enc P W m t' e) (hf : DataW.trod enc P W 0 (fun _ => true) true m t' piece = xs[i]?) (hx : xs.length = k) (hi : Nat.blt i k = true := by kernel_rfl) :
  ∃ v, Zht W (e v) piece ∧ bkL (e v) + 1 + FB xs (i + 1) ≤ FB xs i := ZnN h hf (by rw [hx]; exact Yf hi)
theorem Zmi {α : Type} {e e' : α → List D} (he : ∀ x, e x = e' x) (h : RdN enc P W n t e') : RdN enc P W n t e := fun cs x hx => by
 obtain ⟨v, h1, h2⟩ := h cs x hx
 grind
theorem Zq6 {α : Type} {e : α → List D} {fs : Array Field} {r : Reach} {base : Nat} {v : Value} {d : DataW H} {p : List MemPlace} (rd : ∀ n, RdN enc P W n t e) (ht : P.underlying t = some (.struct fs)) (hv : Value.okWide P W r base t v)
  (h : DataW.Trod enc P W 0 (fun _ => true) true t v d p) : ∃ x : α, (∀ m l, RepA W (· < W.heap.size) (fun _ => ⟨0, false, 0, 0, []⟩) m l (.agg ((e x).map .d)) v) ∧ bkL (e x) + 1 ≤ Rows.uptoBulk d := by
 obtain ⟨cs, rfl, _⟩ := okWide_struct ht hv
 obtain ⟨n, hn⟩ := h
 obtain ⟨x, h1, h2⟩ := rd n _ _ hn
 have hl : (e x).length = cs.size := by rw [h1.1]; simp [Value.cells]
 have key : ∀ (i : Nat) (c : Value) , cs[i]? = some c → ∃ d, (e x)[i]? = some d ∧ RepD W (· < W.heap.size) d c := fun i c hc => by
  have hlt : i < (e x).length := by
   grind
  obtain ⟨c', h3, h4⟩ := h1.2 i _ (Yc hlt)
  have : c' = c := by
   rw [Yy] at h3
   have : cs.toList[i]? = some c' := h3
   grind
  grind
 refine ⟨x, fun m l => .agg _ _ (by rw [Ym, hl]) (fun i c hc => ?_) (fun i y c hy hc => ?_), h2⟩
 ·obtain ⟨d, _, h3⟩ := key i c hc; exact h3.one
 ·obtain ⟨d, h3, h4⟩ := key i c hc
  rw [Ys, h3] at hy
  cases hy
  exact .d _ _ h4
theorem Zk1 {α : Type} {e : α → List D} {u : TypeId} {r : Reach} {base : Nat} {v : Value} {d : DataW H} {p : List MemPlace} (rd : ∀ n, RdN enc P W n t (fun l : List α => [.list (l.map e)])) (ht : P.underlying t = some (.slice u)) (hv : Value.okWide P W r base t v)
  (h : DataW.Trod enc P W 0 (fun _ => true) true t v d p) : ∃ x : List α, (∀ Hp m l, RepA W (· < W.heap.size) Hp m l (.d (.list (x.map e))) v) ∧ bk (.list (x.map e)) + 1 ≤ Rows.uptoBulk d := by
 obtain ⟨a, len, cap, rfl⟩ := okWide_slice ht hv
 obtain ⟨n, hn⟩ := h
 obtain ⟨x, h1, h2⟩ := rd n _ _ hn
 obtain ⟨c, h3, h4⟩ := h1.2 0 _ rfl
 have : c = .slice a len cap := by simpa [Value.cells] using h3.symm
 subst this
 exact ⟨x, fun _ _ _ => .d _ _ h4, by rw [← ZhK]; exact h2⟩
def Hp0 : Hp := fun _ => ⟨0, false, 0, 0, []⟩
theorem ok0 (m : Mu) : Ok 0 Hp0 m (· < W.heap.size) W := ⟨fun _ h => h, fun _ _ h => (by cases h), fun _ _ h => (by cases h), fun _ _ _ _ h => (by cases h), fun _ _ h => (by cases h), ⟨fun _ _ h => (by cases h), fun _ _ h => (by cases h), fun _ _ _ _ h => (by cases h)⟩⟩
def Zx5 (w : World) (S : Nat → Prop) (Hp : Hp) (m : Mu) (l : Nat) : List AV → List Value → Prop
 | [], [] => True
 | x :: xs, v :: vs => RepA w S Hp m l x v ∧ Zx5 w S Hp m l xs vs
 | _, _ => False
theorem Zrd {w : World} {S : Nat → Prop} {Hp : Hp} {m : Mu} {l : Nat} {xs : List AV} {vs : List Value} (h : Zx5 w S Hp m l xs vs) : Zdd w S Hp m l xs vs.toArray := by
 suffices hh : xs.length = vs.length ∧ ∀ (i : Nat) (x : AV) (v : Value), xs[i]? = some x → vs[i]? = some v → RepA w S Hp m l x v by
  exact ⟨by simpa using hh.1, fun i x v hx hv => hh.2 i x v hx (by simpa using hv)⟩
 induction xs generalizing vs with
 | nil => cases vs with
  | nil => exact ⟨rfl, fun i x v h => by simp at h⟩
  | cons _ _ => exact h.elim
 | cons x xs ih => cases vs with
  | nil => exact h.elim
  | cons v vs =>
   obtain ⟨h1, h2⟩ := ih h.2
   refine ⟨by simp [h1], fun i y u hy hu => ?_⟩
   cases i with
   | zero => simp at hy hu; subst hy; subst hu; exact h.1
   | succ i => exact h2 i y u (by simpa using hy) (by simpa using hu)
theorem Zlo {f : Func} {s : ChangeSpec} {W' : World} {args : Array Value} {ds gs : List (DataW H)} {before : List MemPlace} {u : TypeId} (hW : DataW.Whole enc P f.params.toList s.vars false W args.toList ds gs before) (hvars : s.vars = [])
  (hlaid : laidOutB P = true) (hrd : ∀ t ∈ f.params.toList, P.readableRec t = true ∧ t < P.types.size) (hres : f.resultTypes.toList = [u]) (hu : P.underlying u = some .bool)
  (hfn : s.fn H (ds ++ gs) = { results := [.lit (.bool true)], args := ds }) (hb : Below W.heap.size W W') : s.post enc P f false true false false W args (.bool true) W' := by
 obtain ⟨p, q, hA, hV, rfl, hfz, hnd⟩ := id hW
 rw [hvars] at hV
 obtain ⟨rfl, rfl⟩ := trodVars_none hV
 refine ⟨ds, [], p ++ [], [], p, [], hW, ?_, ?_, ?_, ?_, fun h => by cases h⟩
 ·rw [hfn, hres]
  have : (Value.bool true).resultList f.resultTypes.size = [.bool true] := by
   have : f.resultTypes.size = 1 := by rw [← YZ, hres]; rfl
   rw [this]; rfl
  rw [this]
  exact trodAll_cons_mk (shut_bool hu _) trodAll_mk0
 ·rw [hfn]
  have key : ∀ (ts : List TypeId) (vs : List Value) (es : List (DataW H)) (ps : List MemPlace), (∀ t ∈ ts, P.readableRec t = true ∧ t < P.types.size) → DataW.TrodAll enc P W 0 (fun _ => true) true ts vs es ps →
    DataW.TrodAll enc P W' 0 (fun b => decide (b < W.heap.size)) true ts vs es ps := by
   intro ts
   induction ts with
   | nil => intro vs es ps _ h; obtain ⟨rfl, rfl, rfl⟩ := trodAll_nil h; exact trodAll_mk0
   | cons t ts ih =>
    intro vs es ps hr h
    have hlt := DataW.TrodAll.lt h
    obtain ⟨v, vs1, d, ds1, a, b, rfl, rfl, rfl, h1, h2⟩ := trodAll_cons h
    exact trodAll_cons_mk (Below.trod hlaid (hr t (by simp)).1 (hr t (by simp)).2 h1 hb (fun x hx => hlt x (YO _ hx))) (ih _ _ _ (fun t ht => hr t (by simp [ht])) h2)
  exact key _ _ _ _ hrd hA
 ·rw [hvars, hfn]; exact rfl
 ·refine ⟨hb.os, hb.output, fun i hi => ?_⟩
  rw [hb.block i hi]
  cases W.heap[i]? with
  | none => rfl
  | some o => cases o <;> simp
end
end Go.Proofs.Ythhipejbnbochaa
