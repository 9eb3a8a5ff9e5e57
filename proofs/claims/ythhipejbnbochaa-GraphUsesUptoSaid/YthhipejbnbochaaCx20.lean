import Derived.Test.YthhipejbnbochaaCx19
import Derived.Test.YthhipejbnbochaaCx11
import Derived.Test.YthhipejbnbochaaCx10
import Derived.Test.YthhipejbnbochaaRows
import Derived.WalkKit
import Derived.ProofKit
import Derived.OpenShut
import Derived.Carry
import Derived.Deep.DeepHandedRow
import Derived.Test.YthhipejbnbochaaCx00
namespace Go.Proofs.Ythhipejbnbochaa
set_option linter.all false
open Go Go.Eng
abbrev E28 : List ByteArray → AV := fun y => vL Zad y
def ZqJ (p1 : List ByteArray) (y1 : Web) : List ByteArray × Nat → St := fun (r2, v3) => mkS [(5, .iptr (Zcs y1) 0), (6, .ref (1, 6) 0 0 r2.length), (14, vL Zad p1), (15, vN p1.length), (16, vN v3)] [((1, 6), ⟨0, true, 9, 1, Zah Zad r2⟩)]
def Zt8 : List ByteArray → Nat × St := fun r18 => (0, mkS [(6, .ref (1, 6) 0 0 r18.length)] [((1, 6), ⟨0, true, 9, 1, Zah Zad r18⟩)])
def Zuu (p1 : List ByteArray) (y1 : Web) (v3 : Nat) : List ByteArray × List (ByteArray × Bool) → St := fun (r11, r12) => mkS [(5, .iptr (Zcs y1) 0), (6, .ref (1, 6) 0 0 r11.length), (14, vL Zad p1), (15, vN p1.length), (16, vN v3), (48, .ptr (1, 48) 0 0)] [((1, 6), ⟨0, true, 9, 1, Zah Zad r11⟩), ((1, 48), ⟨0, true, .i false (r12.map eEt) none, 0, []⟩)]
def Zts (p1 : List ByteArray) (y1 : Web) (v3 : Nat) : List ByteArray → Nat × St := fun r16 => (2, mkS [(5, .iptr (Zcs y1) 0), (6, .ref (1, 6) 0 0 r16.length), (14, vL Zad p1), (15, vN p1.length), (16, vN v3)] [((1, 6), ⟨0, true, 9, 1, Zah Zad r16⟩)])
def ZrS (p1 : List ByteArray) (y1 : Web) (v3 : Nat) (r11 : List ByteArray) (p13 : ByteArray × Bool) (l14 : List (ByteArray × Bool)) : PT 0 (List (Lv (List ByteArray × List (ByteArray × Bool)) (List ByteArray) (List ByteArray))) := vw .sep <| vw .sep <| ap r11 (p13.1 : ByteArray) <| cl (Zxe y1 p13.1) fun y15 => aq (r11 ++ [p13.1]) y15 <| vz (fl ((r11 ++ [p13.1]) ++ y15)) <| lnN (Zuu p1 y1 v3) ((r11 ++ [p13.1]) ++ y15, l14)
def Zru (p1 : List ByteArray) (y1 : Web) (v3 : Nat) (r11 : List ByteArray) (p13 : ByteArray × Bool) (l14 : List (ByteArray × Bool)) : PT 0 (List (Lv (List ByteArray × List (ByteArray × Bool)) (List ByteArray) (List ByteArray))) := vz (fl r11) <| lc (mkS [(5, .iptr (Zcs y1) 0), (6, .ref (1, 6) 0 0 r11.length), (11, vS p13.1), (14, vL Zad p1), (15, vN p1.length), (16, vN v3), (48, .ptr (1, 48) 0 0)] [((1, 6), ⟨0, true, 9, 1, Zah Zad r11⟩), ((1, 48), ⟨0, true, .i false (l14.map eEt) none, 0, []⟩)]) ((ZrS p1 y1 v3 r11 p13 l14).m)
def ZnD (p1 : List ByteArray) (y1 : Web) (v3 : Nat) (r11 : List ByteArray) (r12 : List (ByteArray × Bool)) : PT 0 (List (Lv (List ByteArray × List (ByteArray × Bool)) (List ByteArray) (List ByteArray))) := nxN r12 (vw .go <| vz (fl r11) <| ZmP (Zts p1 y1 v3) r11) fun p13 l14 => vw .go <| vz (fl r11) <| lc (mkS [(5, .iptr (Zcs y1) 0), (6, .ref (1, 6) 0 0 r11.length), (14, vL Zad p1), (15, vN p1.length), (16, vN v3), (48, .ptr (1, 48) 0 0)] [((1, 6), ⟨0, true, 9, 1, Zah Zad r11⟩), ((1, 48), ⟨0, true, .i false (l14.map eEt) (some (eEt p13)), 0, []⟩)]) ((Zru p1 y1 v3 r11 p13 l14).m)
def ZlN (p1 : List ByteArray) (y1 : Web) (v3 : Nat) : List ByteArray × List (ByteArray × Bool) → Option (List (Lv (List ByteArray × List (ByteArray × Bool)) (List ByteArray) (List ByteArray))) := fun (r11, r12) => (ZnD p1 y1 v3 r11 r12).m
def Znu (p1 : List ByteArray) (y1 : Web) (v3 : Nat) (r16 : List ByteArray) : PT 0 (List (Lv (List ByteArray × Nat) (List ByteArray) (List ByteArray))) := vs (wa v3 1) <| vz (fl r16) <| lnN (ZqJ p1 y1) (r16, v3 + 1)
def ZnF (p1 : List ByteArray) (y1 : Web) (r2 : List ByteArray) (v3 : Nat) (e4 : ByteArray) (y9 : List ByteArray) : PT 0 (List (Lv (List ByteArray × Nat) (List ByteArray) (List ByteArray))) := cl (ZwA y1 e4) fun y10 => vz (fl ((r2 ++ [e4]) ++ y9)) <| lc (mkS [(5, .iptr (Zcs y1) 0), (6, .ref (1, 6) 0 0 ((r2 ++ [e4]) ++ y9).length), (14, vL Zad p1), (15, vN p1.length), (16, vN v3), (48, .ptr (1, 48) 0 0)] [((1, 6), ⟨0, true, 9, 1, Zah Zad ((r2 ++ [e4]) ++ y9)⟩), ((1, 48), ⟨0, true, .i false (y10.map eEt) none, 0, []⟩)]) (Zdk (Zc4 (ZlN p1 y1 v3) big ((r2 ++ [e4]) ++ y9, y10)) (Sum.elim (fun r16 => (Znu p1 y1 v3 r16).m) (fun z => some [.rt z])))
def ZmV (p1 : List ByteArray) (y1 : Web) (r2 : List ByteArray) (v3 : Nat) (e4 : ByteArray) : PT 0 (List (Lv (List ByteArray × Nat) (List ByteArray) (List ByteArray))) := vw .sep <| vw .sep <| ap r2 (e4 : ByteArray) <| cl (Zxe y1 e4) fun y9 => aq (r2 ++ [e4]) y9 <| vz (fl ((r2 ++ [e4]) ++ y9)) <| lc (mkS [(5, .iptr (Zcs y1) 0), (6, .ref (1, 6) 0 0 ((r2 ++ [e4]) ++ y9).length), (8, vS e4), (14, vL Zad p1), (15, vN p1.length), (16, vN v3)] [((1, 6), ⟨0, true, 9, 1, Zah Zad ((r2 ++ [e4]) ++ y9)⟩)]) ((ZnF p1 y1 r2 v3 e4 y9).m)
def Zm9 (p1 : List ByteArray) (y1 : Web) (v3 : Nat) (r17 : List ByteArray) : PT 0 (List (Lv (List ByteArray × Nat) (List ByteArray) (List ByteArray))) := vs (wa v3 1) <| vz (fl r17) <| lnN (ZqJ p1 y1) (r17, v3 + 1)
def ZkM (p1 : List ByteArray) (y1 : Web) (v3 : Nat) : List ByteArray → St := fun r17 => mkS [(5, .iptr (Zcs y1) 0), (6, .ref (1, 6) 0 0 r17.length), (14, vL Zad p1), (15, vN p1.length), (16, vN v3)] [((1, 6), ⟨0, true, 9, 1, Zah Zad r17⟩)]
def ZeM (p1 : List ByteArray) (y1 : Web) (v3 : Nat) : List ByteArray → Option (List (Lv (List ByteArray × Nat) (List ByteArray) (List ByteArray))) := fun r17 => (Zm9 p1 y1 v3 r17).m
def ZmR (p1 : List ByteArray) (y1 : Web) (r2 : List ByteArray) (v3 : Nat) : PT 0 (List (Lv (List ByteArray × Nat) (List ByteArray) (List ByteArray))) := ix p1 v3 fun e4 => mlk y1.messages e4 fun m5 b6 => vw .go <| br (!b6) (mlk y1.enums e4 fun m7 b8 => br m7 (vw .sep <| vw .sep <| ap r2 (e4 : ByteArray) <| vz (fl (r2 ++ [e4])) <| lxc 1 (ZkM p1 y1 v3 (r2 ++ [e4])) (ZeM p1 y1 v3 (r2 ++ [e4]))) (vz (fl r2) <| lxc 1 (ZkM p1 y1 v3 r2) (ZeM p1 y1 v3 r2))) (vz (fl r2) <| lc (mkS [(5, .iptr (Zcs y1) 0), (6, .ref (1, 6) 0 0 r2.length), (8, vS e4), (14, vL Zad p1), (15, vN p1.length), (16, vN v3)] [((1, 6), ⟨0, true, 9, 1, Zah Zad r2⟩)]) ((ZmV p1 y1 r2 v3 e4).m))
def Ziw (p1 : List ByteArray) (y1 : Web) (r2 : List ByteArray) (v3 : Nat) : PT 0 (List (Lv (List ByteArray × Nat) (List ByteArray) (List ByteArray))) := br (decide ((v3 : Int) < (p1.length : Int))) (vz (fl r2) <| lc (mkS [(5, .iptr (Zcs y1) 0), (6, .ref (1, 6) 0 0 r2.length), (14, vL Zad p1), (15, vN p1.length), (16, vN v3)] [((1, 6), ⟨0, true, 9, 1, Zah Zad r2⟩)]) ((ZmR p1 y1 r2 v3).m)) (vz (fl r2) <| ZmP (Zt8) r2)
def ZjB (p1 : List ByteArray) (y1 : Web) : List ByteArray × Nat → Option (List (Lv (List ByteArray × Nat) (List ByteArray) (List ByteArray))) := fun (r2, v3) => (Ziw p1 y1 r2 v3).m
def ZmF (y20 : List ByteArray) : PT 0 (List (List ByteArray)) := vz (fr y20) <| lrN E28 (fun _ => []) y20
def Zke (y20 : List ByteArray) : PT 0 (List (List ByteArray)) := vz (fl y20) <| lc (mkS [(4, .ref (1, 6) 0 0 y20.length)] [((1, 6), ⟨0, true, 9, 1, Zah Zad y20⟩)]) ((ZmF y20).m)
def ZlB (y19 : List ByteArray) : PT 0 (List (List ByteArray)) := vz (fl y19) <| lc (mkS [(64, .ref (1, 6) 0 0 y19.length)] [((1, 6), ⟨0, true, 9, 1, Zah Zad y19⟩)]) ((ZaU y19).bind fun y20 => (Zke y20).m)
def Zmq (r18 : List ByteArray) (y19 : List ByteArray) : PT 0 (List (List ByteArray)) := rn 6 6 r18.length y19 <| vz (fl y19) <| lc (mkS [(6, .ref (1, 6) 0 0 y19.length)] [((1, 6), ⟨0, true, 9, 1, Zah Zad y19⟩)]) ((ZlB y19).m)
def Zl9 (r18 : List ByteArray) : PT 0 (List (List ByteArray)) := vz (fl r18) <| lc (mkS [(6, .ref (1, 6) 0 0 r18.length), (62, .ref (1, 6) 0 0 r18.length)] [((1, 6), ⟨0, true, 9, 1, Zah Zad r18⟩)]) ((Za8 r18).bind fun y19 => (Zmq r18 y19).m)
def Zls (p1 : List ByteArray) (y1 : Web) : PT 0 (List (List ByteArray)) := vw (.ads 6 6 9 1) <| vw (.fzb 5 [5]) <| vz (fl ([] : List ByteArray)) <| lc (mkS [(5, .iptr (Zcs y1) 0), (6, .ref (1, 6) 0 0 ([] : List ByteArray).length), (14, vL Zad p1), (15, vN p1.length), (16, vI 0)] [((1, 6), ⟨0, true, 9, 1, Zah Zad ([] : List ByteArray)⟩)]) (Zdk (Zc4 (ZjB p1 y1) big (([] : List ByteArray), 0)) (Sum.elim (fun r18 => (Zl9 r18).m) (fun z => some [z])))
def Zkj (p1 : List ByteArray) (y1 : Web) : PT 0 (List (List ByteArray)) := vz (eqL p1) <| lc (mkS [(5, .ptr (1, 5) 0 0), (6, .e0), (14, vL Zad p1), (15, vN p1.length), (16, vI 0)] [((1, 5), ⟨0, true, 69, 2, [.d (.map true (y1.messages.map eEt)), .d (.map false (y1.enums.map eEt))]⟩)]) ((Zls p1 y1).m)
def Zk7 (p0 : Scm) (p1 : List ByteArray) : PT 0 (List (List ByteArray)) := vw .go <| cl (ZvO p0) fun y1 => vw .go <| lc (mkS [(1, vL Zad p1), (5, .ptr (1, 5) 0 0), (6, .e0)] [((1, 5), ⟨0, true, 69, 2, [.d (.map true (y1.messages.map eEt)), .d (.map false (y1.enums.map eEt))]⟩)]) ((Zkj p1 y1).m)
def ZbI (p0 : Scm) (p1 : List ByteArray) : Option (List (List ByteArray)) := (Zk7 p0 p1).m
set_option maxRecDepth 100000 in
theorem ZqR {C : Cx} (co : CO C 0) (p1 : List ByteArray) (y1 : Web) (v3 : Nat) : KLN Try.prog (lkT tl) 66 C (pa [0, 0, 1, 1, 1, 1, 0, 0, 1, 1, 0, 0, 1, 0, 1, 1, 1] (Zak Try.f28)) [.tmp 4] 0 (Zuu p1 y1 v3) (Zts p1 y1 v3) E28 (fun _ => []) (ZlN p1 y1 v3) := fun (r11, r12) _ hm Q Post hQ hL => ZaH co tok tmo 2 (ZnD p1 y1 v3 r11 r12) (lf2 [5, 6, 14, 15, 16, 48] [((1, 6), true), ((1, 48), false)]) (lf2 [5, 6, 14, 15, 16] [((1, 6), true)]) hQ hm hL fun r g => ⟨Zd5 _, fun h => h _ (.head _), fun p13 l14 => fun _ hm hL => bk 3 (ZaH co tok tmo 1 (Zru p1 y1 v3 r11 p13 l14) (lf2 [5, 6, 11, 14, 15, 16, 48] [((1, 6), true), ((1, 48), false)]) nl hQ hm hL fun r g => fun _ hm hL => ZuF co tok tmo (.fst 0 (.fst 1 (.fst 4 (.fst 5 (.fst 2 (.fst 3 (.fst 6 (.fst 7 (.fst 8 .nil))))))))) [5] (ZrS p1 y1 v3 r11 p13 l14) (lf2 [5, 6, 14, 15, 16, 48] [((1, 6), true), ((1, 48), false)]) hm hL fun r g => fun y15 => fun h => h _ (.head _))⟩
set_option maxRecDepth 100000 in
theorem Zrd {C : Cx} (co : CO C 0) (p1 : List ByteArray) (y1 : Web) : KLN Try.prog (lkT tl) 66 C (pa [0, 0, 1, 0, 1, 1, 1] (Zak Try.f28)) [.tmp 4] 0 (ZqJ p1 y1) (Zt8) E28 (fun _ => []) (ZjB p1 y1) := fun (r2, v3) _ hm Q Post hQ hL => ZaH co tok tmo 2 (Ziw p1 y1 r2 v3) (lf2 [5, 6, 14, 15, 16] [((1, 6), true)]) (lf2 [6] [((1, 6), true)]) hQ hm hL fun r g => ⟨fun _ hm hL => sq (bk 1 (Zw5 co tok tmo 2 (ZmR p1 y1 r2 v3) (lf2 [5, 6, 8, 14, 15, 16] [((1, 6), true)]) (lf2 [5, 6, 14, 15, 16] [((1, 6), true)]) hQ hm hL 1 (ZkM p1 y1 v3) (ZeM p1 y1 v3) (fun r17 _ hm hL => Zcf co tok tmo (Zm9 p1 y1 v3 r17) (lf2 [5, 6, 14, 15, 16] [((1, 6), true)]) nl hQ hm hL fun r g => fun h => h _ (.head _)) fun J8 r g => fun e4 => fun m5 b6 => ⟨fun m7 b8 => ⟨J8 (r2 ++ [e4]), J8 r2⟩, fun _ hm hL => sq (ZuF co tok tmo (.fst 0 (.fst 1 (.fst 4 (.fst 5 (.fst 2 (.fst 3 (.fst 6 (.fst 7 (.fst 8 .nil))))))))) [5] (ZmV p1 y1 r2 v3 e4) (lf2 [5, 6, 8, 14, 15, 16] [((1, 6), true)]) hm hL fun r g => fun y9 => fun _ hm hL => ZaH co tok tmo 1 (ZnF p1 y1 r2 v3 e4 y9) (lf2 [5, 6, 14, 15, 16, 48] [((1, 6), true), ((1, 48), false)]) nl hQ hm hL fun r g => fun y10 => fun _ hm hL => bk 2 (lo (ZxY (ZqR co p1 y1 v3) hQ hm hL (fun r16 _ hm hL => Zcf co tok tmo (Znu p1 y1 v3 r16) (lf2 [5, 6, 14, 15, 16] [((1, 6), true)]) nl hQ hm hL fun r g => fun h => h _ (.head _)))))⟩)), fun h => h _ (.head _)⟩
set_option maxRecDepth 100000 in
theorem ZyE (p0 : Scm) (p1 : List ByteArray) : KCN Try.prog 28 [.agg ((Zcg p0).map .d), vL Zad p1] (ZbI p0 p1) E28 := ZwE Try.func28 Try.ntmps28 tok [.tmp 4] fun C co y hm Post hL => ZaH co tok tmo 3 (Zk7 p0 p1) (lf2 [1, 5, 6] [((1, 5), false)]) nl (fun _ h => h) hm hL fun r g => fun y1 => fun _ hm hL => sq (ZaH co tok tmo 1 (Zkj p1 y1) (lf2 [5, 6, 14, 15, 16] [((1, 5), false)]) nl (fun _ h => h) hm hL fun r g => fun _ hm hL => bk 0 (Zj8 co (Zls p1 y1) (lf2 [5, 6, 14, 15, 16] [((1, 6), true)]) hm hL fun r g => fun _ hm hL => lo (ZsQ (Zrd co p1 y1) (fun _ h => h) hm hL (fun r18 _ hm hL => sq (rg (Zk6 co tok 1 (Zl9 r18) (lf2 [6, 62] [((1, 6), true)]) hm hL fun r g => fun _ hm hL => Ze0 co hm 51 [.ref (1, 6) 0 0 r18.length] [(1, 6)] ([((1, 6), ⟨0, true, 9, 1, Zah Zad r18⟩)] ++ []) (fun z => .tup []) (fun z => [((1, 6), ⟨0, true, 9, 1, Zah Zad z⟩)]) [] (fun z => trivial) (trivial) (fun z hz r g => Za2 (Zwz r18) hz co g [((1, 6), ⟨0, true, 9, 1, Zah Zad r18⟩)] [] [((1, 6), ⟨0, true, 9, 1, Zah Zad z⟩)] (lkS []) (fun H' hg ho => trivial) (fun H => ⟨fun _ => ⟨rfl, Zas (Zag _ _) (by kernel_rfl)⟩, by kernel_rfl, trivial⟩) (fun H => ⟨fun _ => ⟨rfl, Zas (Zag _ _) (by kernel_rfl)⟩, by kernel_rfl, trivial⟩)) fun y19 hm => Zj9 co tok (Zmq r18 y19) (lf2 [6] [((1, 6), true)]) hm hL fun r g => fun _ hm hL => sq (rg (Zk6 co tok 1 (ZlB y19) (lf2 [64] [((1, 6), true)]) hm hL fun r g => fun _ hm hL => Ze0 co hm 52 [.ref (1, 6) 0 0 y19.length] [(1, 6)] ([((1, 6), ⟨0, true, 9, 1, Zah Zad y19⟩)] ++ []) (fun z => .ref (1, 6) 0 0 z.length) (fun z => [((1, 6), ⟨0, true, 9, 1, Zah Zad z⟩)]) [] (fun z => trivial) (trivial) (fun z hz r g => Za2 (Zx9 y19) hz co g [((1, 6), ⟨0, true, 9, 1, Zah Zad y19⟩)] [] [((1, 6), ⟨0, true, 9, 1, Zah Zad z⟩)] (lkS []) (fun H' hg ho => trivial) (fun H => ⟨fun _ => ⟨rfl, Zas (Zag _ _) (by kernel_rfl)⟩, by kernel_rfl, trivial⟩) (fun H => ⟨fun _ => ⟨rfl, Zas (Zag _ _) (by kernel_rfl)⟩, by kernel_rfl, trivial⟩)) fun y20 hm => Zj9 co tok (Zke y20) (lf2 [4] [((1, 6), true)]) hm hL fun r g => fun _ hm hL => Zch co tok tmo (ZmF y20) hm hL fun r g => fun h => h _ (.head _)))))))))
def Zcx (p0 : Scm) (p1 : List ByteArray) : Option (List ByteArray) := ZrQ (ZbI p0 p1)
theorem ZwX (p0 : Scm) (p1 : List ByteArray) : KC Try.prog 28 [.agg ((Zcg p0).map .d), vL Zad p1] (Zcx p0 p1) E28 := (ZyE p0 p1).uniq
abbrev E14 : Bool → AV := fun y => vB y
def Zt6 (p0 : List ByteArray) (p1 : List ByteArray) : Nat → St := fun v1 => mkS [(0, vL Zad p0), (1, vL Zad p1), (5, vN v1)] []
def ZtD : Unit → Nat × St := fun _ => (0, mkS [] [])
def ZnB (p0 : List ByteArray) (p1 : List ByteArray) (v1 : Nat) : PT 0 (Lv (Nat) (Unit) (Bool)) := vz (eqL p0) <| br (decide ((v1 : Int) < (p0.length : Int))) (ix p0 v1 fun e2 => ix p1 v1 fun e3 => br (!decide (e2 = e3)) (lrt E14 (fun _ => []) false) (vs (wa v1 1) <| ln (Zt6 p0 p1) (v1 + 1))) (lxe (ZtD) ())
def Zmu (p0 : List ByteArray) (p1 : List ByteArray) : Nat → Option (Lv (Nat) (Unit) (Bool)) := fun v1 => (ZnB p0 p1 v1).m
def Zrh : PT 0 (Bool) := lr E14 (fun _ => []) true
def Zr1 (p0 : List ByteArray) (p1 : List ByteArray) : PT 0 (Bool) := lc (mkS [(0, vL Zad p0), (1, vL Zad p1), (5, vI 0)] []) ((Zar (Zmu p0 p1) big 0).bind (Sum.elim (fun _ => (Zrh).m) some))
def Zqh (p0 : List ByteArray) (p1 : List ByteArray) : PT 0 (Bool) := vz (eqL p0) <| vz (eqL p1) <| br (!decide ((p0.length : Int) = (p1.length : Int))) (lr E14 (fun _ => []) false) (lc (mkS [(0, vL Zad p0), (1, vL Zad p1)] []) ((Zr1 p0 p1).m))
def ZaN (p0 : List ByteArray) (p1 : List ByteArray) : Option (Bool) := (Zqh p0 p1).m
set_option maxRecDepth 100000 in
theorem ZpW {C : Cx} (co : CO C 0) (p0 : List ByteArray) (p1 : List ByteArray) : KL Try.prog (lkT tl) 26 C (pa [0, 0, 1, 0, 1, 1] (Zak Try.f14)) [.tmp 4] 0 (Zt6 p0 p1) (ZtD) E14 (fun _ => []) (Zmu p0 p1) := fun v1 _ hm Q Post hQ hL => Zcf co tok tmo (ZnB p0 p1 v1) (lf1 [0, 1, 5]) nl hQ hm hL fun r g => ⟨fun e2 => fun e3 => ⟨id, id⟩, id⟩
set_option maxRecDepth 100000 in
theorem ZxD (p0 : List ByteArray) (p1 : List ByteArray) : KC Try.prog 14 [vL Zad p0, vL Zad p1] (ZaN p0 p1) E14 := kc1 Try.func14 Try.ntmps14 tok [.tmp 4] fun C co y hm Post hL => ZaH co tok tmo 2 (Zqh p0 p1) (lf1 [0, 1]) nl (fun _ h => h) hm hL fun r g => ⟨id, fun _ hm hL => sq (ZaH co tok tmo 1 (Zr1 p0 p1) (lf1 [0, 1, 5]) nl (fun _ h => h) hm hL fun r g => fun _ hm hL => bk 0 (lo (lpF (ZpW co p0 p1) (fun _ h => h) hm hL (fun _ hm => Zch co tok tmo (Zrh) hm hL fun r g => id))))⟩
abbrev E29 : List ByteArray → AV := fun y => vL Zad y
def Zqs (p0 : Scm) (p1 : ByteArray) : PT 0 (List ByteArray) := vw .go <| cl (ZvO p0) fun y1 => cl (Zxe y1 p1) fun y2 => lr E29 (fun _ => []) y2
def ZcC (p0 : Scm) (p1 : ByteArray) : Option (List ByteArray) := (Zqs p0 p1).m
set_option maxRecDepth 100000 in
theorem Zza (p0 : Scm) (p1 : ByteArray) : KC Try.prog 29 [.agg ((Zcg p0).map .d), vS p1] (ZcC p0 p1) E29 := kc1 Try.func29 Try.ntmps29 tok [.tmp 4] fun C co y hm Post hL => Zch co tok tmo (Zqs p0 p1) hm hL fun r g => fun y1 => fun y2 => id
abbrev E30 : List ByteArray → AV := fun y => vL Zad y
def Zsf (p0 : Scm) (y1 : Msg × Int) : List ByteArray × Nat → St := fun (v2, v3) => mkS [(2, .ptr (1, 2) 0 0), (5, vL Zad v2), (6, .ptr (1, 6) 0 0), (8, vN v3)] [((1, 2), ⟨0, true, 26, 3, [vL Zbl p0.messages, vL ZbV p0.enums, vL Zco p0.services]⟩), ((1, 6), ⟨0, true, 42, 5, [vS y1.1.name, vL Zdh y1.1.fields, vL ZlR y1.1.reserved, vL Zad y1.1.gone, vL eNt y1.1.notes]⟩)]
def ZvR : List ByteArray → Nat × St := fun v7 => (0, mkS [(5, vL Zad v7)] [])
def Zns (p0 : Scm) (y1 : Msg × Int) (v2 : List ByteArray) (v3 : Nat) : PT 0 (Lv (List ByteArray × Nat) (List ByteArray) (List ByteArray)) := vw .go <| vz (eqL y1.1.fields) <| br (decide ((v3 : Int) < (y1.1.fields.length : Int))) (vw .go <| vw .go <| ix y1.1.fields v3 fun e4 => cl (Zxn p0 e4) fun y5 => br y5.2 (cl (Zsz v2 y5.1) fun y6 => vs (wa v3 1) <| ln (Zsf p0 y1) (y6, v3 + 1)) (vs (wa v3 1) <| ln (Zsf p0 y1) (v2, v3 + 1))) (lxe (ZvR) v2)
def Zmd (p0 : Scm) (y1 : Msg × Int) : List ByteArray × Nat → Option (Lv (List ByteArray × Nat) (List ByteArray) (List ByteArray)) := fun (v2, v3) => (Zns p0 y1 v2 v3).m
def ZrE (v7 : List ByteArray) : PT 0 (List ByteArray) := lr E30 (fun _ => []) v7
def ZrK (p0 : Scm) (y1 : Msg × Int) : PT 0 (List ByteArray) := vw (.ads 5 5 9 1) <| vw (.frz 5 [(5, (([] : List ByteArray).map Zad))] []) <| vz (fz ([] : List ByteArray)) <| lc (mkS [(2, .ptr (1, 2) 0 0), (5, vL Zad ([] : List ByteArray)), (6, .ptr (1, 6) 0 0), (8, vI 0)] [((1, 2), ⟨0, true, 26, 3, [vL Zbl p0.messages, vL ZbV p0.enums, vL Zco p0.services]⟩), ((1, 6), ⟨0, true, 42, 5, [vS y1.1.name, vL Zdh y1.1.fields, vL ZlR y1.1.reserved, vL Zad y1.1.gone, vL eNt y1.1.notes]⟩)]) ((Zar (Zmd p0 y1) big (([] : List ByteArray), 0)).bind (Sum.elim (fun v7 => (ZrE v7).m) some))
def Zrc (p0 : Scm) (y1 : Msg × Int) : PT 0 (List ByteArray) := lc (mkS [(2, .ptr (1, 2) 0 0), (5, .e0), (6, .ptr (1, 6) 0 0), (8, vI 0)] [((1, 2), ⟨0, true, 26, 3, [vL Zbl p0.messages, vL ZbV p0.enums, vL Zco p0.services]⟩), ((1, 6), ⟨0, true, 42, 5, [vS y1.1.name, vL Zdh y1.1.fields, vL ZlR y1.1.reserved, vL Zad y1.1.gone, vL eNt y1.1.notes]⟩)]) ((ZrK p0 y1).m)
def Zqr (p0 : Scm) (p1 : ByteArray) : PT 0 (List ByteArray) := vw .go <| cl (ZuN p0 p1) fun y1 => vw .go <| lc (mkS [(2, .ptr (1, 2) 0 0), (5, .e0), (6, .ptr (1, 6) 0 0)] [((1, 2), ⟨0, true, 26, 3, [vL Zbl p0.messages, vL ZbV p0.enums, vL Zco p0.services]⟩), ((1, 6), ⟨0, true, 42, 5, [vS y1.1.name, vL Zdh y1.1.fields, vL ZlR y1.1.reserved, vL Zad y1.1.gone, vL eNt y1.1.notes]⟩)]) ((Zrc p0 y1).m)
def ZaX (p0 : Scm) (p1 : ByteArray) : Option (List ByteArray) := (Zqr p0 p1).m
set_option maxRecDepth 100000 in
theorem Zqx {C : Cx} (co : CO C 0) (p0 : Scm) (y1 : Msg × Int) : KL Try.prog (lkT tl) 39 C (pa [0, 0, 1, 0, 1, 1, 1] (Zak Try.f30)) [.tmp 4] 0 (Zsf p0 y1) (ZvR) E30 (fun _ => []) (Zmd p0 y1) := fun (v2, v3) _ hm Q Post hQ hL => Zcf co tok tmo (Zns p0 y1 v2 v3) (lf2 [2, 5, 6, 8] [((1, 2), false), ((1, 6), false)]) (lf1 [5]) hQ hm hL fun r g => ⟨fun e4 => fun y5 => ⟨fun y6 => id, id⟩, id⟩
set_option maxRecDepth 100000 in
theorem ZxH (p0 : Scm) (p1 : ByteArray) : KC Try.prog 30 [.agg ((Zcg p0).map .d), vS p1] (ZaX p0 p1) E30 := kc1 Try.func30 Try.ntmps30 tok [.tmp 4] fun C co y hm Post hL => ZaH co tok tmo 3 (Zqr p0 p1) (lf2 [2, 5, 6] [((1, 2), false), ((1, 6), false)]) nl (fun _ h => h) hm hL fun r g => fun y1 => fun _ hm hL => sq (ZaH co tok tmo 1 (Zrc p0 y1) (lf2 [2, 5, 6, 8] [((1, 2), false), ((1, 6), false)]) nl (fun _ h => h) hm hL fun r g => fun _ hm hL => bk 0 (Zj8 co (ZrK p0 y1) (lf2 [2, 5, 6, 8] [((1, 2), false), ((1, 6), false)]) hm hL fun r g => fun _ hm hL => lo (lpF (Zqx co p0 y1) (fun _ h => h) hm hL (fun v7 hm => Zch co tok tmo (ZrE v7) hm hL fun r g => id))))
abbrev E54 : Bool → AV := fun y => vB y
def ZqI (p0 : Scm) (p1 : ByteArray) : PT 0 (Bool) := vw .go <| cl (ZuN p0 p1) fun y1 => vw .go <| vw .go <| cl (ZwU p0 p1) fun y2 => vw .go <| lr E54 (fun _ => []) (decide ((0 : Int) ≤ y1.2) || decide ((0 : Int) ≤ y2.2))
def ZaD (p0 : Scm) (p1 : ByteArray) : Option (Bool) := (ZqI p0 p1).m
set_option maxRecDepth 100000 in
theorem ZyC (p0 : Scm) (p1 : ByteArray) : KC Try.prog 54 [.agg ((Zcg p0).map .d), vS p1] (ZaD p0 p1) E54 := kc1 Try.func54 Try.ntmps54 tok [.tmp 4] fun C co y hm Post hL => Zch co tok tmo (ZqI p0 p1) hm hL fun r g => fun y1 => fun y2 => id
abbrev E31 : List ByteArray → AV := fun y => vL Zad y
def ZrD (p0 : Scm) (p1 : List ByteArray) : List ByteArray × Nat → St := fun (v1, v2) => mkS [(1, vL Zad p1), (2, .ptr (1, 2) 0 0), (5, vL Zad v1), (6, vN v2)] [((1, 2), ⟨0, true, 26, 3, [vL Zbl p0.messages, vL ZbV p0.enums, vL Zco p0.services]⟩)]
def ZuO (p0 : Scm) (p1 : List ByteArray) : List ByteArray → Nat × St := fun v7 => (0, mkS [(1, vL Zad p1), (2, .ptr (1, 2) 0 0), (5, vL Zad v7)] [((1, 2), ⟨0, true, 26, 3, [vL Zbl p0.messages, vL ZbV p0.enums, vL Zco p0.services]⟩)])
def Zn1 (p0 : Scm) (p1 : List ByteArray) (v1 : List ByteArray) (v2 : Nat) : PT 0 (Lv (List ByteArray × Nat) (List ByteArray) (List ByteArray)) := vz (eqL p1) <| br (decide ((v2 : Int) < (p1.length : Int))) (vw .go <| ix p1 v2 fun e3 => cl (ZyC p0 e3) fun y4 => br y4 (ix p1 v2 fun e5 => cl (Zsz v1 e5) fun y6 => vs (wa v2 1) <| ln (ZrD p0 p1) (y6, v2 + 1)) (vs (wa v2 1) <| ln (ZrD p0 p1) (v1, v2 + 1))) (lxe (ZuO p0 p1) v1)
def Zma (p0 : Scm) (p1 : List ByteArray) : List ByteArray × Nat → Option (Lv (List ByteArray × Nat) (List ByteArray) (List ByteArray)) := fun (v1, v2) => (Zn1 p0 p1 v1 v2).m
def ZsR (p0 : Scm) (y8 : List ByteArray) : List ByteArray × Nat → St := fun (v9, v10) => mkS [(2, .ptr (1, 2) 0 0), (5, vL Zad v9), (7, vL Zad y8), (8, vN v10)] [((1, 2), ⟨0, true, 26, 3, [vL Zbl p0.messages, vL ZbV p0.enums, vL Zco p0.services]⟩)]
def Zu2 : List ByteArray → Nat × St := fun v18 => (2, mkS [(5, vL Zad v18)] [])
def ZvD (p0 : Scm) (y8 : List ByteArray) (v10 : Nat) (y12 : List ByteArray) : List ByteArray × Nat → St := fun (v13, v14) => mkS [(2, .ptr (1, 2) 0 0), (5, vL Zad v13), (7, vL Zad y8), (8, vN v10), (9, vL Zad y12), (10, vN v14)] [((1, 2), ⟨0, true, 26, 3, [vL Zbl p0.messages, vL ZbV p0.enums, vL Zco p0.services]⟩)]
def ZtA (p0 : Scm) (y8 : List ByteArray) (v10 : Nat) : List ByteArray → Nat × St := fun v17 => (4, mkS [(2, .ptr (1, 2) 0 0), (5, vL Zad v17), (7, vL Zad y8), (8, vN v10)] [((1, 2), ⟨0, true, 26, 3, [vL Zbl p0.messages, vL ZbV p0.enums, vL Zco p0.services]⟩)])
def Zm0 (p0 : Scm) (y8 : List ByteArray) (v10 : Nat) (y12 : List ByteArray) (v13 : List ByteArray) (v14 : Nat) : PT 0 (Lv (List ByteArray × Nat) (List ByteArray) (List ByteArray)) := vz (eqL y12) <| br (decide ((v14 : Int) < (y12.length : Int))) (ix y12 v14 fun e15 => cl (Zsz v13 e15) fun y16 => vs (wa v14 1) <| ln (ZvD p0 y8 v10 y12) (y16, v14 + 1)) (lxe (ZtA p0 y8 v10) v13)
def Zki (p0 : Scm) (y8 : List ByteArray) (v10 : Nat) (y12 : List ByteArray) : List ByteArray × Nat → Option (Lv (List ByteArray × Nat) (List ByteArray) (List ByteArray)) := fun (v13, v14) => (Zm0 p0 y8 v10 y12 v13 v14).m
def ZmU (p0 : Scm) (y8 : List ByteArray) (v10 : Nat) (v17 : List ByteArray) : PT 0 (Lv (List ByteArray × Nat) (List ByteArray) (List ByteArray)) := vs (wa v10 1) <| ln (ZsR p0 y8) (v17, v10 + 1)
def ZnO (p0 : Scm) (y8 : List ByteArray) (v9 : List ByteArray) (v10 : Nat) : PT 0 (Lv (List ByteArray × Nat) (List ByteArray) (List ByteArray)) := vw .go <| ix y8 v10 fun e11 => cl (ZxH p0 e11) fun y12 => lc (mkS [(2, .ptr (1, 2) 0 0), (5, vL Zad v9), (7, vL Zad y8), (8, vN v10), (9, vL Zad y12), (10, vI 0)] [((1, 2), ⟨0, true, 26, 3, [vL Zbl p0.messages, vL ZbV p0.enums, vL Zco p0.services]⟩)]) ((Zar (Zki p0 y8 v10 y12) big (v9, 0)).bind (Sum.elim (fun v17 => (ZmU p0 y8 v10 v17).m) (fun z => some (.rt z))))
def ZnK (p0 : Scm) (y8 : List ByteArray) (v9 : List ByteArray) (v10 : Nat) : PT 0 (Lv (List ByteArray × Nat) (List ByteArray) (List ByteArray)) := vz (eqL y8) <| br (decide ((v10 : Int) < (y8.length : Int))) (lc (mkS [(2, .ptr (1, 2) 0 0), (5, vL Zad v9), (7, vL Zad y8), (8, vN v10)] [((1, 2), ⟨0, true, 26, 3, [vL Zbl p0.messages, vL ZbV p0.enums, vL Zco p0.services]⟩)]) ((ZnO p0 y8 v9 v10).m)) (lxe (Zu2) v9)
def Zlu (p0 : Scm) (y8 : List ByteArray) : List ByteArray × Nat → Option (Lv (List ByteArray × Nat) (List ByteArray) (List ByteArray)) := fun (v9, v10) => (ZnK p0 y8 v9 v10).m
def Zr4 (v18 : List ByteArray) : PT 0 (List ByteArray) := lr E31 (fun _ => []) v18
def Zp6 (p0 : Scm) (v7 : List ByteArray) (y8 : List ByteArray) : PT 0 (List ByteArray) := lc (mkS [(2, .ptr (1, 2) 0 0), (5, vL Zad v7), (7, vL Zad y8), (8, vI 0)] [((1, 2), ⟨0, true, 26, 3, [vL Zbl p0.messages, vL ZbV p0.enums, vL Zco p0.services]⟩)]) ((Zar (Zlu p0 y8) big (v7, 0)).bind (Sum.elim (fun v18 => (Zr4 v18).m) some))
def Zr9 (p0 : Scm) (p1 : List ByteArray) (v7 : List ByteArray) : PT 0 (List ByteArray) := vw .go <| cl (Zzf p0 p1) fun y8 => lc (mkS [(2, .ptr (1, 2) 0 0), (5, vL Zad v7), (7, vL Zad y8)] [((1, 2), ⟨0, true, 26, 3, [vL Zbl p0.messages, vL ZbV p0.enums, vL Zco p0.services]⟩)]) ((Zp6 p0 v7 y8).m)
def Zqi (p0 : Scm) (p1 : List ByteArray) : PT 0 (List ByteArray) := vw (.ads 5 5 9 1) <| vw (.frz 5 [(5, (([] : List ByteArray).map Zad))] []) <| vz (fz ([] : List ByteArray)) <| lc (mkS [(1, vL Zad p1), (2, .ptr (1, 2) 0 0), (5, vL Zad ([] : List ByteArray)), (6, vI 0)] [((1, 2), ⟨0, true, 26, 3, [vL Zbl p0.messages, vL ZbV p0.enums, vL Zco p0.services]⟩)]) ((Zar (Zma p0 p1) big (([] : List ByteArray), 0)).bind (Sum.elim (fun v7 => (Zr9 p0 p1 v7).m) some))
def Zme (p0 : Scm) (p1 : List ByteArray) : PT 0 (List ByteArray) := lc (mkS [(1, vL Zad p1), (2, .ptr (1, 2) 0 0), (5, .e0), (6, vI 0)] [((1, 2), ⟨0, true, 26, 3, [vL Zbl p0.messages, vL ZbV p0.enums, vL Zco p0.services]⟩)]) ((Zqi p0 p1).m)
def ZmH (p0 : Scm) (p1 : List ByteArray) : PT 0 (List ByteArray) := lc (mkS [(1, vL Zad p1), (2, .ptr (1, 2) 0 0), (5, .e0)] [((1, 2), ⟨0, true, 26, 3, [vL Zbl p0.messages, vL ZbV p0.enums, vL Zco p0.services]⟩)]) ((Zme p0 p1).m)
def ZaE (p0 : Scm) (p1 : List ByteArray) : Option (List ByteArray) := (ZmH p0 p1).m
set_option maxRecDepth 100000 in
theorem Zra {C : Cx} (co : CO C 0) (p0 : Scm) (p1 : List ByteArray) : KL Try.prog (lkT tl) 57 C (pa [0, 0, 1, 0, 1, 1] (Zak Try.f31)) [.tmp 4] 0 (ZrD p0 p1) (ZuO p0 p1) E31 (fun _ => []) (Zma p0 p1) := fun (v1, v2) _ hm Q Post hQ hL => Zcf co tok tmo (Zn1 p0 p1 v1 v2) (lf2 [1, 2, 5, 6] [((1, 2), false)]) (lf2 [1, 2, 5] [((1, 2), false)]) hQ hm hL fun r g => ⟨fun e3 => fun y4 => ⟨fun e5 => fun y6 => id, id⟩, id⟩
set_option maxRecDepth 100000 in
theorem Zsq {C : Cx} (co : CO C 0) (p0 : Scm) (y8 : List ByteArray) (v10 : Nat) (y12 : List ByteArray) : KL Try.prog (lkT tl) 57 C (pa [0, 0, 1, 1, 0, 0, 1, 0, 0, 1, 0, 1, 1, 1, 1] (Zak Try.f31)) [.tmp 4] 0 (ZvD p0 y8 v10 y12) (ZtA p0 y8 v10) E31 (fun _ => []) (Zki p0 y8 v10 y12) := fun (v13, v14) _ hm Q Post hQ hL => Zcf co tok tmo (Zm0 p0 y8 v10 y12 v13 v14) (lf2 [2, 5, 7, 8, 9, 10] [((1, 2), false)]) (lf2 [2, 5, 7, 8] [((1, 2), false)]) hQ hm hL fun r g => ⟨fun e15 => fun y16 => id, id⟩
set_option maxRecDepth 100000 in
theorem Zq8 {C : Cx} (co : CO C 0) (p0 : Scm) (y8 : List ByteArray) : KL Try.prog (lkT tl) 57 C (pa [0, 0, 1, 0, 1, 1, 1, 1] (Zak Try.f31)) [.tmp 4] 0 (ZsR p0 y8) (Zu2) E31 (fun _ => []) (Zlu p0 y8) := fun (v9, v10) _ hm Q Post hQ hL => ZaH co tok tmo 1 (ZnK p0 y8 v9 v10) (lf2 [2, 5, 7, 8] [((1, 2), false)]) (lf1 [5]) hQ hm hL fun r g => ⟨fun _ hm hL => sq (bk 3 (ZaH co tok tmo 2 (ZnO p0 y8 v9 v10) (lf2 [2, 5, 7, 8, 9, 10] [((1, 2), false)]) nl hQ hm hL fun r g => fun e11 => fun y12 => fun _ hm hL => bk 4 (lo (lpL (Zsq co p0 y8 v10 y12) hQ hm hL (fun v17 hm => Zcf co tok tmo (ZmU p0 y8 v10 v17) (lf2 [2, 5, 7, 8] [((1, 2), false)]) nl hQ hm hL fun r g => id))))), id⟩
set_option maxRecDepth 100000 in
theorem Zyg (p0 : Scm) (p1 : List ByteArray) : KC Try.prog 31 [.agg ((Zcg p0).map .d), vL Zad p1] (ZaE p0 p1) E31 := kc1 Try.func31 Try.ntmps31 tok [.tmp 4] fun C co y hm Post hL => ZaH co tok tmo 2 (ZmH p0 p1) (lf2 [1, 2, 5] [((1, 2), false)]) nl (fun _ h => h) hm hL fun r g => fun _ hm hL => sq (ZaH co tok tmo 1 (Zme p0 p1) (lf2 [1, 2, 5, 6] [((1, 2), false)]) nl (fun _ h => h) hm hL fun r g => fun _ hm hL => bk 0 (Zj8 co (Zqi p0 p1) (lf2 [1, 2, 5, 6] [((1, 2), false)]) hm hL fun r g => fun _ hm hL => lo (lpF (Zra co p0 p1) (fun _ h => h) hm hL (fun v7 hm => ZaH co tok tmo 1 (Zr9 p0 p1 v7) (lf2 [2, 5, 7] [((1, 2), false)]) nl (fun _ h => h) hm hL fun r g => fun y8 => fun _ hm hL => sq (ZaH co tok tmo 1 (Zp6 p0 v7 y8) (lf2 [2, 5, 7, 8] [((1, 2), false)]) nl (fun _ h => h) hm hL fun r g => fun _ hm hL => bk 2 (lo (lpF (Zq8 co p0 y8) (fun _ h => h) hm hL (fun v18 hm => Zch co tok tmo (Zr4 v18) hm hL fun r g => id))))))))
abbrev E9 : Bool → AV := fun y => vB y
def Zw2 (p0 : Scm) (p1 : ByteArray) (p2 : List ByteArray) : PT 0 (Bool) := vw .go <| cl (Zy6 p0) fun y1 => vy (!(!y1)) (eqL p2) <| br ((!y1) || decide ((20 : Int) < (p2.length : Int))) (lr E9 (fun _ => []) true) (vw .go <| cl (Zza p0 p1) fun y2 => vw .go <| cl (ZxH p0 p1) fun y3 => cl (ZxD y2 y3) fun y4 => vw .go <| clg y4 (ZwX p0 p2) fun y5 => vw .go <| clg y4 (Zyg p0 p2) fun y6 => clg y4 (ZxD y5 y6) fun y7 => clg (y4 && y7) (Zyk) fun y8 => lr E9 (fun _ => []) ((y4 && y7) && y8))
def Zao (p0 : Scm) (p1 : ByteArray) (p2 : List ByteArray) : Option (Bool) := (Zw2 p0 p1 p2).m
set_option maxRecDepth 100000 in
theorem K_9 (p0 : Scm) (p1 : ByteArray) (p2 : List ByteArray) : KC Try.prog 9 [.agg ((Zcg p0).map .d), vS p1, vL Zad p2] (Zao p0 p1 p2) E9 := kc1 Try.func9 Try.ntmps9 tok [.tmp 6] fun C co y hm Post hL => Zch co tok tmo (Zw2 p0 p1 p2) hm hL fun r g => fun y1 => ⟨id, fun y2 => fun y3 => fun y4 => fun y5 => fun y6 => fun y7 => fun y8 => id⟩
end Go.Proofs.Ythhipejbnbochaa
namespace Go.Proofs.Ythhipejbnbochaa
set_option linter.all false
open Go Go.Eng Go.ChangeShapes Go.WideShapes Go.ChangeAt Go.RowKit
theorem ZiW {H : Type} (b : List UInt8) : Rows.uptoBulk (DataW.lit (H := H) (.string b)) = b.length + 1 := by simp only [Rows.uptoBulk]
theorem Zjd {H : Type} (a b : List (DataW H)) : Rows.uptoBulk (.slice a b) = Rows.uptoBulkAll a + Rows.uptoBulkAll b + 1 := by simp only [Rows.uptoBulk]
theorem Zm3 {H : Type} (a : List (DataW H)) : Rows.uptoBulk (.agg a) = Rows.uptoBulkAll a + 1 := by simp only [Rows.uptoBulk]
def Zgv (W : World) (ds : List D) (cs : List Value) (o : Nat) : Prop := ∀ (i : Nat) (d : D), ds[i]? = some d → ∃ c, cs[o + i]? = some c ∧ RepD W (· < W.heap.size) d c
def Zhs (W : World) (ds : List D) (cs : List Value) : Prop := ds.length = cs.length ∧ Zgv W ds cs 0
theorem Zgv.app {W : World} {ds es : List D} {cs : List Value} {o : Nat} (h : Zgv W ds cs o) (k : Zgv W es cs (o + ds.length)) : Zgv W (ds ++ es) cs o := fun i d hi => by
 rcases Yq i ds.length with hl | hl
 ·rw [Yi hl] at hi; exact h i d hi
 ·rw [Yn hl] at hi
  obtain ⟨c, h1, h2⟩ := k _ d hi
  grind
theorem Zgv.nil {W : World} {cs : List Value} {o : Nat} : Zgv W [] cs o := fun i d h => by simp at h
theorem Zhs.at {W : World} {ds : List D} {cs : List Value} {o k : Nat} (h : Zhs W ds ((cs.drop o).take k)) : Zgv W ds cs o := fun i d hi => by
 obtain ⟨c, h1, h2⟩ := h.2 i d hi
 grind
mutual
def bk : D → Nat
 | .int _ _ => 0
 | .bool _ => 0
 | .str s => s.size
 | .list es => Zsc es
 | .map _ es => Zsc es
def bkL : List D → Nat
 | [] => 0
 | d :: l => bk d + bkL l
def Zsc : List (List D) → Nat
 | [] => 0
 | e :: l => bkL e + 1 + Zsc l
end
theorem Zlo : ∀ a b : List D, bkL (a ++ b) = bkL a + bkL b
 | [], b => by rw [Yaj, bkL, Yy]
 | d :: a, b => by rw [YaN, bkL, bkL, Zlo a b, Yv]
theorem Zhl (d : D) : bkL [d] = bk d := by rw [bkL, bkL, Y9]
theorem Zpk {α : Type} {e : α → List D} : ∀ l : List α, l.length ≤ Zsc (l.map e)
 | [] => Yao _
 | x :: l => by have := Zpk (e := e) l; rw [YP, Zsc, Y8]; omega
section
variable {H : Type} (enc : TypeId × Value → H) (P : Program) (W : World)
def RdN {α : Type} (n : Nat) (t : TypeId) (e : α → List D) : Prop :=
 ∀ cs x, DataW.trod enc P W 0 (fun _ => true) true n t cs = some x → ∃ v : α, Zhs W (e v) cs ∧ bkL (e v) + 1 ≤ Rows.uptoBulk x.1
end
section
variable {H : Type} {enc : TypeId × Value → H} {P : Program} {W : World} {n : Nat} {t : TypeId}
theorem ZfI (d : DataW H) : 1 ≤ Rows.uptoBulk d := by cases d <;> (try (rename_i l; cases l)) <;> simp [Rows.uptoBulk]
theorem Zcz {d : D} {c : Value} (h : RepD W (· < W.heap.size) d c) : Zhs W [d] [c] := ⟨rfl, fun i d' hi => by
 cases i with
 | zero => cases hi; exact ⟨c, rfl, h⟩
 | succ i => simp at hi⟩
theorem ZbU {k : IntKind} (ht : P.underlying t = some (.int k)) : RdN enc P W n t (fun v : Int => [.int k v]) := fun cs x hx => by
 obtain ⟨m, rfl, rfl, _⟩ := DataW.trod_int ht hx
 exact ⟨m, Zcz (.int _ _), ZfI _⟩
theorem ZkT (ht : P.underlying t = some .bool) : RdN enc P W n t (fun v : Bool => [.bool v]) := fun cs x hx => by
 obtain ⟨m, rfl, rfl⟩ := DataW.trod_bool ht hx
 exact ⟨m, Zcz (.bool _), ZfI _⟩
theorem ZbK (ht : P.underlying t = some .string) : RdN enc P W n t (fun v : ByteArray => [.str v]) := fun cs x hx => by
 obtain ⟨m, rfl, rfl, _⟩ := DataW.trod_string ht hx
 refine ⟨m, Zcz (.str _), ?_⟩
 rw [ZiW, Zhl]
 exact Yf _
theorem Zpv {α : Type} {e : α → List D} : ∀ (l : List α) (xs : List (DataW H × List MemPlace)), l.length = xs.length → (∀ (i : Nat) (v : α), l[i]? = some v → ∃ y : DataW H × List MemPlace, xs[i]? = some y ∧ bkL (e v) + 1 ≤ Rows.uptoBulk y.1) → Zsc (l.map e) ≤ Rows.uptoBulkAll (xs.map (·.1))
 | [], _, _, _ => Yao _
 | x :: l, [], h, _ => by cases h
 | x :: l, y :: xs, h, k => by
  have := Zpv l xs (YaU h) (fun i v hi => k (i + 1) v hi)
  obtain ⟨y', h1, h2⟩ := k 0 x rfl
  cases h1
  rw [YP, YP, Zsc]
  simp only [Rows.uptoBulkAll]
  omega
theorem ZmB {α : Type} {Q : Nat → α → Prop} : ∀ (len : Nat), (∀ i, i < len → ∃ v, Q i v) → ∃ l : List α, l.length = len ∧ ∀ i v, l[i]? = some v → Q i v
 | 0, _ => ⟨[], rfl, fun i v h => by simp at h⟩
 | len + 1, h => by
  obtain ⟨l, h1, h2⟩ := ZmB len (fun i hi => h i (by omega))
  obtain ⟨v, hv⟩ := h len (by omega)
  refine ⟨l ++ [v], by simp [h1], fun i w hi => ?_⟩
  grind
theorem Zaw {α : Type} {e : TypeId} {enc' : α → List D} {sz : Nat} (ht : P.underlying t = some (.slice e)) (hsz : P.cellsOf e = sz) (hs0 : sz ≠ 0) (hl : ∀ x, (enc' x).length = sz) (h : ∀ m, m < n → RdN enc P W m e enc') :
  RdN enc P W n t (fun l : List α => [.list (l.map enc')]) := fun cs x hx => by
 rcases DataW.trod_slice ht hx with ⟨rfl, rfl⟩ | ⟨a, len, cap, elems, rest, m, rfl, rfl, rfl, hb, hlc, hcm, hel, hi, _, _⟩
 ·exact ⟨[], Zcz .nil, ZfI _⟩
 ·have each : ∀ i, i < len → ∃ v : α, ∃ y cs', elems[i]? = some y ∧ W.cells? 0 (a.add (i * sz)) sz = some cs' ∧ Zhs W (enc' v) cs' ∧ bkL (enc' v) + 1 ≤ Rows.uptoBulk y.1 := fun i hlt => by
   have h1 := hi i hlt
   rw [Yc (by omega), hsz] at h1
   obtain ⟨cs', h2, h3⟩ := Ybk.1 h1
   obtain ⟨v, h4, h5⟩ := h m (by omega) cs' _ h3
   exact ⟨v, _, cs', Yc (by omega), h2, h4, h5⟩
  obtain ⟨l, hll, hlq⟩ := ZmB len each
  have cell : ∀ (i j : Nat) (e' : List D) (x : D), (l.map enc')[i]? = some e' → e'[j]? = some x → ∃ c, W.cell? (a.add (i * sz + j)) = some c ∧ RepD W (· < W.heap.size) x c := fun i j e' x hi' hj => by
   rw [Ys] at hi'
   cases hv : l[i]? with
   | none => rw [hv] at hi'; cases hi'
   | some v =>
    rw [hv] at hi'
    cases hi'
    obtain ⟨y, cs', g1, g2, g3, g4⟩ := hlq i v hv
    obtain ⟨c, g5, g6⟩ := g3.2 j x hj
    rw [Yy] at g5
    obtain ⟨_, g7, g8⟩ := World.cells?_some g2
    have hjl : j < sz := by
     rw [← hl v]
     rcases Yq j (enc' v).length with h | h
     ·exact h
     ·rw [Yx h] at hj; cases hj
    refine ⟨c, ?_, g6⟩
    rw [← Go.Eng.add_add, g8 j hjl, g5]
  refine ⟨l, Zcz ?_, ?_⟩
  ·have hlen : (l.map enc').length = len := by simp [hll]
   have := RepD.list (w := W) (S := (· < W.heap.size)) (l.map enc') a sz cap (fun i j => (W.cell? (a.add (i * sz + j))).getD undef) (fun hne => by
     have h0 : 0 < len := by
      rcases Ya5 len with h | h
      ·exact absurd (YF (hlen.trans h)) hne
      ·exact h
     obtain ⟨v, y, cs', _, g2, _⟩ := each 0 h0
     have := World.cells?_block g2 (by omega)
     rw [Yaa] at this
     rw [← Go.Eng.block_add a 0]; exact this)
    (by rw [hlen]; exact hlc) (fun e' he => by obtain ⟨y, _, rfl⟩ := Yr.1 he; exact hl y)
    (fun i j e' x hi' hj => by obtain ⟨c, g1, _⟩ := cell i j e' x hi' hj; rw [g1]; rfl)
    (fun i j e' x hi' hj => by obtain ⟨c, g1, g2⟩ := cell i j e' x hi' hj; rw [g1]; exact g2)
   rw [hlen] at this
   exact this
  ·rw [Zjd, Zhl, bk]
   have := Zpv (e := enc') l elems (by omega) (fun i v hv => by
    obtain ⟨y, cs', g1, g2, g3, g4⟩ := hlq i v hv
    exact ⟨y, g1, g4⟩)
   omega
def FB (xs : List (DataW H × List MemPlace)) (i : Nat) : Nat := Rows.uptoBulkAll ((xs.drop i).map (·.1))
theorem Zam {xs : List (DataW H × List MemPlace)} {i : Nat} {a b : List D} (h : bkL a + 1 + FB xs (i + 1) ≤ FB xs i) (k : bkL b ≤ FB xs (i + 1)) : bkL (a ++ b) ≤ FB xs i := by
 rw [Zlo]; omega
theorem ZbQ {xs : List (DataW H × List MemPlace)} {i : Nat} {a : List D} (h : bkL a + 1 + FB xs (i + 1) ≤ FB xs i) : bkL a ≤ FB xs i := by omega
theorem ZbS {xs : List (DataW H × List MemPlace)} {a : List D} (h : bkL a ≤ FB xs 0) : bkL a + 1 ≤ Rows.uptoBulk (.agg (xs.map (·.1))) := by
 rw [Zm3]; exact Nat.succ_le_succ h
theorem Znz {α : Type} {e : α → List D} {m i : Nat} {t' : TypeId} {piece : List Value} {xs : List (DataW H × List MemPlace)} (h : RdN enc P W m t' e) (hf : DataW.trod enc P W 0 (fun _ => true) true m t' piece = xs[i]?) (hi : i < xs.length) :
  ∃ v, Zhs W (e v) piece ∧ bkL (e v) + 1 + FB xs (i + 1) ≤ FB xs i := by
 rw [Yc hi] at hf
 obtain ⟨v, h1, h2⟩ := h _ _ hf
 refine ⟨v, h1, ?_⟩
 unfold FB
 rw [Y6 hi, YP]
 simp only [Rows.uptoBulkAll]
 omega
theorem rf {α : Type} {e : α → List D} {m i k : Nat} {t' : TypeId} {piece : List Value} {xs : List (DataW H × List MemPlace)} (h : RdN enc P W m t' e) (hf : DataW.trod enc P W 0 (fun _ => true) true m t' piece = xs[i]?) (hx : xs.length = k) (hi : Nat.blt i k = true := by kernel_rfl) :
  ∃ v, Zhs W (e v) piece ∧ bkL (e v) + 1 + FB xs (i + 1) ≤ FB xs i := Znz h hf (by rw [hx]; exact Ye hi)
theorem Zmv {α : Type} {e e' : α → List D} (he : ∀ x, e x = e' x) (h : RdN enc P W n t e') : RdN enc P W n t e := fun cs x hx => by
 obtain ⟨v, h1, h2⟩ := h cs x hx
 grind
theorem Zr0 {α : Type} {e : α → List D} {fs : Array Field} {r : Reach} {base : Nat} {v : Value} {d : DataW H} {p : List MemPlace} (rd : ∀ n, RdN enc P W n t e) (ht : P.underlying t = some (.struct fs)) (hv : Value.okWide P W r base t v)
  (h : DataW.Trod enc P W 0 (fun _ => true) true t v d p) : ∃ x : α, (∀ m l, RepA W (· < W.heap.size) (fun _ => ⟨0, false, 0, 0, []⟩) m l (.agg ((e x).map .d)) v) ∧ bkL (e x) + 1 ≤ Rows.uptoBulk d := by
 obtain ⟨cs, rfl, _⟩ := okWide_struct ht hv
 obtain ⟨n, hn⟩ := h
 obtain ⟨x, h1, h2⟩ := rd n _ _ hn
 have hl : (e x).length = cs.size := by rw [h1.1]; simp [Value.cells]
 have key : ∀ (i : Nat) (c : Value) , cs[i]? = some c → ∃ d, (e x)[i]? = some d ∧ RepD W (· < W.heap.size) d c := fun i c hc => by
  have hlt : i < (e x).length := by
   grind
  obtain ⟨c', h3, h4⟩ := h1.2 i _ (Yc hlt)
  have : c' = c := by
   rw [Yy] at h3
   have : cs.toList[i]? = some c' := h3
   grind
  grind
 refine ⟨x, fun m l => .agg _ _ (by rw [Ym, hl]) (fun i c hc => ?_) (fun i y c hy hc => ?_), h2⟩
 ·obtain ⟨d, _, h3⟩ := key i c hc; exact h3.one
 ·obtain ⟨d, h3, h4⟩ := key i c hc
  rw [Ys, h3] at hy
  cases hy
  exact .d _ _ h4
theorem Zrj {r : Reach} {base : Nat} {v : Value} {d : DataW H} {p : List MemPlace} (ht : P.underlying t = some .string) (hv : Value.okWide P W r base t v) (h : DataW.Trod enc P W 0 (fun _ => true) true t v d p) :
  ∃ x : ByteArray, (∀ S Hp m l, RepA W S Hp m l (.d (.str x)) v) ∧ x.size + 1 ≤ Rows.uptoBulk d := by
 obtain ⟨x, rfl⟩ := okWide_string ht hv
 obtain ⟨n, hn⟩ := h
 obtain ⟨s, h1, h2, _⟩ := DataW.trod_string ht hn
 have h1 : x = s := by simpa [Value.cells] using h1
 subst h1
 have h2 : d = .lit (.string x.data.toList) := congrArg Prod.fst h2
 subst h2
 refine ⟨x, fun _ _ _ _ => .d _ _ (.str _), ?_⟩
 rw [ZiW]
 exact Yf _
theorem Zly {α : Type} {e : α → List D} {u : TypeId} {r : Reach} {base : Nat} {v : Value} {d : DataW H} {p : List MemPlace} (rd : ∀ n, RdN enc P W n t (fun l : List α => [.list (l.map e)])) (ht : P.underlying t = some (.slice u)) (hv : Value.okWide P W r base t v)
  (h : DataW.Trod enc P W 0 (fun _ => true) true t v d p) : ∃ x : List α, (∀ Hp m l, RepA W (· < W.heap.size) Hp m l (.d (.list (x.map e))) v) ∧ bk (.list (x.map e)) + 1 ≤ Rows.uptoBulk d := by
 obtain ⟨a, len, cap, rfl⟩ := okWide_slice ht hv
 obtain ⟨n, hn⟩ := h
 obtain ⟨x, h1, h2⟩ := rd n _ _ hn
 obtain ⟨c, h3, h4⟩ := h1.2 0 _ rfl
 have : c = .slice a len cap := by simpa [Value.cells] using h3.symm
 subst this
 exact ⟨x, fun _ _ _ => .d _ _ h4, by rw [← Zhl]; exact h2⟩
def Hp0 : Hp := fun _ => ⟨0, false, 0, 0, []⟩
theorem ok0 (m : Mu) : Ok 0 Hp0 m (· < W.heap.size) W := ⟨fun _ h => h, fun _ _ h => (by cases h), fun _ _ h => (by cases h), fun _ _ _ _ h => (by cases h), fun _ _ h => (by cases h), ⟨fun _ _ h => (by cases h), fun _ _ h => (by cases h), fun _ _ _ _ h => (by cases h)⟩⟩
def Zx0 (w : World) (S : Nat → Prop) (Hp : Hp) (m : Mu) (l : Nat) : List AV → List Value → Prop
 | [], [] => True
 | x :: xs, v :: vs => RepA w S Hp m l x v ∧ Zx0 w S Hp m l xs vs
 | _, _ => False
theorem ZrO {w : World} {S : Nat → Prop} {Hp : Hp} {m : Mu} {l : Nat} {xs : List AV} {vs : List Value} (h : Zx0 w S Hp m l xs vs) : Zc6 w S Hp m l xs vs.toArray := by
 suffices hh : xs.length = vs.length ∧ ∀ (i : Nat) (x : AV) (v : Value), xs[i]? = some x → vs[i]? = some v → RepA w S Hp m l x v by
  exact ⟨by simpa using hh.1, fun i x v hx hv => hh.2 i x v hx (by simpa using hv)⟩
 induction xs generalizing vs with
 | nil => cases vs with
  | nil => exact ⟨rfl, fun i x v h => by simp at h⟩
  | cons _ _ => exact h.elim
 | cons x xs ih => cases vs with
  | nil => exact h.elim
  | cons v vs =>
   obtain ⟨h1, h2⟩ := ih h.2
   refine ⟨by simp [h1], fun i y u hy hu => ?_⟩
   cases i with
   | zero => simp at hy hu; subst hy; subst hu; exact h.1
   | succ i => exact h2 i y u (by simpa using hy) (by simpa using hu)
theorem ZlQ {f : Func} {s : ChangeSpec} {W' : World} {args : Array Value} {ds gs : List (DataW H)} {before : List MemPlace} {u : TypeId} (hW : DataW.Whole enc P f.params.toList s.vars false W args.toList ds gs before) (hvars : s.vars = [])
  (hlaid : laidOutB P = true) (hrd : ∀ t ∈ f.params.toList, P.readableRec t = true ∧ t < P.types.size) (hres : f.resultTypes.toList = [u]) (hu : P.underlying u = some .bool)
  (hfn : s.fn H (ds ++ gs) = { results := [.lit (.bool true)], args := ds }) (hb : Below W.heap.size W W') : s.post enc P f false true false false W args (.bool true) W' := by
 obtain ⟨p, q, hA, hV, rfl, hfz, hnd⟩ := id hW
 rw [hvars] at hV
 obtain ⟨rfl, rfl⟩ := trodVars_none hV
 refine ⟨ds, [], p ++ [], [], p, [], hW, ?_, ?_, ?_, ?_, fun h => by cases h⟩
 ·rw [hfn, hres]
  have : (Value.bool true).resultList f.resultTypes.size = [.bool true] := by
   have : f.resultTypes.size = 1 := by rw [← YY, hres]; rfl
   rw [this]; rfl
  rw [this]
  exact trodAll_cons_mk (shut_bool hu _) trodAll_mk0
 ·rw [hfn]
  have key : ∀ (ts : List TypeId) (vs : List Value) (es : List (DataW H)) (ps : List MemPlace), (∀ t ∈ ts, P.readableRec t = true ∧ t < P.types.size) → DataW.TrodAll enc P W 0 (fun _ => true) true ts vs es ps →
    DataW.TrodAll enc P W' 0 (fun b => decide (b < W.heap.size)) true ts vs es ps := by
   intro ts
   induction ts with
   | nil => intro vs es ps _ h; obtain ⟨rfl, rfl, rfl⟩ := trodAll_nil h; exact trodAll_mk0
   | cons t ts ih =>
    intro vs es ps hr h
    have hlt := DataW.TrodAll.lt h
    obtain ⟨v, vs1, d, ds1, a, b, rfl, rfl, rfl, h1, h2⟩ := trodAll_cons h
    exact trodAll_cons_mk (Below.trod hlaid (hr t (by simp)).1 (hr t (by simp)).2 h1 hb (fun x hx => hlt x (YO _ hx))) (ih _ _ _ (fun t ht => hr t (by simp [ht])) h2)
  exact key _ _ _ _ hrd hA
 ·rw [hvars, hfn]; exact rfl
 ·refine ⟨hb.os, hb.output, fun i hi => ?_⟩
  rw [hb.block i hi]
  cases W.heap[i]? with
  | none => rfl
  | some o => cases o <;> simp
end
end Go.Proofs.Ythhipejbnbochaa
namespace Go.Proofs.Ythhipejbnbochaa
set_option linter.all false
open Go Go.Eng
section
variable {H : Type} {enc : TypeId × Value → H} {W : World}
set_option maxRecDepth 100000
theorem Zup (n : Nat) : RdN enc Try.prog W n 159 Zm5 := fun cs x hx => by
 obtain ⟨xs, m, rfl, rfl, hcl, hxl, hf⟩ := DataW.trod_struct Try.underlying159 hx
 obtain ⟨v0, r0, b0⟩ := rf (ZbU Try.underlying3) (hf 0 _ rfl) hxl
 obtain ⟨v1, r1, b1⟩ := rf (ZbU Try.underlying3) (hf 1 _ rfl) hxl
 obtain ⟨v2, r2, b2⟩ := rf (ZbU Try.underlying49) (hf 2 _ rfl) hxl
 obtain ⟨v3, r3, b3⟩ := rf (ZbK Try.underlying9) (hf 3 _ rfl) hxl
 have q := ZbS (Zam b0 (Zam b1 (Zam b2 (ZbQ b3))))
 exact ⟨.mk v0 v1 v2 v3, ⟨by rw [hcl]; kernel_rfl, (r0.at.app (r1.at.app (r2.at.app r3.at)))⟩, q⟩
theorem Zoo (n : Nat) (h : ∀ k, k < n → RdN enc Try.prog W k 55 Zrf) : RdN enc Try.prog W n 155 ePr := fun cs x hx => by
 obtain ⟨xs, m, rfl, rfl, hcl, hxl, hf⟩ := DataW.trod_struct Try.underlying155 hx
 obtain ⟨v0, r0, b0⟩ := rf (h m (by omega)) (hf 0 _ rfl) hxl
 obtain ⟨v1, r1, b1⟩ := rf (h m (by omega)) (hf 1 _ rfl) hxl
 have q := ZbS (Zam b0 (ZbQ b1))
 exact ⟨.mk v0 v1, ⟨by rw [hcl]; kernel_rfl, (r0.at.app r1.at)⟩, q⟩
theorem Zkq (n : Nat) (h : ∀ k, k < n → RdN enc Try.prog W k 55 Zrf) : RdN enc Try.prog W n 157 ZwM := fun cs x hx => by
 obtain ⟨xs, m, rfl, rfl, hcl, hxl, hf⟩ := DataW.trod_struct Try.underlying157 hx
 obtain ⟨v0, r0, b0⟩ := rf (ZbU Try.underlying3) (hf 0 _ rfl) hxl
 obtain ⟨v1, r1, b1⟩ := rf (h m (by omega)) (hf 1 _ rfl) hxl
 have q := ZbS (Zam b0 (ZbQ b1))
 exact ⟨.mk v0 v1, ⟨by rw [hcl]; kernel_rfl, (r0.at.app r1.at)⟩, q⟩
theorem Zpe (n : Nat) : RdN enc Try.prog W n 55 Zrf := by
 induction n using Nat.strongRecOn with
 | ind n ih =>
 intro cs x hx
 obtain ⟨xs, m, rfl, rfl, hcl, hxl, hf⟩ := DataW.trod_struct Try.underlying55 hx
 obtain ⟨v0, r0, b0⟩ := rf (ZbU Try.underlying3) (hf 0 _ rfl) hxl
 obtain ⟨v1, r1, b1⟩ := rf (ZbU Try.underlying49) (hf 1 _ rfl) hxl
 obtain ⟨v2, r2, b2⟩ := rf (ZbK Try.underlying9) (hf 2 _ rfl) hxl
 obtain ⟨v3, r3, b3⟩ := rf (Zaw Try.underlying50 (by kernel_rfl : Try.prog.cellsOf 55 = 7) (by decide) (fun x => by rw [ZfW]; rfl) (fun k hk => (Zmv ZfW (ih k (by omega))))) (hf 3 _ rfl) hxl
 obtain ⟨v4, r4, b4⟩ := rf (Zaw Try.underlying51 (by kernel_rfl : Try.prog.cellsOf 155 = 14) (by decide) (fun x => by rw [ZoE]; rfl) (fun k hk => (Zmv ZoE (Zoo k (fun j hj => ih j (by omega)))))) (hf 4 _ rfl) hxl
 obtain ⟨v5, r5, b5⟩ := rf (Zaw Try.underlying52 (by kernel_rfl : Try.prog.cellsOf 157 = 8) (by decide) (fun x => by rw [ZkD]; rfl) (fun k hk => (Zmv ZkD (Zkq k (fun j hj => ih j (by omega)))))) (hf 5 _ rfl) hxl
 obtain ⟨v6, r6, b6⟩ := rf (Zaw Try.underlying53 (by kernel_rfl : Try.prog.cellsOf 159 = 4) (by decide) (fun _ => rfl) (fun k hk => (Zup k))) (hf 6 _ rfl) hxl
 have q := ZbS (Zam b0 (Zam b1 (Zam b2 (Zam b3 (Zam b4 (Zam b5 (ZbQ b6)))))))
 exact ⟨.mk v0 v1 v2 v3 v4 v5 v6, ⟨by rw [hcl]; kernel_rfl, (r0.at.app (r1.at.app (r2.at.app (r3.at.app (r4.at.app (r5.at.app r6.at))))))⟩, q⟩
theorem Zu9 (n : Nat) : RdN enc Try.prog W n 48 ZyM := fun cs x hx => by
 obtain ⟨xs, m, rfl, rfl, hcl, hxl, hf⟩ := DataW.trod_struct Try.underlying48 hx
 obtain ⟨v0, r0, b0⟩ := rf (ZbU Try.underlying3) (hf 0 _ rfl) hxl
 obtain ⟨v1, r1, b1⟩ := rf (ZbK Try.underlying9) (hf 1 _ rfl) hxl
 have q := ZbS (Zam b0 (ZbQ b1))
 exact ⟨.mk v0 v1, ⟨by rw [hcl]; kernel_rfl, (r0.at.app r1.at)⟩, q⟩
theorem Zj7 (n : Nat) : RdN enc Try.prog W n 153 eNt := fun cs x hx => by
 obtain ⟨xs, m, rfl, rfl, hcl, hxl, hf⟩ := DataW.trod_struct Try.underlying153 hx
 obtain ⟨v0, r0, b0⟩ := rf (ZbK Try.underlying9) (hf 0 _ rfl) hxl
 obtain ⟨v1, r1, b1⟩ := rf (Zpe m) (hf 1 _ rfl) hxl
 have q := ZbS (Zam b0 (ZbQ b1))
 exact ⟨.mk v0 v1, ⟨by rw [hcl]; kernel_rfl, (r0.at.app r1.at)⟩, q⟩
theorem Zvz (n : Nat) : RdN enc Try.prog W n 57 Zdh := fun cs x hx => by
 obtain ⟨xs, m, rfl, rfl, hcl, hxl, hf⟩ := DataW.trod_struct Try.underlying57 hx
 obtain ⟨v0, r0, b0⟩ := rf (ZbU Try.underlying3) (hf 0 _ rfl) hxl
 obtain ⟨v1, r1, b1⟩ := rf (ZbK Try.underlying9) (hf 1 _ rfl) hxl
 obtain ⟨v2, r2, b2⟩ := rf (ZbU Try.underlying3) (hf 2 _ rfl) hxl
 obtain ⟨v3, r3, b3⟩ := rf (ZbU Try.underlying3) (hf 3 _ rfl) hxl
 obtain ⟨v4, r4, b4⟩ := rf (Zu9 m) (hf 4 _ rfl) hxl
 obtain ⟨v5, r5, b5⟩ := rf (ZbK Try.underlying9) (hf 5 _ rfl) hxl
 obtain ⟨v6, r6, b6⟩ := rf (ZkT Try.underlying4) (hf 6 _ rfl) hxl
 obtain ⟨v7, r7, b7⟩ := rf (Zpe m) (hf 7 _ rfl) hxl
 obtain ⟨v8, r8, b8⟩ := rf (Zaw Try.underlying40 (by kernel_rfl : Try.prog.cellsOf 153 = 8) (by decide) (fun _ => rfl) (fun k hk => (Zj7 k))) (hf 8 _ rfl) hxl
 have q := ZbS (Zam b0 (Zam b1 (Zam b2 (Zam b3 (Zam b4 (Zam b5 (Zam b6 (Zam b7 (ZbQ b8)))))))))
 exact ⟨.mk v0 v1 v2 v3 v4 v5 v6 v7 v8, ⟨by rw [hcl]; kernel_rfl, (r0.at.app (r1.at.app (r2.at.app (r3.at.app (r4.at.app (r5.at.app (r6.at.app (r7.at.app r8.at))))))))⟩, q⟩
theorem Zoz (n : Nat) : RdN enc Try.prog W n 151 ZlR := fun cs x hx => by
 obtain ⟨xs, m, rfl, rfl, hcl, hxl, hf⟩ := DataW.trod_struct Try.underlying151 hx
 obtain ⟨v0, r0, b0⟩ := rf (ZbU Try.underlying3) (hf 0 _ rfl) hxl
 obtain ⟨v1, r1, b1⟩ := rf (ZbU Try.underlying3) (hf 1 _ rfl) hxl
 have q := ZbS (Zam b0 (ZbQ b1))
 exact ⟨.mk v0 v1, ⟨by rw [hcl]; kernel_rfl, (r0.at.app r1.at)⟩, q⟩
theorem ZtS (n : Nat) : RdN enc Try.prog W n 42 Zbl := fun cs x hx => by
 obtain ⟨xs, m, rfl, rfl, hcl, hxl, hf⟩ := DataW.trod_struct Try.underlying42 hx
 obtain ⟨v0, r0, b0⟩ := rf (ZbK Try.underlying9) (hf 0 _ rfl) hxl
 obtain ⟨v1, r1, b1⟩ := rf (Zaw Try.underlying38 (by kernel_rfl : Try.prog.cellsOf 57 = 16) (by decide) (fun _ => rfl) (fun k hk => (Zvz k))) (hf 1 _ rfl) hxl
 obtain ⟨v2, r2, b2⟩ := rf (Zaw Try.underlying39 (by kernel_rfl : Try.prog.cellsOf 151 = 2) (by decide) (fun _ => rfl) (fun k hk => (Zoz k))) (hf 2 _ rfl) hxl
 obtain ⟨v3, r3, b3⟩ := rf (Zaw Try.underlying31 (by kernel_rfl : Try.prog.cellsOf 9 = 1) (by decide) (fun _ => rfl) (fun k hk => (ZbK Try.underlying9))) (hf 3 _ rfl) hxl
 obtain ⟨v4, r4, b4⟩ := rf (Zaw Try.underlying40 (by kernel_rfl : Try.prog.cellsOf 153 = 8) (by decide) (fun _ => rfl) (fun k hk => (Zj7 k))) (hf 4 _ rfl) hxl
 have q := ZbS (Zam b0 (Zam b1 (Zam b2 (Zam b3 (ZbQ b4)))))
 exact ⟨.mk v0 v1 v2 v3 v4, ⟨by rw [hcl]; kernel_rfl, (r0.at.app (r1.at.app (r2.at.app (r3.at.app r4.at))))⟩, q⟩
theorem ZuQ (n : Nat) : RdN enc Try.prog W n 161 Zyb := fun cs x hx => by
 obtain ⟨xs, m, rfl, rfl, hcl, hxl, hf⟩ := DataW.trod_struct Try.underlying161 hx
 obtain ⟨v0, r0, b0⟩ := rf (ZbK Try.underlying9) (hf 0 _ rfl) hxl
 obtain ⟨v1, r1, b1⟩ := rf (ZbU Try.underlying3) (hf 1 _ rfl) hxl
 obtain ⟨v2, r2, b2⟩ := rf (Zaw Try.underlying40 (by kernel_rfl : Try.prog.cellsOf 153 = 8) (by decide) (fun _ => rfl) (fun k hk => (Zj7 k))) (hf 2 _ rfl) hxl
 have q := ZbS (Zam b0 (Zam b1 (ZbQ b2)))
 exact ⟨.mk v0 v1 v2, ⟨by rw [hcl]; kernel_rfl, (r0.at.app (r1.at.app r2.at))⟩, q⟩
theorem Ztc (n : Nat) : RdN enc Try.prog W n 89 ZbV := fun cs x hx => by
 obtain ⟨xs, m, rfl, rfl, hcl, hxl, hf⟩ := DataW.trod_struct Try.underlying89 hx
 obtain ⟨v0, r0, b0⟩ := rf (ZbK Try.underlying9) (hf 0 _ rfl) hxl
 obtain ⟨v1, r1, b1⟩ := rf (ZkT Try.underlying4) (hf 1 _ rfl) hxl
 obtain ⟨v2, r2, b2⟩ := rf (Zaw Try.underlying87 (by kernel_rfl : Try.prog.cellsOf 161 = 3) (by decide) (fun _ => rfl) (fun k hk => (ZuQ k))) (hf 2 _ rfl) hxl
 obtain ⟨v3, r3, b3⟩ := rf (Zaw Try.underlying39 (by kernel_rfl : Try.prog.cellsOf 151 = 2) (by decide) (fun _ => rfl) (fun k hk => (Zoz k))) (hf 3 _ rfl) hxl
 obtain ⟨v4, r4, b4⟩ := rf (Zaw Try.underlying40 (by kernel_rfl : Try.prog.cellsOf 153 = 8) (by decide) (fun _ => rfl) (fun k hk => (Zj7 k))) (hf 4 _ rfl) hxl
 have q := ZbS (Zam b0 (Zam b1 (Zam b2 (Zam b3 (ZbQ b4)))))
 exact ⟨.mk v0 v1 v2 v3 v4, ⟨by rw [hcl]; kernel_rfl, (r0.at.app (r1.at.app (r2.at.app (r3.at.app r4.at))))⟩, q⟩
theorem Zva (n : Nat) : RdN enc Try.prog W n 164 ZxO := fun cs x hx => by
 obtain ⟨xs, m, rfl, rfl, hcl, hxl, hf⟩ := DataW.trod_struct Try.underlying164 hx
 obtain ⟨v0, r0, b0⟩ := rf (ZbK Try.underlying9) (hf 0 _ rfl) hxl
 obtain ⟨v1, r1, b1⟩ := rf (ZbK Try.underlying9) (hf 1 _ rfl) hxl
 obtain ⟨v2, r2, b2⟩ := rf (ZbK Try.underlying9) (hf 2 _ rfl) hxl
 obtain ⟨v3, r3, b3⟩ := rf (ZbU Try.underlying3) (hf 3 _ rfl) hxl
 obtain ⟨v4, r4, b4⟩ := rf (Zaw Try.underlying40 (by kernel_rfl : Try.prog.cellsOf 153 = 8) (by decide) (fun _ => rfl) (fun k hk => (Zj7 k))) (hf 4 _ rfl) hxl
 have q := ZbS (Zam b0 (Zam b1 (Zam b2 (Zam b3 (ZbQ b4)))))
 exact ⟨.mk v0 v1 v2 v3 v4, ⟨by rw [hcl]; kernel_rfl, (r0.at.app (r1.at.app (r2.at.app (r3.at.app r4.at))))⟩, q⟩
theorem Zv9 (n : Nat) : RdN enc Try.prog W n 149 Zco := fun cs x hx => by
 obtain ⟨xs, m, rfl, rfl, hcl, hxl, hf⟩ := DataW.trod_struct Try.underlying149 hx
 obtain ⟨v0, r0, b0⟩ := rf (ZbK Try.underlying9) (hf 0 _ rfl) hxl
 obtain ⟨v1, r1, b1⟩ := rf (Zaw Try.underlying147 (by kernel_rfl : Try.prog.cellsOf 164 = 5) (by decide) (fun _ => rfl) (fun k hk => (Zva k))) (hf 1 _ rfl) hxl
 obtain ⟨v2, r2, b2⟩ := rf (Zaw Try.underlying40 (by kernel_rfl : Try.prog.cellsOf 153 = 8) (by decide) (fun _ => rfl) (fun k hk => (Zj7 k))) (hf 2 _ rfl) hxl
 have q := ZbS (Zam b0 (Zam b1 (ZbQ b2)))
 exact ⟨.mk v0 v1 v2, ⟨by rw [hcl]; kernel_rfl, (r0.at.app (r1.at.app r2.at))⟩, q⟩
theorem ZvT (n : Nat) : RdN enc Try.prog W n 26 Zcg := fun cs x hx => by
 obtain ⟨xs, m, rfl, rfl, hcl, hxl, hf⟩ := DataW.trod_struct Try.underlying26 hx
 obtain ⟨v0, r0, b0⟩ := rf (Zaw Try.underlying22 (by kernel_rfl : Try.prog.cellsOf 42 = 5) (by decide) (fun _ => rfl) (fun k hk => (ZtS k))) (hf 0 _ rfl) hxl
 obtain ⟨v1, r1, b1⟩ := rf (Zaw Try.underlying23 (by kernel_rfl : Try.prog.cellsOf 89 = 5) (by decide) (fun _ => rfl) (fun k hk => (Ztc k))) (hf 1 _ rfl) hxl
 obtain ⟨v2, r2, b2⟩ := rf (Zaw Try.underlying24 (by kernel_rfl : Try.prog.cellsOf 149 = 3) (by decide) (fun _ => rfl) (fun k hk => (Zv9 k))) (hf 2 _ rfl) hxl
 have q := ZbS (Zam b0 (Zam b1 (ZbQ b2)))
 exact ⟨.mk v0 v1 v2, ⟨by rw [hcl]; kernel_rfl, (r0.at.app (r1.at.app r2.at))⟩, q⟩
end
end Go.Proofs.Ythhipejbnbochaa
