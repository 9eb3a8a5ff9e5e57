import Derived.Test.YthhipejbnbochaaCv19
import Derived.Test.YthhipejbnbochaaCv11
import Derived.Test.YthhipejbnbochaaCv10
import Derived.Test.YthhipejbnbochaaRows
import Derived.WalkKit
import Derived.ProofKit
import Derived.OpenShut
import Derived.Carry
import Derived.Deep.DeepHandedRow
import Derived.Test.YthhipejbnbochaaCv00
namespace Go.Proofs.Ythhipejbnbochaa
set_option linter.all false
open Go Go.Eng
abbrev E28 : List ByteArray → AV := fun y => vL Zad y
def ZrH (p1 : List ByteArray) (y1 : Web) : List ByteArray × Nat → St := fun (r2, v3) => mkS [(5, .iptr (ZcJ y1) 0), (6, .ref (1, 6) 0 0 r2.length), (14, vL Zad p1), (15, vN p1.length), (16, vN v3)] [((1, 6), ⟨0, true, 9, 1, Zah Zad r2⟩)]
def Zwb : List ByteArray → Nat × St := fun r18 => (0, mkS [(6, .ref (1, 6) 0 0 r18.length)] [((1, 6), ⟨0, true, 9, 1, Zah Zad r18⟩)])
def ZvF (p1 : List ByteArray) (y1 : Web) (v3 : Nat) : List ByteArray × List (ByteArray × Bool) → St := fun (r11, r12) => mkS [(5, .iptr (ZcJ y1) 0), (6, .ref (1, 6) 0 0 r11.length), (14, vL Zad p1), (15, vN p1.length), (16, vN v3), (48, .ptr (1, 48) 0 0)] [((1, 6), ⟨0, true, 9, 1, Zah Zad r11⟩), ((1, 48), ⟨0, true, .i false (r12.map eEt) none, 0, []⟩)]
def ZuC (p1 : List ByteArray) (y1 : Web) (v3 : Nat) : List ByteArray → Nat × St := fun r16 => (2, mkS [(5, .iptr (ZcJ y1) 0), (6, .ref (1, 6) 0 0 r16.length), (14, vL Zad p1), (15, vN p1.length), (16, vN v3)] [((1, 6), ⟨0, true, 9, 1, Zah Zad r16⟩)])
def ZsH (p1 : List ByteArray) (y1 : Web) (v3 : Nat) (r11 : List ByteArray) (p13 : ByteArray × Bool) (l14 : List (ByteArray × Bool)) : PT 0 (List (Lv (List ByteArray × List (ByteArray × Bool)) (List ByteArray) (List ByteArray))) := vw .sep <| vw .sep <| ap r11 (p13.1 : ByteArray) <| cl (ZyD y1 p13.1) fun y15 => aq (r11 ++ [p13.1]) y15 <| vz (fl ((r11 ++ [p13.1]) ++ y15)) <| lnN (ZvF p1 y1 v3) ((r11 ++ [p13.1]) ++ y15, l14)
def ZsO (p1 : List ByteArray) (y1 : Web) (v3 : Nat) (r11 : List ByteArray) (p13 : ByteArray × Bool) (l14 : List (ByteArray × Bool)) : PT 0 (List (Lv (List ByteArray × List (ByteArray × Bool)) (List ByteArray) (List ByteArray))) := vz (fl r11) <| lc (mkS [(5, .iptr (ZcJ y1) 0), (6, .ref (1, 6) 0 0 r11.length), (11, vS p13.1), (14, vL Zad p1), (15, vN p1.length), (16, vN v3), (48, .ptr (1, 48) 0 0)] [((1, 6), ⟨0, true, 9, 1, Zah Zad r11⟩), ((1, 48), ⟨0, true, .i false (l14.map eEt) none, 0, []⟩)]) ((ZsH p1 y1 v3 r11 p13 l14).m)
def Zom (p1 : List ByteArray) (y1 : Web) (v3 : Nat) (r11 : List ByteArray) (r12 : List (ByteArray × Bool)) : PT 0 (List (Lv (List ByteArray × List (ByteArray × Bool)) (List ByteArray) (List ByteArray))) := nxN r12 (vw .go <| vz (fl r11) <| Zhb (ZuC p1 y1 v3) r11) fun p13 l14 => vw .go <| vz (fl r11) <| lc (mkS [(5, .iptr (ZcJ y1) 0), (6, .ref (1, 6) 0 0 r11.length), (14, vL Zad p1), (15, vN p1.length), (16, vN v3), (48, .ptr (1, 48) 0 0)] [((1, 6), ⟨0, true, 9, 1, Zah Zad r11⟩), ((1, 48), ⟨0, true, .i false (l14.map eEt) (some (eEt p13)), 0, []⟩)]) ((ZsO p1 y1 v3 r11 p13 l14).m)
def Znl (p1 : List ByteArray) (y1 : Web) (v3 : Nat) : List ByteArray × List (ByteArray × Bool) → Option (List (Lv (List ByteArray × List (ByteArray × Bool)) (List ByteArray) (List ByteArray))) := fun (r11, r12) => (Zom p1 y1 v3 r11 r12).m
def ZnR (p1 : List ByteArray) (y1 : Web) (v3 : Nat) (r16 : List ByteArray) : PT 0 (List (Lv (List ByteArray × Nat) (List ByteArray) (List ByteArray))) := vs (wa v3 1) <| vz (fl r16) <| lnN (ZrH p1 y1) (r16, v3 + 1)
def Zo9 (p1 : List ByteArray) (y1 : Web) (r2 : List ByteArray) (v3 : Nat) (e4 : ByteArray) (y9 : List ByteArray) : PT 0 (List (Lv (List ByteArray × Nat) (List ByteArray) (List ByteArray))) := cl (ZxJ y1 e4) fun y10 => vz (fl ((r2 ++ [e4]) ++ y9)) <| lc (mkS [(5, .iptr (ZcJ y1) 0), (6, .ref (1, 6) 0 0 ((r2 ++ [e4]) ++ y9).length), (14, vL Zad p1), (15, vN p1.length), (16, vN v3), (48, .ptr (1, 48) 0 0)] [((1, 6), ⟨0, true, 9, 1, Zah Zad ((r2 ++ [e4]) ++ y9)⟩), ((1, 48), ⟨0, true, .i false (y10.map eEt) none, 0, []⟩)]) (ZdC (ZcI (Znl p1 y1 v3) big ((r2 ++ [e4]) ++ y9, y10)) (Sum.elim (fun r16 => (ZnR p1 y1 v3 r16).m) (fun z => some [.rt z])))
def Zow (p1 : List ByteArray) (y1 : Web) (r2 : List ByteArray) (v3 : Nat) (e4 : ByteArray) : PT 0 (List (Lv (List ByteArray × Nat) (List ByteArray) (List ByteArray))) := vw .sep <| vw .sep <| ap r2 (e4 : ByteArray) <| cl (ZyD y1 e4) fun y9 => aq (r2 ++ [e4]) y9 <| vz (fl ((r2 ++ [e4]) ++ y9)) <| lc (mkS [(5, .iptr (ZcJ y1) 0), (6, .ref (1, 6) 0 0 ((r2 ++ [e4]) ++ y9).length), (8, vS e4), (14, vL Zad p1), (15, vN p1.length), (16, vN v3)] [((1, 6), ⟨0, true, 9, 1, Zah Zad ((r2 ++ [e4]) ++ y9)⟩)]) ((Zo9 p1 y1 r2 v3 e4 y9).m)
def ZoA (p1 : List ByteArray) (y1 : Web) (v3 : Nat) (r17 : List ByteArray) : PT 0 (List (Lv (List ByteArray × Nat) (List ByteArray) (List ByteArray))) := vs (wa v3 1) <| vz (fl r17) <| lnN (ZrH p1 y1) (r17, v3 + 1)
def Zlr (p1 : List ByteArray) (y1 : Web) (v3 : Nat) : List ByteArray → St := fun r17 => mkS [(5, .iptr (ZcJ y1) 0), (6, .ref (1, 6) 0 0 r17.length), (14, vL Zad p1), (15, vN p1.length), (16, vN v3)] [((1, 6), ⟨0, true, 9, 1, Zah Zad r17⟩)]
def Ze0 (p1 : List ByteArray) (y1 : Web) (v3 : Nat) : List ByteArray → Option (List (Lv (List ByteArray × Nat) (List ByteArray) (List ByteArray))) := fun r17 => (ZoA p1 y1 v3 r17).m
def Zn3 (p1 : List ByteArray) (y1 : Web) (r2 : List ByteArray) (v3 : Nat) : PT 0 (List (Lv (List ByteArray × Nat) (List ByteArray) (List ByteArray))) := ix p1 v3 fun e4 => mlk y1.messages e4 fun m5 b6 => vw .go <| br (!b6) (mlk y1.enums e4 fun m7 b8 => br m7 (vw .sep <| vw .sep <| ap r2 (e4 : ByteArray) <| vz (fl (r2 ++ [e4])) <| lxc 1 (Zlr p1 y1 v3 (r2 ++ [e4])) (Ze0 p1 y1 v3 (r2 ++ [e4]))) (vz (fl r2) <| lxc 1 (Zlr p1 y1 v3 r2) (Ze0 p1 y1 v3 r2))) (vz (fl r2) <| lc (mkS [(5, .iptr (ZcJ y1) 0), (6, .ref (1, 6) 0 0 r2.length), (8, vS e4), (14, vL Zad p1), (15, vN p1.length), (16, vN v3)] [((1, 6), ⟨0, true, 9, 1, Zah Zad r2⟩)]) ((Zow p1 y1 r2 v3 e4).m))
def Zik (p1 : List ByteArray) (y1 : Web) (r2 : List ByteArray) (v3 : Nat) : PT 0 (List (Lv (List ByteArray × Nat) (List ByteArray) (List ByteArray))) := br (decide ((v3 : Int) < (p1.length : Int))) (vz (fl r2) <| lc (mkS [(5, .iptr (ZcJ y1) 0), (6, .ref (1, 6) 0 0 r2.length), (14, vL Zad p1), (15, vN p1.length), (16, vN v3)] [((1, 6), ⟨0, true, 9, 1, Zah Zad r2⟩)]) ((Zn3 p1 y1 r2 v3).m)) (vz (fl r2) <| Zhb (Zwb) r2)
def Zjz (p1 : List ByteArray) (y1 : Web) : List ByteArray × Nat → Option (List (Lv (List ByteArray × Nat) (List ByteArray) (List ByteArray))) := fun (r2, v3) => (Zik p1 y1 r2 v3).m
def Zlu (y20 : List ByteArray) : PT 0 (List (List ByteArray)) := vz (fr y20) <| lrN E28 (fun _ => []) y20
def ZlP (y20 : List ByteArray) : PT 0 (List (List ByteArray)) := vz (fl y20) <| lc (mkS [(4, .ref (1, 6) 0 0 y20.length)] [((1, 6), ⟨0, true, 9, 1, Zah Zad y20⟩)]) ((Zlu y20).m)
def Zk9 (y19 : List ByteArray) : PT 0 (List (List ByteArray)) := vz (fl y19) <| lc (mkS [(64, .ref (1, 6) 0 0 y19.length)] [((1, 6), ⟨0, true, 9, 1, Zah Zad y19⟩)]) ((ZaY y19).bind fun y20 => (ZlP y20).m)
def Zlz (r18 : List ByteArray) (y19 : List ByteArray) : PT 0 (List (List ByteArray)) := rn 6 6 r18.length y19 <| vz (fl y19) <| lc (mkS [(6, .ref (1, 6) 0 0 y19.length)] [((1, 6), ⟨0, true, 9, 1, Zah Zad y19⟩)]) ((Zk9 y19).m)
def Zmh (r18 : List ByteArray) : PT 0 (List (List ByteArray)) := vz (fl r18) <| lc (mkS [(6, .ref (1, 6) 0 0 r18.length), (62, .ref (1, 6) 0 0 r18.length)] [((1, 6), ⟨0, true, 9, 1, Zah Zad r18⟩)]) ((Zbc r18).bind fun y19 => (Zlz r18 y19).m)
def Zmg (p1 : List ByteArray) (y1 : Web) : PT 0 (List (List ByteArray)) := vw (.ads 6 6 9 1) <| vw (.fzb 5 [5]) <| vz (fl ([] : List ByteArray)) <| lc (mkS [(5, .iptr (ZcJ y1) 0), (6, .ref (1, 6) 0 0 ([] : List ByteArray).length), (14, vL Zad p1), (15, vN p1.length), (16, vI 0)] [((1, 6), ⟨0, true, 9, 1, Zah Zad ([] : List ByteArray)⟩)]) (ZdC (ZcI (Zjz p1 y1) big (([] : List ByteArray), 0)) (Sum.elim (fun r18 => (Zmh r18).m) (fun z => some [z])))
def ZmM (p1 : List ByteArray) (y1 : Web) : PT 0 (List (List ByteArray)) := vz (eqL p1) <| lc (mkS [(5, .ptr (1, 5) 0 0), (6, .e0), (14, vL Zad p1), (15, vN p1.length), (16, vI 0)] [((1, 5), ⟨0, true, 69, 2, [.d (.map true (y1.messages.map eEt)), .d (.map false (y1.enums.map eEt))]⟩)]) ((Zmg p1 y1).m)
def Zl3 (p0 : Scm) (p1 : List ByteArray) : PT 0 (List (List ByteArray)) := vw .go <| cl (Zxn p0) fun y1 => vw .go <| lc (mkS [(1, vL Zad p1), (5, .ptr (1, 5) 0 0), (6, .e0)] [((1, 5), ⟨0, true, 69, 2, [.d (.map true (y1.messages.map eEt)), .d (.map false (y1.enums.map eEt))]⟩)]) ((ZmM p1 y1).m)
def ZbT (p0 : Scm) (p1 : List ByteArray) : Option (List (List ByteArray)) := (Zl3 p0 p1).m
set_option maxRecDepth 100000 in
theorem Zsy {C : Cx} (co : CO C 0) (p1 : List ByteArray) (y1 : Web) (v3 : Nat) : KLN Try.prog (lkT tl) 66 C (pa [0, 0, 1, 1, 1, 1, 0, 0, 1, 1, 0, 0, 1, 0, 1, 1, 1] (Zal Try.f28)) [.tmp 4] 0 (ZvF p1 y1 v3) (ZuC p1 y1 v3) E28 (fun _ => []) (Znl p1 y1 v3) := fun (r11, r12) _ hm Q Post hQ hL => ZaC co tok tmo 2 (Zom p1 y1 v3 r11 r12) (lf2 [5, 6, 14, 15, 16, 48] [((1, 6), true), ((1, 48), false)]) (lf2 [5, 6, 14, 15, 16] [((1, 6), true)]) hQ hm hL fun r g => ⟨Zei _, fun h => h _ (.head _), fun p13 l14 => fun _ hm hL => bk 3 (ZaC co tok tmo 1 (ZsO p1 y1 v3 r11 p13 l14) (lf2 [5, 6, 11, 14, 15, 16, 48] [((1, 6), true), ((1, 48), false)]) nl hQ hm hL fun r g => fun _ hm hL => Ztz co tok tmo (.fst 0 (.fst 1 (.fst 4 (.fst 5 (.fst 2 (.fst 3 (.fst 6 (.fst 7 (.fst 8 .nil))))))))) [5] (ZsH p1 y1 v3 r11 p13 l14) (lf2 [5, 6, 14, 15, 16, 48] [((1, 6), true), ((1, 48), false)]) hm hL fun r g => fun y15 => fun h => h _ (.head _))⟩
set_option maxRecDepth 100000 in
theorem Zr5 {C : Cx} (co : CO C 0) (p1 : List ByteArray) (y1 : Web) : KLN Try.prog (lkT tl) 66 C (pa [0, 0, 1, 0, 1, 1, 1] (Zal Try.f28)) [.tmp 4] 0 (ZrH p1 y1) (Zwb) E28 (fun _ => []) (Zjz p1 y1) := fun (r2, v3) _ hm Q Post hQ hL => ZaC co tok tmo 2 (Zik p1 y1 r2 v3) (lf2 [5, 6, 14, 15, 16] [((1, 6), true)]) (lf2 [6] [((1, 6), true)]) hQ hm hL fun r g => ⟨fun _ hm hL => sq (bk 1 (ZxG co tok tmo 2 (Zn3 p1 y1 r2 v3) (lf2 [5, 6, 8, 14, 15, 16] [((1, 6), true)]) (lf2 [5, 6, 14, 15, 16] [((1, 6), true)]) hQ hm hL 1 (Zlr p1 y1 v3) (Ze0 p1 y1 v3) (fun r17 _ hm hL => Zcb co tok tmo (ZoA p1 y1 v3 r17) (lf2 [5, 6, 14, 15, 16] [((1, 6), true)]) nl hQ hm hL fun r g => fun h => h _ (.head _)) fun J8 r g => fun e4 => fun m5 b6 => ⟨fun m7 b8 => ⟨J8 (r2 ++ [e4]), J8 r2⟩, fun _ hm hL => sq (Ztz co tok tmo (.fst 0 (.fst 1 (.fst 4 (.fst 5 (.fst 2 (.fst 3 (.fst 6 (.fst 7 (.fst 8 .nil))))))))) [5] (Zow p1 y1 r2 v3 e4) (lf2 [5, 6, 8, 14, 15, 16] [((1, 6), true)]) hm hL fun r g => fun y9 => fun _ hm hL => ZaC co tok tmo 1 (Zo9 p1 y1 r2 v3 e4 y9) (lf2 [5, 6, 14, 15, 16, 48] [((1, 6), true), ((1, 48), false)]) nl hQ hm hL fun r g => fun y10 => fun _ hm hL => bk 2 (lo (ZyR (Zsy co p1 y1 v3) hQ hm hL (fun r16 _ hm hL => Zcb co tok tmo (ZnR p1 y1 v3 r16) (lf2 [5, 6, 14, 15, 16] [((1, 6), true)]) nl hQ hm hL fun r g => fun h => h _ (.head _)))))⟩)), fun h => h _ (.head _)⟩
set_option maxRecDepth 100000 in
theorem ZzH (p0 : Scm) (p1 : List ByteArray) : KCN Try.prog 28 [.agg ((ZbY p0).map .d), vL Zad p1] (ZbT p0 p1) E28 := Zyb Try.func28 Try.ntmps28 tok [.tmp 4] fun C co y hm Post hL => ZaC co tok tmo 3 (Zl3 p0 p1) (lf2 [1, 5, 6] [((1, 5), false)]) nl (fun _ h => h) hm hL fun r g => fun y1 => fun _ hm hL => sq (ZaC co tok tmo 1 (ZmM p1 y1) (lf2 [5, 6, 14, 15, 16] [((1, 5), false)]) nl (fun _ h => h) hm hL fun r g => fun _ hm hL => bk 0 (ZkE co (Zmg p1 y1) (lf2 [5, 6, 14, 15, 16] [((1, 6), true)]) hm hL fun r g => fun _ hm hL => lo (Zut (Zr5 co p1 y1) (fun _ h => h) hm hL (fun r18 _ hm hL => sq (rg (Zl7 co tok 1 (Zmh r18) (lf2 [6, 62] [((1, 6), true)]) hm hL fun r g => fun _ hm hL => Zfc co hm 51 [.ref (1, 6) 0 0 r18.length] [(1, 6)] ([((1, 6), ⟨0, true, 9, 1, Zah Zad r18⟩)] ++ []) (fun z => .tup []) (fun z => [((1, 6), ⟨0, true, 9, 1, Zah Zad z⟩)]) [] (fun z => trivial) (trivial) (fun z hz r g => Za6 (ZxD r18) hz co g [((1, 6), ⟨0, true, 9, 1, Zah Zad r18⟩)] [] [((1, 6), ⟨0, true, 9, 1, Zah Zad z⟩)] (lkS []) (fun H' hg ho => trivial) (fun H => ⟨fun _ => ⟨rfl, Zat (Zag _ _) (by kernel_rfl)⟩, by kernel_rfl, trivial⟩) (fun H => ⟨fun _ => ⟨rfl, Zat (Zag _ _) (by kernel_rfl)⟩, by kernel_rfl, trivial⟩)) fun y19 hm => ZkD co tok (Zlz r18 y19) (lf2 [6] [((1, 6), true)]) hm hL fun r g => fun _ hm hL => sq (rg (Zl7 co tok 1 (Zk9 y19) (lf2 [64] [((1, 6), true)]) hm hL fun r g => fun _ hm hL => Zfc co hm 52 [.ref (1, 6) 0 0 y19.length] [(1, 6)] ([((1, 6), ⟨0, true, 9, 1, Zah Zad y19⟩)] ++ []) (fun z => .ref (1, 6) 0 0 z.length) (fun z => [((1, 6), ⟨0, true, 9, 1, Zah Zad z⟩)]) [] (fun z => trivial) (trivial) (fun z hz r g => Za6 (ZyY y19) hz co g [((1, 6), ⟨0, true, 9, 1, Zah Zad y19⟩)] [] [((1, 6), ⟨0, true, 9, 1, Zah Zad z⟩)] (lkS []) (fun H' hg ho => trivial) (fun H => ⟨fun _ => ⟨rfl, Zat (Zag _ _) (by kernel_rfl)⟩, by kernel_rfl, trivial⟩) (fun H => ⟨fun _ => ⟨rfl, Zat (Zag _ _) (by kernel_rfl)⟩, by kernel_rfl, trivial⟩)) fun y20 hm => ZkD co tok (ZlP y20) (lf2 [4] [((1, 6), true)]) hm hL fun r g => fun _ hm hL => Zcz co tok tmo (Zlu y20) hm hL fun r g => fun h => h _ (.head _)))))))))
def ZcU (p0 : Scm) (p1 : List ByteArray) : Option (List ByteArray) := Zqj (ZbT p0 p1)
theorem Zx9 (p0 : Scm) (p1 : List ByteArray) : KC Try.prog 28 [.agg ((ZbY p0).map .d), vL Zad p1] (ZcU p0 p1) E28 := (ZzH p0 p1).uniq
abbrev E8 : Bool → AV := fun y => vB y
def ZyQ (p0 : Scm) (p2 : ByteArray) (y3 : List Int × Int) : ByteArray × Nat → St := fun (v11, v12) => mkS [(2, vS p2), (3, .ptr (1, 3) 0 0), (7, vL Zcg y3.1), (13, vS v11), (14, vN v12)] [((1, 3), ⟨0, true, 26, 3, [vL Za1 p0.messages, vL Zbj p0.enums, vL Zbr p0.services]⟩)]
def Zyl (p0 : Scm) (p2 : ByteArray) (y3 : List Int × Int) : ByteArray → Nat × St := fun v22 => (0, mkS [(2, vS p2), (3, .ptr (1, 3) 0 0), (7, vL Zcg y3.1), (13, vS v22)] [((1, 3), ⟨0, true, 26, 3, [vL Za1 p0.messages, vL Zbj p0.enums, vL Zbr p0.services]⟩)])
def Zx3 (p0 : Scm) (p2 : ByteArray) (y3 : List Int × Int) (v12 : Nat) (y13 : Msg × Int) : ByteArray × Nat → St := fun (v14, v15) => mkS [(2, vS p2), (3, .ptr (1, 3) 0 0), (7, vL Zcg y3.1), (13, vS v14), (14, vN v12), (15, .ptr (1, 15) 0 0), (17, vN v15)] [((1, 3), ⟨0, true, 26, 3, [vL Za1 p0.messages, vL Zbj p0.enums, vL Zbr p0.services]⟩), ((1, 15), ⟨0, true, 42, 5, [vS y13.1.name, vL ZcC y13.1.fields, vL Zjt y13.1.reserved, vL Zad y13.1.gone, vL eNt y13.1.notes]⟩)]
def Zyr (p0 : Scm) (p2 : ByteArray) (y3 : List Int × Int) (v12 : Nat) : ByteArray → Nat × St := fun v21 => (2, mkS [(2, vS p2), (3, .ptr (1, 3) 0 0), (7, vL Zcg y3.1), (13, vS v21), (14, vN v12)] [((1, 3), ⟨0, true, 26, 3, [vL Za1 p0.messages, vL Zbj p0.enums, vL Zbr p0.services]⟩)])
def Zxl (p0 : Scm) (p2 : ByteArray) (y3 : List Int × Int) (v12 : Nat) (y13 : Msg × Int) (v14 : ByteArray) (v15 : Nat) : PT 0 (Lv (ByteArray × Nat) (ByteArray) (Bool)) := vw .go <| vz (eqL y13.1.fields) <| br (decide ((v15 : Int) < (y13.1.fields.length : Int))) (vw .go <| vw .go <| ix y13.1.fields v15 fun e16 => cl (ZxT p0 e16) fun y17 => vw .go <| ixg y17.2 y13.1.fields (v15 : Int) fun e18 => ixg y17.2 y3.1 (v12 : Int) fun e19 => vw .go <| ixg (y17.2 && decide (e18.num = e19)) y13.1.fields (v15 : Int) fun e20 => br ((y17.2 && decide (e18.num = e19)) && decide (e20.type.kind = (10 : Int))) (vs (wa v15 1) <| ln (Zx3 p0 p2 y3 v12 y13) (y17.1, v15 + 1)) (vs (wa v15 1) <| ln (Zx3 p0 p2 y3 v12 y13) (v14, v15 + 1))) (lxe (Zyr p0 p2 y3 v12) v14)
def ZtG (p0 : Scm) (p2 : ByteArray) (y3 : List Int × Int) (v12 : Nat) (y13 : Msg × Int) : ByteArray × Nat → Option (Lv (ByteArray × Nat) (ByteArray) (Bool)) := fun (v14, v15) => (Zxl p0 p2 y3 v12 y13 v14 v15).m
def Zxj (p0 : Scm) (p2 : ByteArray) (y3 : List Int × Int) (v12 : Nat) (v21 : ByteArray) : PT 0 (Lv (ByteArray × Nat) (ByteArray) (Bool)) := vs (wa v12 1) <| ln (ZyQ p0 p2 y3) (v21, v12 + 1)
def Zxf (p0 : Scm) (p2 : ByteArray) (y3 : List Int × Int) (v11 : ByteArray) (v12 : Nat) : PT 0 (Lv (ByteArray × Nat) (ByteArray) (Bool)) := vw .go <| cl (Zqr p0 v11) fun y13 => vw .go <| lc (mkS [(2, vS p2), (3, .ptr (1, 3) 0 0), (7, vL Zcg y3.1), (13, vS ⟨#[]⟩), (14, vN v12), (15, .ptr (1, 15) 0 0), (17, vI 0)] [((1, 3), ⟨0, true, 26, 3, [vL Za1 p0.messages, vL Zbj p0.enums, vL Zbr p0.services]⟩), ((1, 15), ⟨0, true, 42, 5, [vS y13.1.name, vL ZcC y13.1.fields, vL Zjt y13.1.reserved, vL Zad y13.1.gone, vL eNt y13.1.notes]⟩)]) ((Zan (ZtG p0 p2 y3 v12 y13) big (⟨#[]⟩, 0)).bind (Sum.elim (fun v21 => (Zxj p0 p2 y3 v12 v21).m) (fun z => some (.rt z))))
def Zxp (p0 : Scm) (p2 : ByteArray) (y3 : List Int × Int) (v11 : ByteArray) (v12 : Nat) : PT 0 (Lv (ByteArray × Nat) (ByteArray) (Bool)) := vz (eqL y3.1) <| br (decide ((v12 : Int) < (y3.1.length : Int))) (lc (mkS [(2, vS p2), (3, .ptr (1, 3) 0 0), (7, vL Zcg y3.1), (13, vS v11), (14, vN v12)] [((1, 3), ⟨0, true, 26, 3, [vL Za1 p0.messages, vL Zbj p0.enums, vL Zbr p0.services]⟩)]) ((Zxf p0 p2 y3 v11 v12).m)) (lxe (Zyl p0 p2 y3) v11)
def Zuh (p0 : Scm) (p2 : ByteArray) (y3 : List Int × Int) : ByteArray × Nat → Option (Lv (ByteArray × Nat) (ByteArray) (Bool)) := fun (v11, v12) => (Zxp p0 p2 y3 v11 v12).m
def Zrd (p0 : Scm) (p2 : ByteArray) (y3 : List Int × Int) (v22 : ByteArray) : PT 0 (Bool) := vy (decide (v22 = p2)) (eqL y3.1) <| vw .go <| vy (decide (v22 = p2)) (eqL p0.messages) <| vg (decide (v22 = p2)) (wa p0.messages.length 1) <| clg (decide (v22 = p2) && decide ((y3.1.length : Int) < ((p0.messages.length + 1 : Nat) : Int))) (Zyd) fun y23 => lr E8 (fun _ => []) ((decide (v22 = p2) && decide ((y3.1.length : Int) < ((p0.messages.length + 1 : Nat) : Int))) && y23)
def Zry (p0 : Scm) (p1 : ByteArray) (p2 : ByteArray) (y3 : List Int × Int) : PT 0 (Bool) := lc (mkS [(2, vS p2), (3, .ptr (1, 3) 0 0), (7, vL Zcg y3.1), (13, vS p1), (14, vI 0)] [((1, 3), ⟨0, true, 26, 3, [vL Za1 p0.messages, vL Zbj p0.enums, vL Zbr p0.services]⟩)]) ((Zan (Zuh p0 p2 y3) big (p1, 0)).bind (Sum.elim (fun v22 => (Zrd p0 p2 y3 v22).m) some))
def Zrr (p0 : Scm) (p1 : ByteArray) (p2 : ByteArray) : PT 0 (Bool) := vw .go <| cl (Zzg p0) fun y1 => vw .go <| clg (!(!y1)) (ZzV p0) fun y2 => br ((!y1) || y2) (lr E8 (fun _ => []) true) (vw .go <| cl (Zs4 p0 p1 p2) fun y3 => vw .go <| cl (Zqr p0 p1) fun y4 => vw .go <| vw .go <| cl (Zqr p0 p2) fun y5 => vw .go <| br (decide (y4.2 < (0 : Int)) || decide (y5.2 < (0 : Int))) (vy (decide (y3.2 = (10 : Int))) (eqL y3.1) <| clg (decide (y3.2 = (10 : Int)) && decide ((y3.1.length : Int) = (0 : Int))) (Zyd) fun y6 => lr E8 (fun _ => []) ((decide (y3.2 = (10 : Int)) && decide ((y3.1.length : Int) = (0 : Int))) && y6)) (vw .go <| cl (Zzt p0) fun y7 => vw .go <| clg (!y7) (Zx9 p0 ([p1] : List ByteArray)) fun y8 => clg (!y7) (Zy5 y8 p2) fun y9 => br ((!y7) && (!((decide (y3.2 = (0 : Int))) == y9))) (lr E8 (fun _ => []) false) (br (!decide (y3.2 = (0 : Int))) (vy (decide (y3.2 = (10 : Int))) (eqL y3.1) <| clg (decide (y3.2 = (10 : Int)) && decide ((y3.1.length : Int) = (0 : Int))) (Zyd) fun y10 => lr E8 (fun _ => []) ((decide (y3.2 = (10 : Int)) && decide ((y3.1.length : Int) = (0 : Int))) && y10)) (lc (mkS [(2, vS p2), (3, .ptr (1, 3) 0 0), (7, vL Zcg y3.1), (13, vS p1)] [((1, 3), ⟨0, true, 26, 3, [vL Za1 p0.messages, vL Zbj p0.enums, vL Zbr p0.services]⟩)]) ((Zry p0 p1 p2 y3).m)))))
def Zai (p0 : Scm) (p1 : ByteArray) (p2 : ByteArray) : Option (Bool) := (Zrr p0 p1 p2).m
set_option maxRecDepth 100000 in
theorem ZvQ {C : Cx} (co : CO C 0) (p0 : Scm) (p2 : ByteArray) (y3 : List Int × Int) (v12 : Nat) (y13 : Msg × Int) : KL Try.prog (lkT tl) 158 C (pa [0, 0, 1, 1, 1, 0, 0, 1, 0, 0, 1, 0, 1, 1, 1, 1, 1, 1, 1, 1, 1] (Zal Try.f8)) [.tmp 6] 0 (Zx3 p0 p2 y3 v12 y13) (Zyr p0 p2 y3 v12) E8 (fun _ => []) (ZtG p0 p2 y3 v12 y13) := fun (v14, v15) _ hm Q Post hQ hL => Zcb co tok tmo (Zxl p0 p2 y3 v12 y13 v14 v15) (lf2 [2, 3, 7, 13, 14, 15, 17] [((1, 3), false), ((1, 15), false)]) (lf2 [2, 3, 7, 13, 14] [((1, 3), false)]) hQ hm hL fun r g => ⟨fun e16 => fun y17 => fun e18 => fun e19 => fun e20 => ⟨id, id⟩, id⟩
set_option maxRecDepth 100000 in
theorem ZuA {C : Cx} (co : CO C 0) (p0 : Scm) (p2 : ByteArray) (y3 : List Int × Int) : KL Try.prog (lkT tl) 158 C (pa [0, 0, 1, 0, 1, 1, 1, 1, 1, 1, 1, 1, 1] (Zal Try.f8)) [.tmp 6] 0 (ZyQ p0 p2 y3) (Zyl p0 p2 y3) E8 (fun _ => []) (Zuh p0 p2 y3) := fun (v11, v12) _ hm Q Post hQ hL => ZaC co tok tmo 1 (Zxp p0 p2 y3 v11 v12) (lf2 [2, 3, 7, 13, 14] [((1, 3), false)]) (lf2 [2, 3, 7, 13] [((1, 3), false)]) hQ hm hL fun r g => ⟨fun _ hm hL => sq (bk 1 (ZaC co tok tmo 3 (Zxf p0 p2 y3 v11 v12) (lf2 [2, 3, 7, 13, 14, 15, 17] [((1, 3), false), ((1, 15), false)]) nl hQ hm hL fun r g => fun y13 => fun _ hm hL => bk 2 (lo (lpL (ZvQ co p0 p2 y3 v12 y13) hQ hm hL (fun v21 hm => Zcb co tok tmo (Zxj p0 p2 y3 v12 v21) (lf2 [2, 3, 7, 13, 14] [((1, 3), false)]) nl hQ hm hL fun r g => id))))), id⟩
set_option maxRecDepth 100000 in
theorem K_8 (p0 : Scm) (p1 : ByteArray) (p2 : ByteArray) : KC Try.prog 8 [.agg ((ZbY p0).map .d), vS p1, vS p2] (Zai p0 p1 p2) E8 := kc1 Try.func8 Try.ntmps8 tok [.tmp 6] fun C co y hm Post hL => ZaC co tok tmo 9 (Zrr p0 p1 p2) (lf2 [2, 3, 7, 13] [((1, 3), false)]) nl (fun _ h => h) hm hL fun r g => fun y1 => fun y2 => ⟨id, fun y3 => fun y4 => fun y5 => ⟨fun y6 => id, fun y7 => fun y8 => fun y9 => ⟨id, ⟨fun y10 => id, fun _ hm hL => sq (ZaC co tok tmo 1 (Zry p0 p1 p2 y3) (lf2 [2, 3, 7, 13, 14] [((1, 3), false)]) nl (fun _ h => h) hm hL fun r g => fun _ hm hL => bk 0 (lo (lpF (ZuA co p0 p2 y3) (fun _ h => h) hm hL (fun v22 hm => Zcz co tok tmo (Zrd p0 p2 y3 v22) hm hL fun r g => fun y23 => id))))⟩⟩⟩⟩
abbrev E30 : List ByteArray → AV := fun y => vL Zad y
def ZsS (p0 : Scm) (y1 : Msg × Int) : List ByteArray × Nat → St := fun (v2, v3) => mkS [(2, .ptr (1, 2) 0 0), (5, vL Zad v2), (6, .ptr (1, 6) 0 0), (8, vN v3)] [((1, 2), ⟨0, true, 26, 3, [vL Za1 p0.messages, vL Zbj p0.enums, vL Zbr p0.services]⟩), ((1, 6), ⟨0, true, 42, 5, [vS y1.1.name, vL ZcC y1.1.fields, vL Zjt y1.1.reserved, vL Zad y1.1.gone, vL eNt y1.1.notes]⟩)]
def Zv7 : List ByteArray → Nat × St := fun v7 => (0, mkS [(5, vL Zad v7)] [])
def Zo3 (p0 : Scm) (y1 : Msg × Int) (v2 : List ByteArray) (v3 : Nat) : PT 0 (Lv (List ByteArray × Nat) (List ByteArray) (List ByteArray)) := vw .go <| vz (eqL y1.1.fields) <| br (decide ((v3 : Int) < (y1.1.fields.length : Int))) (vw .go <| vw .go <| ix y1.1.fields v3 fun e4 => cl (ZxT p0 e4) fun y5 => br y5.2 (cl (ZtE v2 y5.1) fun y6 => vs (wa v3 1) <| ln (ZsS p0 y1) (y6, v3 + 1)) (vs (wa v3 1) <| ln (ZsS p0 y1) (v2, v3 + 1))) (lxe (Zv7) v2)
def ZlA (p0 : Scm) (y1 : Msg × Int) : List ByteArray × Nat → Option (Lv (List ByteArray × Nat) (List ByteArray) (List ByteArray)) := fun (v2, v3) => (Zo3 p0 y1 v2 v3).m
def Zss (v7 : List ByteArray) : PT 0 (List ByteArray) := lr E30 (fun _ => []) v7
def ZqR (p0 : Scm) (y1 : Msg × Int) : PT 0 (List ByteArray) := vw (.ads 5 5 9 1) <| vw (.frz 5 [(5, (([] : List ByteArray).map Zad))] []) <| vz (fz ([] : List ByteArray)) <| lc (mkS [(2, .ptr (1, 2) 0 0), (5, vL Zad ([] : List ByteArray)), (6, .ptr (1, 6) 0 0), (8, vI 0)] [((1, 2), ⟨0, true, 26, 3, [vL Za1 p0.messages, vL Zbj p0.enums, vL Zbr p0.services]⟩), ((1, 6), ⟨0, true, 42, 5, [vS y1.1.name, vL ZcC y1.1.fields, vL Zjt y1.1.reserved, vL Zad y1.1.gone, vL eNt y1.1.notes]⟩)]) ((Zan (ZlA p0 y1) big (([] : List ByteArray), 0)).bind (Sum.elim (fun v7 => (Zss v7).m) some))
def Zsq (p0 : Scm) (y1 : Msg × Int) : PT 0 (List ByteArray) := lc (mkS [(2, .ptr (1, 2) 0 0), (5, .e0), (6, .ptr (1, 6) 0 0), (8, vI 0)] [((1, 2), ⟨0, true, 26, 3, [vL Za1 p0.messages, vL Zbj p0.enums, vL Zbr p0.services]⟩), ((1, 6), ⟨0, true, 42, 5, [vS y1.1.name, vL ZcC y1.1.fields, vL Zjt y1.1.reserved, vL Zad y1.1.gone, vL eNt y1.1.notes]⟩)]) ((ZqR p0 y1).m)
def Zs6 (p0 : Scm) (p1 : ByteArray) : PT 0 (List ByteArray) := vw .go <| cl (Zqr p0 p1) fun y1 => vw .go <| lc (mkS [(2, .ptr (1, 2) 0 0), (5, .e0), (6, .ptr (1, 6) 0 0)] [((1, 2), ⟨0, true, 26, 3, [vL Za1 p0.messages, vL Zbj p0.enums, vL Zbr p0.services]⟩), ((1, 6), ⟨0, true, 42, 5, [vS y1.1.name, vL ZcC y1.1.fields, vL Zjt y1.1.reserved, vL Zad y1.1.gone, vL eNt y1.1.notes]⟩)]) ((Zsq p0 y1).m)
def Za0 (p0 : Scm) (p1 : ByteArray) : Option (List ByteArray) := (Zs6 p0 p1).m
set_option maxRecDepth 100000 in
theorem Zsp {C : Cx} (co : CO C 0) (p0 : Scm) (y1 : Msg × Int) : KL Try.prog (lkT tl) 39 C (pa [0, 0, 1, 0, 1, 1, 1] (Zal Try.f30)) [.tmp 4] 0 (ZsS p0 y1) (Zv7) E30 (fun _ => []) (ZlA p0 y1) := fun (v2, v3) _ hm Q Post hQ hL => Zcb co tok tmo (Zo3 p0 y1 v2 v3) (lf2 [2, 5, 6, 8] [((1, 2), false), ((1, 6), false)]) (lf1 [5]) hQ hm hL fun r g => ⟨fun e4 => fun y5 => ⟨fun y6 => id, id⟩, id⟩
set_option maxRecDepth 100000 in
theorem Zzr (p0 : Scm) (p1 : ByteArray) : KC Try.prog 30 [.agg ((ZbY p0).map .d), vS p1] (Za0 p0 p1) E30 := kc1 Try.func30 Try.ntmps30 tok [.tmp 4] fun C co y hm Post hL => ZaC co tok tmo 3 (Zs6 p0 p1) (lf2 [2, 5, 6] [((1, 2), false), ((1, 6), false)]) nl (fun _ h => h) hm hL fun r g => fun y1 => fun _ hm hL => sq (ZaC co tok tmo 1 (Zsq p0 y1) (lf2 [2, 5, 6, 8] [((1, 2), false), ((1, 6), false)]) nl (fun _ h => h) hm hL fun r g => fun _ hm hL => bk 0 (ZkE co (ZqR p0 y1) (lf2 [2, 5, 6, 8] [((1, 2), false), ((1, 6), false)]) hm hL fun r g => fun _ hm hL => lo (lpF (Zsp co p0 y1) (fun _ h => h) hm hL (fun v7 hm => Zcz co tok tmo (Zss v7) hm hL fun r g => id))))
abbrev E54 : Bool → AV := fun y => vB y
def Zst (p0 : Scm) (p1 : ByteArray) : PT 0 (Bool) := vw .go <| cl (Zqr p0 p1) fun y1 => vw .go <| vw .go <| cl (Zw9 p0 p1) fun y2 => vw .go <| lr E54 (fun _ => []) (decide ((0 : Int) ≤ y1.2) || decide ((0 : Int) ≤ y2.2))
def ZaH (p0 : Scm) (p1 : ByteArray) : Option (Bool) := (Zst p0 p1).m
set_option maxRecDepth 100000 in
theorem Zzj (p0 : Scm) (p1 : ByteArray) : KC Try.prog 54 [.agg ((ZbY p0).map .d), vS p1] (ZaH p0 p1) E54 := kc1 Try.func54 Try.ntmps54 tok [.tmp 4] fun C co y hm Post hL => Zcz co tok tmo (Zst p0 p1) hm hL fun r g => fun y1 => fun y2 => id
abbrev E31 : List ByteArray → AV := fun y => vL Zad y
def Zuv (p0 : Scm) (p1 : List ByteArray) : List ByteArray × Nat → St := fun (v1, v2) => mkS [(1, vL Zad p1), (2, .ptr (1, 2) 0 0), (5, vL Zad v1), (6, vN v2)] [((1, 2), ⟨0, true, 26, 3, [vL Za1 p0.messages, vL Zbj p0.enums, vL Zbr p0.services]⟩)]
def ZxN (p0 : Scm) (p1 : List ByteArray) : List ByteArray → Nat × St := fun v7 => (0, mkS [(1, vL Zad p1), (2, .ptr (1, 2) 0 0), (5, vL Zad v7)] [((1, 2), ⟨0, true, 26, 3, [vL Za1 p0.messages, vL Zbj p0.enums, vL Zbr p0.services]⟩)])
def Zr4 (p0 : Scm) (p1 : List ByteArray) (v1 : List ByteArray) (v2 : Nat) : PT 0 (Lv (List ByteArray × Nat) (List ByteArray) (List ByteArray)) := vz (eqL p1) <| br (decide ((v2 : Int) < (p1.length : Int))) (vw .go <| ix p1 v2 fun e3 => cl (Zzj p0 e3) fun y4 => br y4 (ix p1 v2 fun e5 => cl (ZtE v1 e5) fun y6 => vs (wa v2 1) <| ln (Zuv p0 p1) (y6, v2 + 1)) (vs (wa v2 1) <| ln (Zuv p0 p1) (v1, v2 + 1))) (lxe (ZxN p0 p1) v1)
def ZnY (p0 : Scm) (p1 : List ByteArray) : List ByteArray × Nat → Option (Lv (List ByteArray × Nat) (List ByteArray) (List ByteArray)) := fun (v1, v2) => (Zr4 p0 p1 v1 v2).m
def Zxv (p0 : Scm) (y8 : List ByteArray) : List ByteArray × Nat → St := fun (v9, v10) => mkS [(2, .ptr (1, 2) 0 0), (5, vL Zad v9), (7, vL Zad y8), (8, vN v10)] [((1, 2), ⟨0, true, 26, 3, [vL Za1 p0.messages, vL Zbj p0.enums, vL Zbr p0.services]⟩)]
def Zx5 : List ByteArray → Nat × St := fun v18 => (2, mkS [(5, vL Zad v18)] [])
def ZxM (p0 : Scm) (y8 : List ByteArray) (v10 : Nat) (y12 : List ByteArray) : List ByteArray × Nat → St := fun (v13, v14) => mkS [(2, .ptr (1, 2) 0 0), (5, vL Zad v13), (7, vL Zad y8), (8, vN v10), (9, vL Zad y12), (10, vN v14)] [((1, 2), ⟨0, true, 26, 3, [vL Za1 p0.messages, vL Zbj p0.enums, vL Zbr p0.services]⟩)]
def Zx6 (p0 : Scm) (y8 : List ByteArray) (v10 : Nat) : List ByteArray → Nat × St := fun v17 => (4, mkS [(2, .ptr (1, 2) 0 0), (5, vL Zad v17), (7, vL Zad y8), (8, vN v10)] [((1, 2), ⟨0, true, 26, 3, [vL Za1 p0.messages, vL Zbj p0.enums, vL Zbr p0.services]⟩)])
def ZrJ (p0 : Scm) (y8 : List ByteArray) (v10 : Nat) (y12 : List ByteArray) (v13 : List ByteArray) (v14 : Nat) : PT 0 (Lv (List ByteArray × Nat) (List ByteArray) (List ByteArray)) := vz (eqL y12) <| br (decide ((v14 : Int) < (y12.length : Int))) (ix y12 v14 fun e15 => cl (ZtE v13 e15) fun y16 => vs (wa v14 1) <| ln (ZxM p0 y8 v10 y12) (y16, v14 + 1)) (lxe (Zx6 p0 y8 v10) v13)
def ZnJ (p0 : Scm) (y8 : List ByteArray) (v10 : Nat) (y12 : List ByteArray) : List ByteArray × Nat → Option (Lv (List ByteArray × Nat) (List ByteArray) (List ByteArray)) := fun (v13, v14) => (ZrJ p0 y8 v10 y12 v13 v14).m
def Zs3 (p0 : Scm) (y8 : List ByteArray) (v10 : Nat) (v17 : List ByteArray) : PT 0 (Lv (List ByteArray × Nat) (List ByteArray) (List ByteArray)) := vs (wa v10 1) <| ln (Zxv p0 y8) (v17, v10 + 1)
def ZrI (p0 : Scm) (y8 : List ByteArray) (v9 : List ByteArray) (v10 : Nat) : PT 0 (Lv (List ByteArray × Nat) (List ByteArray) (List ByteArray)) := vw .go <| ix y8 v10 fun e11 => cl (Zzr p0 e11) fun y12 => lc (mkS [(2, .ptr (1, 2) 0 0), (5, vL Zad v9), (7, vL Zad y8), (8, vN v10), (9, vL Zad y12), (10, vI 0)] [((1, 2), ⟨0, true, 26, 3, [vL Za1 p0.messages, vL Zbj p0.enums, vL Zbr p0.services]⟩)]) ((Zan (ZnJ p0 y8 v10 y12) big (v9, 0)).bind (Sum.elim (fun v17 => (Zs3 p0 y8 v10 v17).m) (fun z => some (.rt z))))
def ZqP (p0 : Scm) (y8 : List ByteArray) (v9 : List ByteArray) (v10 : Nat) : PT 0 (Lv (List ByteArray × Nat) (List ByteArray) (List ByteArray)) := vz (eqL y8) <| br (decide ((v10 : Int) < (y8.length : Int))) (lc (mkS [(2, .ptr (1, 2) 0 0), (5, vL Zad v9), (7, vL Zad y8), (8, vN v10)] [((1, 2), ⟨0, true, 26, 3, [vL Za1 p0.messages, vL Zbj p0.enums, vL Zbr p0.services]⟩)]) ((ZrI p0 y8 v9 v10).m)) (lxe (Zx5) v9)
def Zoj (p0 : Scm) (y8 : List ByteArray) : List ByteArray × Nat → Option (Lv (List ByteArray × Nat) (List ByteArray) (List ByteArray)) := fun (v9, v10) => (ZqP p0 y8 v9 v10).m
def Zwx (v18 : List ByteArray) : PT 0 (List ByteArray) := lr E31 (fun _ => []) v18
def Zvc (p0 : Scm) (v7 : List ByteArray) (y8 : List ByteArray) : PT 0 (List ByteArray) := lc (mkS [(2, .ptr (1, 2) 0 0), (5, vL Zad v7), (7, vL Zad y8), (8, vI 0)] [((1, 2), ⟨0, true, 26, 3, [vL Za1 p0.messages, vL Zbj p0.enums, vL Zbr p0.services]⟩)]) ((Zan (Zoj p0 y8) big (v7, 0)).bind (Sum.elim (fun v18 => (Zwx v18).m) some))
def ZtM (p0 : Scm) (p1 : List ByteArray) (v7 : List ByteArray) : PT 0 (List ByteArray) := vw .go <| cl (Zzz p0 p1) fun y8 => lc (mkS [(2, .ptr (1, 2) 0 0), (5, vL Zad v7), (7, vL Zad y8)] [((1, 2), ⟨0, true, 26, 3, [vL Za1 p0.messages, vL Zbj p0.enums, vL Zbr p0.services]⟩)]) ((Zvc p0 v7 y8).m)
def Zvg (p0 : Scm) (p1 : List ByteArray) : PT 0 (List ByteArray) := vw (.ads 5 5 9 1) <| vw (.frz 5 [(5, (([] : List ByteArray).map Zad))] []) <| vz (fz ([] : List ByteArray)) <| lc (mkS [(1, vL Zad p1), (2, .ptr (1, 2) 0 0), (5, vL Zad ([] : List ByteArray)), (6, vI 0)] [((1, 2), ⟨0, true, 26, 3, [vL Za1 p0.messages, vL Zbj p0.enums, vL Zbr p0.services]⟩)]) ((Zan (ZnY p0 p1) big (([] : List ByteArray), 0)).bind (Sum.elim (fun v7 => (ZtM p0 p1 v7).m) some))
def ZpN (p0 : Scm) (p1 : List ByteArray) : PT 0 (List ByteArray) := lc (mkS [(1, vL Zad p1), (2, .ptr (1, 2) 0 0), (5, .e0), (6, vI 0)] [((1, 2), ⟨0, true, 26, 3, [vL Za1 p0.messages, vL Zbj p0.enums, vL Zbr p0.services]⟩)]) ((Zvg p0 p1).m)
def ZpY (p0 : Scm) (p1 : List ByteArray) : PT 0 (List ByteArray) := lc (mkS [(1, vL Zad p1), (2, .ptr (1, 2) 0 0), (5, .e0)] [((1, 2), ⟨0, true, 26, 3, [vL Za1 p0.messages, vL Zbj p0.enums, vL Zbr p0.services]⟩)]) ((ZpN p0 p1).m)
def Zbh (p0 : Scm) (p1 : List ByteArray) : Option (List ByteArray) := (ZpY p0 p1).m
end Go.Proofs.Ythhipejbnbochaa
namespace Go.Proofs.Ythhipejbnbochaa
set_option linter.all false
open Go Go.Eng Go.ChangeShapes Go.WideShapes Go.ChangeAt Go.RowKit
theorem ZiC {H : Type} (b : List UInt8) : Rows.uptoBulk (DataW.lit (H := H) (.string b)) = b.length + 1 := by simp only [Rows.uptoBulk]
theorem Zj2 {H : Type} (a b : List (DataW H)) : Rows.uptoBulk (.slice a b) = Rows.uptoBulkAll a + Rows.uptoBulkAll b + 1 := by simp only [Rows.uptoBulk]
theorem ZoR {H : Type} (a : List (DataW H)) : Rows.uptoBulk (.agg a) = Rows.uptoBulkAll a + 1 := by simp only [Rows.uptoBulk]
def Zgv (W : World) (ds : List D) (cs : List Value) (o : Nat) : Prop := ∀ (i : Nat) (d : D), ds[i]? = some d → ∃ c, cs[o + i]? = some c ∧ RepD W (· < W.heap.size) d c
def Zh5 (W : World) (ds : List D) (cs : List Value) : Prop := ds.length = cs.length ∧ Zgv W ds cs 0
theorem Zgv.app {W : World} {ds es : List D} {cs : List Value} {o : Nat} (h : Zgv W ds cs o) (k : Zgv W es cs (o + ds.length)) : Zgv W (ds ++ es) cs o := fun i d hi => by
 rcases Yr i ds.length with hl | hl
 ·rw [Yi hl] at hi; exact h i d hi
 ·rw [Yo hl] at hi
  obtain ⟨c, h1, h2⟩ := k _ d hi
  grind
theorem Zgv.nil {W : World} {cs : List Value} {o : Nat} : Zgv W [] cs o := fun i d h => by simp at h
theorem Zh5.at {W : World} {ds : List D} {cs : List Value} {o k : Nat} (h : Zh5 W ds ((cs.drop o).take k)) : Zgv W ds cs o := fun i d hi => by
 obtain ⟨c, h1, h2⟩ := h.2 i d hi
 grind
mutual
def bk : D → Nat
 | .int _ _ => 0
 | .bool _ => 0
 | .str s => s.size
 | .list es => ZqG es
 | .map _ es => ZqG es
def bkL : List D → Nat
 | [] => 0
 | d :: l => bk d + bkL l
def ZqG : List (List D) → Nat
 | [] => 0
 | e :: l => bkL e + 1 + ZqG l
end
theorem ZlI : ∀ a b : List D, bkL (a ++ b) = bkL a + bkL b
 | [], b => by rw [Yaq, bkL, Yy]
 | d :: a, b => by rw [YaS, bkL, bkL, ZlI a b, Yw]
theorem ZmP (d : D) : bkL [d] = bk d := by rw [bkL, bkL, Yad]
theorem Zqe {α : Type} {e : α → List D} : ∀ l : List α, l.length ≤ ZqG (l.map e)
 | [] => Yal _
 | x :: l => by have := Zqe (e := e) l; rw [YQ, ZqG, Yac]; omega
section
variable {H : Type} (enc : TypeId × Value → H) (P : Program) (W : World)
def RdN {α : Type} (n : Nat) (t : TypeId) (e : α → List D) : Prop :=
 ∀ cs x, DataW.trod enc P W 0 (fun _ => true) true n t cs = some x → ∃ v : α, Zh5 W (e v) cs ∧ bkL (e v) + 1 ≤ Rows.uptoBulk x.1
end
section
variable {H : Type} {enc : TypeId × Value → H} {P : Program} {W : World} {n : Nat} {t : TypeId}
theorem Zf2 (d : DataW H) : 1 ≤ Rows.uptoBulk d := by cases d <;> (try (rename_i l; cases l)) <;> simp [Rows.uptoBulk]
theorem ZcL {d : D} {c : Value} (h : RepD W (· < W.heap.size) d c) : Zh5 W [d] [c] := ⟨rfl, fun i d' hi => by
 cases i with
 | zero => cases hi; exact ⟨c, rfl, h⟩
 | succ i => simp at hi⟩
theorem Zb0 {k : IntKind} (ht : P.underlying t = some (.int k)) : RdN enc P W n t (fun v : Int => [.int k v]) := fun cs x hx => by
 obtain ⟨m, rfl, rfl, _⟩ := DataW.trod_int ht hx
 exact ⟨m, ZcL (.int _ _), Zf2 _⟩
theorem Zlp (ht : P.underlying t = some .bool) : RdN enc P W n t (fun v : Bool => [.bool v]) := fun cs x hx => by
 obtain ⟨m, rfl, rfl⟩ := DataW.trod_bool ht hx
 exact ⟨m, ZcL (.bool _), Zf2 _⟩
theorem Zb1 (ht : P.underlying t = some .string) : RdN enc P W n t (fun v : ByteArray => [.str v]) := fun cs x hx => by
 obtain ⟨m, rfl, rfl, _⟩ := DataW.trod_string ht hx
 refine ⟨m, ZcL (.str _), ?_⟩
 rw [ZiC, ZmP]
 exact Yg _
theorem Zqf {α : Type} {e : α → List D} : ∀ (l : List α) (xs : List (DataW H × List MemPlace)), l.length = xs.length → (∀ (i : Nat) (v : α), l[i]? = some v → ∃ y : DataW H × List MemPlace, xs[i]? = some y ∧ bkL (e v) + 1 ≤ Rows.uptoBulk y.1) → ZqG (l.map e) ≤ Rows.uptoBulkAll (xs.map (·.1))
 | [], _, _, _ => Yal _
 | x :: l, [], h, _ => by cases h
 | x :: l, y :: xs, h, k => by
  have := Zqf l xs (Ya0 h) (fun i v hi => k (i + 1) v hi)
  obtain ⟨y', h1, h2⟩ := k 0 x rfl
  cases h1
  rw [YQ, YQ, ZqG]
  simp only [Rows.uptoBulkAll]
  omega
theorem Zll {α : Type} {Q : Nat → α → Prop} : ∀ (len : Nat), (∀ i, i < len → ∃ v, Q i v) → ∃ l : List α, l.length = len ∧ ∀ i v, l[i]? = some v → Q i v
 | 0, _ => ⟨[], rfl, fun i v h => by simp at h⟩
 | len + 1, h => by
  obtain ⟨l, h1, h2⟩ := Zll len (fun i hi => h i (by omega))
  obtain ⟨v, hv⟩ := h len (by omega)
  refine ⟨l ++ [v], by simp [h1], fun i w hi => ?_⟩
  grind
theorem ZaA {α : Type} {e : TypeId} {enc' : α → List D} {sz : Nat} (ht : P.underlying t = some (.slice e)) (hsz : P.cellsOf e = sz) (hs0 : sz ≠ 0) (hl : ∀ x, (enc' x).length = sz) (h : ∀ m, m < n → RdN enc P W m e enc') :
  RdN enc P W n t (fun l : List α => [.list (l.map enc')]) := fun cs x hx => by
 rcases DataW.trod_slice ht hx with ⟨rfl, rfl⟩ | ⟨a, len, cap, elems, rest, m, rfl, rfl, rfl, hb, hlc, hcm, hel, hi, _, _⟩
 ·exact ⟨[], ZcL .nil, Zf2 _⟩
 ·have each : ∀ i, i < len → ∃ v : α, ∃ y cs', elems[i]? = some y ∧ W.cells? 0 (a.add (i * sz)) sz = some cs' ∧ Zh5 W (enc' v) cs' ∧ bkL (enc' v) + 1 ≤ Rows.uptoBulk y.1 := fun i hlt => by
   have h1 := hi i hlt
   rw [Yb (by omega), hsz] at h1
   obtain ⟨cs', h2, h3⟩ := Ybt.1 h1
   obtain ⟨v, h4, h5⟩ := h m (by omega) cs' _ h3
   exact ⟨v, _, cs', Yb (by omega), h2, h4, h5⟩
  obtain ⟨l, hll, hlq⟩ := Zll len each
  have cell : ∀ (i j : Nat) (e' : List D) (x : D), (l.map enc')[i]? = some e' → e'[j]? = some x → ∃ c, W.cell? (a.add (i * sz + j)) = some c ∧ RepD W (· < W.heap.size) x c := fun i j e' x hi' hj => by
   rw [Yt] at hi'
   cases hv : l[i]? with
   | none => rw [hv] at hi'; cases hi'
   | some v =>
    rw [hv] at hi'
    cases hi'
    obtain ⟨y, cs', g1, g2, g3, g4⟩ := hlq i v hv
    obtain ⟨c, g5, g6⟩ := g3.2 j x hj
    rw [Yy] at g5
    obtain ⟨_, g7, g8⟩ := World.cells?_some g2
    have hjl : j < sz := by
     rw [← hl v]
     rcases Yr j (enc' v).length with h | h
     ·exact h
     ·rw [Yx h] at hj; cases hj
    refine ⟨c, ?_, g6⟩
    rw [← Go.Eng.add_add, g8 j hjl, g5]
  refine ⟨l, ZcL ?_, ?_⟩
  ·have hlen : (l.map enc').length = len := by simp [hll]
   have := RepD.list (w := W) (S := (· < W.heap.size)) (l.map enc') a sz cap (fun i j => (W.cell? (a.add (i * sz + j))).getD undef) (fun hne => by
     have h0 : 0 < len := by
      rcases Ybd len with h | h
      ·exact absurd (YC (hlen.trans h)) hne
      ·exact h
     obtain ⟨v, y, cs', _, g2, _⟩ := each 0 h0
     have := World.cells?_block g2 (by omega)
     rw [Yae] at this
     rw [← Go.Eng.block_add a 0]; exact this)
    (by rw [hlen]; exact hlc) (fun e' he => by obtain ⟨y, _, rfl⟩ := Yq.1 he; exact hl y)
    (fun i j e' x hi' hj => by obtain ⟨c, g1, _⟩ := cell i j e' x hi' hj; rw [g1]; rfl)
    (fun i j e' x hi' hj => by obtain ⟨c, g1, g2⟩ := cell i j e' x hi' hj; rw [g1]; exact g2)
   rw [hlen] at this
   exact this
  ·rw [Zj2, ZmP, bk]
   have := Zqf (e := enc') l elems (by omega) (fun i v hv => by
    obtain ⟨y, cs', g1, g2, g3, g4⟩ := hlq i v hv
    exact ⟨y, g1, g4⟩)
   omega
def FB (xs : List (DataW H × List MemPlace)) (i : Nat) : Nat := Rows.uptoBulkAll ((xs.drop i).map (·.1))
theorem Zao {xs : List (DataW H × List MemPlace)} {i : Nat} {a b : List D} (h : bkL a + 1 + FB xs (i + 1) ≤ FB xs i) (k : bkL b ≤ FB xs (i + 1)) : bkL (a ++ b) ≤ FB xs i := by
 rw [ZlI]; omega
theorem Zb5 {xs : List (DataW H × List MemPlace)} {i : Nat} {a : List D} (h : bkL a + 1 + FB xs (i + 1) ≤ FB xs i) : bkL a ≤ FB xs i := by omega
theorem Zb6 {xs : List (DataW H × List MemPlace)} {a : List D} (h : bkL a ≤ FB xs 0) : bkL a + 1 ≤ Rows.uptoBulk (.agg (xs.map (·.1))) := by
 rw [ZoR]; exact Nat.succ_le_succ h
theorem Zo0 {α : Type} {e : α → List D} {m i : Nat} {t' : TypeId} {piece : List Value} {xs : List (DataW H × List MemPlace)} (h : RdN enc P W m t' e) (hf : DataW.trod enc P W 0 (fun _ => true) true m t' piece = xs[i]?) (hi : i < xs.length) :
  ∃ v, Zh5 W (e v) piece ∧ bkL (e v) + 1 + FB xs (i + 1) ≤ FB xs i := by
 rw [Yb hi] at hf
 obtain ⟨v, h1, h2⟩ := h _ _ hf
 refine ⟨v, h1, ?_⟩
 unfold FB
 rw [Y0 hi, YQ]
 simp only [Rows.uptoBulkAll]
 omega
theorem rf {α : Type} {e : α → List D} {m i k : Nat} {t' : TypeId} {piece : List Value} {xs : List (DataW H × List MemPlace)} (h : RdN enc P W m t' e) (hf : DataW.trod enc P W 0 (fun _ => true) true m t' piece = xs[i]?) (hx : xs.length = k) (hi : Nat.blt i k = true := by kernel_rfl) :
  ∃ v, Zh5 W (e v) piece ∧ bkL (e v) + 1 + FB xs (i + 1) ≤ FB xs i := Zo0 h hf (by rw [hx]; exact Yf hi)
theorem ZlG {α : Type} {e e' : α → List D} (he : ∀ x, e x = e' x) (h : RdN enc P W n t e') : RdN enc P W n t e := fun cs x hx => by
 obtain ⟨v, h1, h2⟩ := h cs x hx
 grind
theorem ZrK {α : Type} {e : α → List D} {fs : Array Field} {r : Reach} {base : Nat} {v : Value} {d : DataW H} {p : List MemPlace} (rd : ∀ n, RdN enc P W n t e) (ht : P.underlying t = some (.struct fs)) (hv : Value.okWide P W r base t v)
  (h : DataW.Trod enc P W 0 (fun _ => true) true t v d p) : ∃ x : α, (∀ m l, RepA W (· < W.heap.size) (fun _ => ⟨0, false, 0, 0, []⟩) m l (.agg ((e x).map .d)) v) ∧ bkL (e x) + 1 ≤ Rows.uptoBulk d := by
 obtain ⟨cs, rfl, _⟩ := okWide_struct ht hv
 obtain ⟨n, hn⟩ := h
 obtain ⟨x, h1, h2⟩ := rd n _ _ hn
 have hl : (e x).length = cs.size := by rw [h1.1]; simp [Value.cells]
 have key : ∀ (i : Nat) (c : Value) , cs[i]? = some c → ∃ d, (e x)[i]? = some d ∧ RepD W (· < W.heap.size) d c := fun i c hc => by
  have hlt : i < (e x).length := by
   grind
  obtain ⟨c', h3, h4⟩ := h1.2 i _ (Yb hlt)
  have : c' = c := by
   rw [Yy] at h3
   have : cs.toList[i]? = some c' := h3
   grind
  grind
 refine ⟨x, fun m l => .agg _ _ (by rw [Yj, hl]) (fun i c hc => ?_) (fun i y c hy hc => ?_), h2⟩
 ·obtain ⟨d, _, h3⟩ := key i c hc; exact h3.one
 ·obtain ⟨d, h3, h4⟩ := key i c hc
  rw [Yt, h3] at hy
  cases hy
  exact .d _ _ h4
theorem ZmH {r : Reach} {base : Nat} {v : Value} {d : DataW H} {p : List MemPlace} (ht : P.underlying t = some .string) (hv : Value.okWide P W r base t v) (h : DataW.Trod enc P W 0 (fun _ => true) true t v d p) :
  ∃ x : ByteArray, (∀ S Hp m l, RepA W S Hp m l (.d (.str x)) v) ∧ x.size + 1 ≤ Rows.uptoBulk d := by
 obtain ⟨x, rfl⟩ := okWide_string ht hv
 obtain ⟨n, hn⟩ := h
 obtain ⟨s, h1, h2, _⟩ := DataW.trod_string ht hn
 have h1 : x = s := by simpa [Value.cells] using h1
 subst h1
 have h2 : d = .lit (.string x.data.toList) := congrArg Prod.fst h2
 subst h2
 refine ⟨x, fun _ _ _ _ => .d _ _ (.str _), ?_⟩
 rw [ZiC]
 exact Yg _
def Hp0 : Hp := fun _ => ⟨0, false, 0, 0, []⟩
theorem ok0 (m : Mu) : Ok 0 Hp0 m (· < W.heap.size) W := ⟨fun _ h => h, fun _ _ h => (by cases h), fun _ _ h => (by cases h), fun _ _ _ _ h => (by cases h), fun _ _ h => (by cases h), ⟨fun _ _ h => (by cases h), fun _ _ h => (by cases h), fun _ _ _ _ h => (by cases h)⟩⟩
def ZyS (w : World) (S : Nat → Prop) (Hp : Hp) (m : Mu) (l : Nat) : List AV → List Value → Prop
 | [], [] => True
 | x :: xs, v :: vs => RepA w S Hp m l x v ∧ ZyS w S Hp m l xs vs
 | _, _ => False
theorem Zr8 {w : World} {S : Nat → Prop} {Hp : Hp} {m : Mu} {l : Nat} {xs : List AV} {vs : List Value} (h : ZyS w S Hp m l xs vs) : Zdo w S Hp m l xs vs.toArray := by
 suffices hh : xs.length = vs.length ∧ ∀ (i : Nat) (x : AV) (v : Value), xs[i]? = some x → vs[i]? = some v → RepA w S Hp m l x v by
  exact ⟨by simpa using hh.1, fun i x v hx hv => hh.2 i x v hx (by simpa using hv)⟩
 induction xs generalizing vs with
 | nil => cases vs with
  | nil => exact ⟨rfl, fun i x v h => by simp at h⟩
  | cons _ _ => exact h.elim
 | cons x xs ih => cases vs with
  | nil => exact h.elim
  | cons v vs =>
   obtain ⟨h1, h2⟩ := ih h.2
   refine ⟨by simp [h1], fun i y u hy hu => ?_⟩
   cases i with
   | zero => simp at hy hu; subst hy; subst hu; exact h.1
   | succ i => exact h2 i y u (by simpa using hy) (by simpa using hu)
theorem ZkY {f : Func} {s : ChangeSpec} {W' : World} {args : Array Value} {ds gs : List (DataW H)} {before : List MemPlace} {u : TypeId} (hW : DataW.Whole enc P f.params.toList s.vars false W args.toList ds gs before) (hvars : s.vars = [])
  (hlaid : laidOutB P = true) (hrd : ∀ t ∈ f.params.toList, P.readableRec t = true ∧ t < P.types.size) (hres : f.resultTypes.toList = [u]) (hu : P.underlying u = some .bool)
  (hfn : s.fn H (ds ++ gs) = { results := [.lit (.bool true)], args := ds }) (hb : Below W.heap.size W W') : s.post enc P f false true false false W args (.bool true) W' := by
 obtain ⟨p, q, hA, hV, rfl, hfz, hnd⟩ := id hW
 rw [hvars] at hV
 obtain ⟨rfl, rfl⟩ := trodVars_none hV
 refine ⟨ds, [], p ++ [], [], p, [], hW, ?_, ?_, ?_, ?_, fun h => by cases h⟩
 ·rw [hfn, hres]
  have : (Value.bool true).resultList f.resultTypes.size = [.bool true] := by
   have : f.resultTypes.size = 1 := by rw [← Y3, hres]; rfl
   rw [this]; rfl
  rw [this]
  exact trodAll_cons_mk (shut_bool hu _) trodAll_mk0
 ·rw [hfn]
  have key : ∀ (ts : List TypeId) (vs : List Value) (es : List (DataW H)) (ps : List MemPlace), (∀ t ∈ ts, P.readableRec t = true ∧ t < P.types.size) → DataW.TrodAll enc P W 0 (fun _ => true) true ts vs es ps →
    DataW.TrodAll enc P W' 0 (fun b => decide (b < W.heap.size)) true ts vs es ps := by
   intro ts
   induction ts with
   | nil => intro vs es ps _ h; obtain ⟨rfl, rfl, rfl⟩ := trodAll_nil h; exact trodAll_mk0
   | cons t ts ih =>
    intro vs es ps hr h
    have hlt := DataW.TrodAll.lt h
    obtain ⟨v, vs1, d, ds1, a, b, rfl, rfl, rfl, h1, h2⟩ := trodAll_cons h
    exact trodAll_cons_mk (Below.trod hlaid (hr t (by simp)).1 (hr t (by simp)).2 h1 hb (fun x hx => hlt x (YR _ hx))) (ih _ _ _ (fun t ht => hr t (by simp [ht])) h2)
  exact key _ _ _ _ hrd hA
 ·rw [hvars, hfn]; exact rfl
 ·refine ⟨hb.os, hb.output, fun i hi => ?_⟩
  rw [hb.block i hi]
  cases W.heap[i]? with
  | none => rfl
  | some o => cases o <;> simp
end
end Go.Proofs.Ythhipejbnbochaa
namespace Go.Proofs.Ythhipejbnbochaa
set_option linter.all false
open Go Go.Eng
section
variable {H : Type} {enc : TypeId × Value → H} {W : World}
set_option maxRecDepth 100000
theorem ZvU (n : Nat) : RdN enc Try.prog W n 159 Zo2 := fun cs x hx => by
 obtain ⟨xs, m, rfl, rfl, hcl, hxl, hf⟩ := DataW.trod_struct Try.underlying159 hx
 obtain ⟨v0, r0, b0⟩ := rf (Zb0 Try.underlying3) (hf 0 _ rfl) hxl
 obtain ⟨v1, r1, b1⟩ := rf (Zb0 Try.underlying3) (hf 1 _ rfl) hxl
 obtain ⟨v2, r2, b2⟩ := rf (Zb0 Try.underlying49) (hf 2 _ rfl) hxl
 obtain ⟨v3, r3, b3⟩ := rf (Zb1 Try.underlying9) (hf 3 _ rfl) hxl
 have q := Zb6 (Zao b0 (Zao b1 (Zao b2 (Zb5 b3))))
 exact ⟨.mk v0 v1 v2 v3, ⟨by rw [hcl]; kernel_rfl, (r0.at.app (r1.at.app (r2.at.app r3.at)))⟩, q⟩
theorem ZoH (n : Nat) (h : ∀ k, k < n → RdN enc Try.prog W k 55 ZqQ) : RdN enc Try.prog W n 155 ePr := fun cs x hx => by
 obtain ⟨xs, m, rfl, rfl, hcl, hxl, hf⟩ := DataW.trod_struct Try.underlying155 hx
 obtain ⟨v0, r0, b0⟩ := rf (h m (by omega)) (hf 0 _ rfl) hxl
 obtain ⟨v1, r1, b1⟩ := rf (h m (by omega)) (hf 1 _ rfl) hxl
 have q := Zb6 (Zao b0 (Zb5 b1))
 exact ⟨.mk v0 v1, ⟨by rw [hcl]; kernel_rfl, (r0.at.app r1.at)⟩, q⟩
theorem Zmt (n : Nat) (h : ∀ k, k < n → RdN enc Try.prog W k 55 ZqQ) : RdN enc Try.prog W n 157 ZxV := fun cs x hx => by
 obtain ⟨xs, m, rfl, rfl, hcl, hxl, hf⟩ := DataW.trod_struct Try.underlying157 hx
 obtain ⟨v0, r0, b0⟩ := rf (Zb0 Try.underlying3) (hf 0 _ rfl) hxl
 obtain ⟨v1, r1, b1⟩ := rf (h m (by omega)) (hf 1 _ rfl) hxl
 have q := Zb6 (Zao b0 (Zb5 b1))
 exact ⟨.mk v0 v1, ⟨by rw [hcl]; kernel_rfl, (r0.at.app r1.at)⟩, q⟩
theorem ZpA (n : Nat) : RdN enc Try.prog W n 55 ZqQ := by
 induction n using Nat.strongRecOn with
 | ind n ih =>
 intro cs x hx
 obtain ⟨xs, m, rfl, rfl, hcl, hxl, hf⟩ := DataW.trod_struct Try.underlying55 hx
 obtain ⟨v0, r0, b0⟩ := rf (Zb0 Try.underlying3) (hf 0 _ rfl) hxl
 obtain ⟨v1, r1, b1⟩ := rf (Zb0 Try.underlying49) (hf 1 _ rfl) hxl
 obtain ⟨v2, r2, b2⟩ := rf (Zb1 Try.underlying9) (hf 2 _ rfl) hxl
 obtain ⟨v3, r3, b3⟩ := rf (ZaA Try.underlying50 (by kernel_rfl : Try.prog.cellsOf 55 = 7) (by decide) (fun x => by rw [Zgo]; rfl) (fun k hk => (ZlG Zgo (ih k (by omega))))) (hf 3 _ rfl) hxl
 obtain ⟨v4, r4, b4⟩ := rf (ZaA Try.underlying51 (by kernel_rfl : Try.prog.cellsOf 155 = 14) (by decide) (fun x => by rw [ZpF]; rfl) (fun k hk => (ZlG ZpF (ZoH k (fun j hj => ih j (by omega)))))) (hf 4 _ rfl) hxl
 obtain ⟨v5, r5, b5⟩ := rf (ZaA Try.underlying52 (by kernel_rfl : Try.prog.cellsOf 157 = 8) (by decide) (fun x => by rw [Zlg]; rfl) (fun k hk => (ZlG Zlg (Zmt k (fun j hj => ih j (by omega)))))) (hf 5 _ rfl) hxl
 obtain ⟨v6, r6, b6⟩ := rf (ZaA Try.underlying53 (by kernel_rfl : Try.prog.cellsOf 159 = 4) (by decide) (fun _ => rfl) (fun k hk => (ZvU k))) (hf 6 _ rfl) hxl
 have q := Zb6 (Zao b0 (Zao b1 (Zao b2 (Zao b3 (Zao b4 (Zao b5 (Zb5 b6)))))))
 exact ⟨.mk v0 v1 v2 v3 v4 v5 v6, ⟨by rw [hcl]; kernel_rfl, (r0.at.app (r1.at.app (r2.at.app (r3.at.app (r4.at.app (r5.at.app r6.at))))))⟩, q⟩
theorem ZvV (n : Nat) : RdN enc Try.prog W n 48 Zzs := fun cs x hx => by
 obtain ⟨xs, m, rfl, rfl, hcl, hxl, hf⟩ := DataW.trod_struct Try.underlying48 hx
 obtain ⟨v0, r0, b0⟩ := rf (Zb0 Try.underlying3) (hf 0 _ rfl) hxl
 obtain ⟨v1, r1, b1⟩ := rf (Zb1 Try.underlying9) (hf 1 _ rfl) hxl
 have q := Zb6 (Zao b0 (Zb5 b1))
 exact ⟨.mk v0 v1, ⟨by rw [hcl]; kernel_rfl, (r0.at.app r1.at)⟩, q⟩
theorem ZjE (n : Nat) : RdN enc Try.prog W n 153 eNt := fun cs x hx => by
 obtain ⟨xs, m, rfl, rfl, hcl, hxl, hf⟩ := DataW.trod_struct Try.underlying153 hx
 obtain ⟨v0, r0, b0⟩ := rf (Zb1 Try.underlying9) (hf 0 _ rfl) hxl
 obtain ⟨v1, r1, b1⟩ := rf (ZpA m) (hf 1 _ rfl) hxl
 have q := Zb6 (Zao b0 (Zb5 b1))
 exact ⟨.mk v0 v1, ⟨by rw [hcl]; kernel_rfl, (r0.at.app r1.at)⟩, q⟩
theorem ZtI (n : Nat) : RdN enc Try.prog W n 57 ZcC := fun cs x hx => by
 obtain ⟨xs, m, rfl, rfl, hcl, hxl, hf⟩ := DataW.trod_struct Try.underlying57 hx
 obtain ⟨v0, r0, b0⟩ := rf (Zb0 Try.underlying3) (hf 0 _ rfl) hxl
 obtain ⟨v1, r1, b1⟩ := rf (Zb1 Try.underlying9) (hf 1 _ rfl) hxl
 obtain ⟨v2, r2, b2⟩ := rf (Zb0 Try.underlying3) (hf 2 _ rfl) hxl
 obtain ⟨v3, r3, b3⟩ := rf (Zb0 Try.underlying3) (hf 3 _ rfl) hxl
 obtain ⟨v4, r4, b4⟩ := rf (ZvV m) (hf 4 _ rfl) hxl
 obtain ⟨v5, r5, b5⟩ := rf (Zb1 Try.underlying9) (hf 5 _ rfl) hxl
 obtain ⟨v6, r6, b6⟩ := rf (Zlp Try.underlying4) (hf 6 _ rfl) hxl
 obtain ⟨v7, r7, b7⟩ := rf (ZpA m) (hf 7 _ rfl) hxl
 obtain ⟨v8, r8, b8⟩ := rf (ZaA Try.underlying40 (by kernel_rfl : Try.prog.cellsOf 153 = 8) (by decide) (fun _ => rfl) (fun k hk => (ZjE k))) (hf 8 _ rfl) hxl
 have q := Zb6 (Zao b0 (Zao b1 (Zao b2 (Zao b3 (Zao b4 (Zao b5 (Zao b6 (Zao b7 (Zb5 b8)))))))))
 exact ⟨.mk v0 v1 v2 v3 v4 v5 v6 v7 v8, ⟨by rw [hcl]; kernel_rfl, (r0.at.app (r1.at.app (r2.at.app (r3.at.app (r4.at.app (r5.at.app (r6.at.app (r7.at.app r8.at))))))))⟩, q⟩
theorem Zql (n : Nat) : RdN enc Try.prog W n 151 Zjt := fun cs x hx => by
 obtain ⟨xs, m, rfl, rfl, hcl, hxl, hf⟩ := DataW.trod_struct Try.underlying151 hx
 obtain ⟨v0, r0, b0⟩ := rf (Zb0 Try.underlying3) (hf 0 _ rfl) hxl
 obtain ⟨v1, r1, b1⟩ := rf (Zb0 Try.underlying3) (hf 1 _ rfl) hxl
 have q := Zb6 (Zao b0 (Zb5 b1))
 exact ⟨.mk v0 v1, ⟨by rw [hcl]; kernel_rfl, (r0.at.app r1.at)⟩, q⟩
theorem ZvM (n : Nat) : RdN enc Try.prog W n 42 Za1 := fun cs x hx => by
 obtain ⟨xs, m, rfl, rfl, hcl, hxl, hf⟩ := DataW.trod_struct Try.underlying42 hx
 obtain ⟨v0, r0, b0⟩ := rf (Zb1 Try.underlying9) (hf 0 _ rfl) hxl
 obtain ⟨v1, r1, b1⟩ := rf (ZaA Try.underlying38 (by kernel_rfl : Try.prog.cellsOf 57 = 16) (by decide) (fun _ => rfl) (fun k hk => (ZtI k))) (hf 1 _ rfl) hxl
 obtain ⟨v2, r2, b2⟩ := rf (ZaA Try.underlying39 (by kernel_rfl : Try.prog.cellsOf 151 = 2) (by decide) (fun _ => rfl) (fun k hk => (Zql k))) (hf 2 _ rfl) hxl
 obtain ⟨v3, r3, b3⟩ := rf (ZaA Try.underlying31 (by kernel_rfl : Try.prog.cellsOf 9 = 1) (by decide) (fun _ => rfl) (fun k hk => (Zb1 Try.underlying9))) (hf 3 _ rfl) hxl
 obtain ⟨v4, r4, b4⟩ := rf (ZaA Try.underlying40 (by kernel_rfl : Try.prog.cellsOf 153 = 8) (by decide) (fun _ => rfl) (fun k hk => (ZjE k))) (hf 4 _ rfl) hxl
 have q := Zb6 (Zao b0 (Zao b1 (Zao b2 (Zao b3 (Zb5 b4)))))
 exact ⟨.mk v0 v1 v2 v3 v4, ⟨by rw [hcl]; kernel_rfl, (r0.at.app (r1.at.app (r2.at.app (r3.at.app r4.at))))⟩, q⟩
theorem ZtS (n : Nat) : RdN enc Try.prog W n 161 ZyV := fun cs x hx => by
 obtain ⟨xs, m, rfl, rfl, hcl, hxl, hf⟩ := DataW.trod_struct Try.underlying161 hx
 obtain ⟨v0, r0, b0⟩ := rf (Zb1 Try.underlying9) (hf 0 _ rfl) hxl
 obtain ⟨v1, r1, b1⟩ := rf (Zb0 Try.underlying3) (hf 1 _ rfl) hxl
 obtain ⟨v2, r2, b2⟩ := rf (ZaA Try.underlying40 (by kernel_rfl : Try.prog.cellsOf 153 = 8) (by decide) (fun _ => rfl) (fun k hk => (ZjE k))) (hf 2 _ rfl) hxl
 have q := Zb6 (Zao b0 (Zao b1 (Zb5 b2)))
 exact ⟨.mk v0 v1 v2, ⟨by rw [hcl]; kernel_rfl, (r0.at.app (r1.at.app r2.at))⟩, q⟩
theorem Zwv (n : Nat) : RdN enc Try.prog W n 89 Zbj := fun cs x hx => by
 obtain ⟨xs, m, rfl, rfl, hcl, hxl, hf⟩ := DataW.trod_struct Try.underlying89 hx
 obtain ⟨v0, r0, b0⟩ := rf (Zb1 Try.underlying9) (hf 0 _ rfl) hxl
 obtain ⟨v1, r1, b1⟩ := rf (Zlp Try.underlying4) (hf 1 _ rfl) hxl
 obtain ⟨v2, r2, b2⟩ := rf (ZaA Try.underlying87 (by kernel_rfl : Try.prog.cellsOf 161 = 3) (by decide) (fun _ => rfl) (fun k hk => (ZtS k))) (hf 2 _ rfl) hxl
 obtain ⟨v3, r3, b3⟩ := rf (ZaA Try.underlying39 (by kernel_rfl : Try.prog.cellsOf 151 = 2) (by decide) (fun _ => rfl) (fun k hk => (Zql k))) (hf 3 _ rfl) hxl
 obtain ⟨v4, r4, b4⟩ := rf (ZaA Try.underlying40 (by kernel_rfl : Try.prog.cellsOf 153 = 8) (by decide) (fun _ => rfl) (fun k hk => (ZjE k))) (hf 4 _ rfl) hxl
 have q := Zb6 (Zao b0 (Zao b1 (Zao b2 (Zao b3 (Zb5 b4)))))
 exact ⟨.mk v0 v1 v2 v3 v4, ⟨by rw [hcl]; kernel_rfl, (r0.at.app (r1.at.app (r2.at.app (r3.at.app r4.at))))⟩, q⟩
theorem Zv2 (n : Nat) : RdN enc Try.prog W n 164 Zye := fun cs x hx => by
 obtain ⟨xs, m, rfl, rfl, hcl, hxl, hf⟩ := DataW.trod_struct Try.underlying164 hx
 obtain ⟨v0, r0, b0⟩ := rf (Zb1 Try.underlying9) (hf 0 _ rfl) hxl
 obtain ⟨v1, r1, b1⟩ := rf (Zb1 Try.underlying9) (hf 1 _ rfl) hxl
 obtain ⟨v2, r2, b2⟩ := rf (Zb1 Try.underlying9) (hf 2 _ rfl) hxl
 obtain ⟨v3, r3, b3⟩ := rf (Zb0 Try.underlying3) (hf 3 _ rfl) hxl
 obtain ⟨v4, r4, b4⟩ := rf (ZaA Try.underlying40 (by kernel_rfl : Try.prog.cellsOf 153 = 8) (by decide) (fun _ => rfl) (fun k hk => (ZjE k))) (hf 4 _ rfl) hxl
 have q := Zb6 (Zao b0 (Zao b1 (Zao b2 (Zao b3 (Zb5 b4)))))
 exact ⟨.mk v0 v1 v2 v3 v4, ⟨by rw [hcl]; kernel_rfl, (r0.at.app (r1.at.app (r2.at.app (r3.at.app r4.at))))⟩, q⟩
theorem Zvp (n : Nat) : RdN enc Try.prog W n 149 Zbr := fun cs x hx => by
 obtain ⟨xs, m, rfl, rfl, hcl, hxl, hf⟩ := DataW.trod_struct Try.underlying149 hx
 obtain ⟨v0, r0, b0⟩ := rf (Zb1 Try.underlying9) (hf 0 _ rfl) hxl
 obtain ⟨v1, r1, b1⟩ := rf (ZaA Try.underlying147 (by kernel_rfl : Try.prog.cellsOf 164 = 5) (by decide) (fun _ => rfl) (fun k hk => (Zv2 k))) (hf 1 _ rfl) hxl
 obtain ⟨v2, r2, b2⟩ := rf (ZaA Try.underlying40 (by kernel_rfl : Try.prog.cellsOf 153 = 8) (by decide) (fun _ => rfl) (fun k hk => (ZjE k))) (hf 2 _ rfl) hxl
 have q := Zb6 (Zao b0 (Zao b1 (Zb5 b2)))
 exact ⟨.mk v0 v1 v2, ⟨by rw [hcl]; kernel_rfl, (r0.at.app (r1.at.app r2.at))⟩, q⟩
theorem Zu8 (n : Nat) : RdN enc Try.prog W n 26 ZbY := fun cs x hx => by
 obtain ⟨xs, m, rfl, rfl, hcl, hxl, hf⟩ := DataW.trod_struct Try.underlying26 hx
 obtain ⟨v0, r0, b0⟩ := rf (ZaA Try.underlying22 (by kernel_rfl : Try.prog.cellsOf 42 = 5) (by decide) (fun _ => rfl) (fun k hk => (ZvM k))) (hf 0 _ rfl) hxl
 obtain ⟨v1, r1, b1⟩ := rf (ZaA Try.underlying23 (by kernel_rfl : Try.prog.cellsOf 89 = 5) (by decide) (fun _ => rfl) (fun k hk => (Zwv k))) (hf 1 _ rfl) hxl
 obtain ⟨v2, r2, b2⟩ := rf (ZaA Try.underlying24 (by kernel_rfl : Try.prog.cellsOf 149 = 3) (by decide) (fun _ => rfl) (fun k hk => (Zvp k))) (hf 2 _ rfl) hxl
 have q := Zb6 (Zao b0 (Zao b1 (Zb5 b2)))
 exact ⟨.mk v0 v1 v2, ⟨by rw [hcl]; kernel_rfl, (r0.at.app (r1.at.app r2.at))⟩, q⟩
end
end Go.Proofs.Ythhipejbnbochaa
