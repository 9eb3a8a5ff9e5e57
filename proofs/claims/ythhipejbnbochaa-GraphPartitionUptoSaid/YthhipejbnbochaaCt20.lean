import Derived.Test.YthhipejbnbochaaCt19
import Derived.Test.YthhipejbnbochaaCt11
import Derived.Test.YthhipejbnbochaaCt10
import Derived.Test.YthhipejbnbochaaRows
import Derived.WalkKit
import Derived.ProofKit
import Derived.OpenShut
import Derived.Carry
import Derived.Deep.DeepHandedRow
import Derived.Test.YthhipejbnbochaaCt00
namespace Go.Proofs.Ythhipejbnbochaa
set_option linter.all false
open Go Go.Eng
abbrev E18 : Msg × Int → AV := fun y => .tup [.agg ((Zcx y.1).map .d), vI y.2]
def ZwG (p0 : Scm) (p1 : ByteArray) : Nat → St := fun v1 => mkS [(1, vS p1), (2, .ptr (1, 2) 0 0), (4, .ptr (1, 4) 0 0), (6, vN v1)] [((1, 2), ⟨0, true, 26, 3, [vL Zcx p0.messages, vL ZdO p0.enums, vL Zes p0.services]⟩), ((1, 4), ⟨0, true, 42, 5, [vS ⟨#[]⟩, .e0, .e0, .e0, .e0]⟩)]
def Zu6 : Unit → Nat × St := fun _ => (0, mkS [(4, .ptr (1, 4) 0 0)] [((1, 4), ⟨0, true, 42, 5, [vS ⟨#[]⟩, .e0, .e0, .e0, .e0]⟩)])
def ZpL (p0 : Scm) (p1 : ByteArray) (v1 : Nat) : PT 0 (Lv (Nat) (Unit) (Msg × Int)) := vw .go <| vz (eqL p0.messages) <| br (decide ((v1 : Int) < (p0.messages.length : Int))) (vw .go <| ix p0.messages v1 fun e2 => br (decide (e2.name = p1)) (vw .go <| ix p0.messages v1 fun e3 => vw .go <| lrt E18 (fun _ => []) (e3, (v1 : Int))) (vs (wa v1 1) <| ln (ZwG p0 p1) (v1 + 1))) (lxe (Zu6) ())
def Zly (p0 : Scm) (p1 : ByteArray) : Nat → Option (Lv (Nat) (Unit) (Msg × Int)) := fun v1 => (ZpL p0 p1 v1).m
def Ztf : PT 0 (Msg × Int) := vw .go <| lr E18 (fun _ => []) ((.mk ⟨#[]⟩ [] [] [] [] : Msg), (-1))
def Zr1 (p0 : Scm) (p1 : ByteArray) : PT 0 (Msg × Int) := lc (mkS [(1, vS p1), (2, .ptr (1, 2) 0 0), (4, .ptr (1, 4) 0 0), (6, vI 0)] [((1, 2), ⟨0, true, 26, 3, [vL Zcx p0.messages, vL ZdO p0.enums, vL Zes p0.services]⟩), ((1, 4), ⟨0, true, 42, 5, [vS ⟨#[]⟩, .e0, .e0, .e0, .e0]⟩)]) ((ZaE (Zly p0 p1) big 0).bind (Sum.elim (fun _ => (Ztf).m) some))
def Zr8 (p0 : Scm) (p1 : ByteArray) : PT 0 (Msg × Int) := lc (mkS [(1, vS p1), (2, .ptr (1, 2) 0 0), (4, .ptr (1, 4) 0 0)] [((1, 2), ⟨0, true, 26, 3, [vL Zcx p0.messages, vL ZdO p0.enums, vL Zes p0.services]⟩), ((1, 4), ⟨0, true, 42, 5, [vS ⟨#[]⟩, .e0, .e0, .e0, .e0]⟩)]) ((Zr1 p0 p1).m)
def ZaS (p0 : Scm) (p1 : ByteArray) : Option (Msg × Int) := (Zr8 p0 p1).m
set_option maxRecDepth 100000 in
theorem Zri {C : Cx} (co : CO C 0) (p0 : Scm) (p1 : ByteArray) : KL Try.prog (lkT tl) 29 C (pa [0, 0, 1, 0, 1] (Zad Try.f18)) [.cell 4 42, .tmp 5] 0 (ZwG p0 p1) (Zu6) E18 (fun _ => []) (Zly p0 p1) := fun v1 _ hm Q Post hQ hL => ZaU co tok tmo (ZpL p0 p1 v1) (lf2 [1, 2, 4, 6] [((1, 2), false), ((1, 4), false)]) (lf2 [4] [((1, 4), false)]) hQ hm hL fun r g => ⟨fun e2 => ⟨fun e3 => id, id⟩, id⟩
set_option maxRecDepth 100000 in
theorem Zw1 (p0 : Scm) (p1 : ByteArray) : KC Try.prog 18 [.agg ((Zb0 p0).map .d), vS p1] (ZaS p0 p1) E18 := kc1 Try.func18 Try.ntmps18 tok [.cell 4 42, .tmp 5] fun C co y hm Post hL => Zap co tok tmo 1 (Zr8 p0 p1) (lf2 [1, 2, 4] [((1, 2), false), ((1, 4), false)]) nl (fun _ h => h) hm hL fun r g => fun _ hm hL => sq (Zap co tok tmo 1 (Zr1 p0 p1) (lf2 [1, 2, 4, 6] [((1, 2), false), ((1, 4), false)]) nl (fun _ h => h) hm hL fun r g => fun _ hm hL => bk 0 (lo (lpF (Zri co p0 p1) (fun _ h => h) hm hL (fun _ hm => Zde co tok tmo (Ztf) hm hL fun r g => id))))
abbrev E46 : Enm × Int → AV := fun y => .tup [.agg ((ZdO y.1).map .d), vI y.2]
def Zut (p0 : Scm) (p1 : ByteArray) : Nat → St := fun v1 => mkS [(1, vS p1), (2, .ptr (1, 2) 0 0), (4, .ptr (1, 4) 0 0), (6, vN v1)] [((1, 2), ⟨0, true, 26, 3, [vL Zcx p0.messages, vL ZdO p0.enums, vL Zes p0.services]⟩), ((1, 4), ⟨0, true, 89, 5, [vS ⟨#[]⟩, vB false, .e0, .e0, .e0]⟩)]
def ZvL : Unit → Nat × St := fun _ => (0, mkS [(4, .ptr (1, 4) 0 0)] [((1, 4), ⟨0, true, 89, 5, [vS ⟨#[]⟩, vB false, .e0, .e0, .e0]⟩)])
def ZpH (p0 : Scm) (p1 : ByteArray) (v1 : Nat) : PT 0 (Lv (Nat) (Unit) (Enm × Int)) := vw .go <| vz (eqL p0.enums) <| br (decide ((v1 : Int) < (p0.enums.length : Int))) (vw .go <| ix p0.enums v1 fun e2 => br (decide (e2.name = p1)) (vw .go <| ix p0.enums v1 fun e3 => vw .go <| lrt E46 (fun _ => []) (e3, (v1 : Int))) (vs (wa v1 1) <| ln (Zut p0 p1) (v1 + 1))) (lxe (ZvL) ())
def ZnG (p0 : Scm) (p1 : ByteArray) : Nat → Option (Lv (Nat) (Unit) (Enm × Int)) := fun v1 => (ZpH p0 p1 v1).m
def Zre : PT 0 (Enm × Int) := vw .go <| lr E46 (fun _ => []) ((.mk ⟨#[]⟩ false [] [] [] : Enm), (-1))
def ZrS (p0 : Scm) (p1 : ByteArray) : PT 0 (Enm × Int) := lc (mkS [(1, vS p1), (2, .ptr (1, 2) 0 0), (4, .ptr (1, 4) 0 0), (6, vI 0)] [((1, 2), ⟨0, true, 26, 3, [vL Zcx p0.messages, vL ZdO p0.enums, vL Zes p0.services]⟩), ((1, 4), ⟨0, true, 89, 5, [vS ⟨#[]⟩, vB false, .e0, .e0, .e0]⟩)]) ((ZaE (ZnG p0 p1) big 0).bind (Sum.elim (fun _ => (Zre).m) some))
def ZtQ (p0 : Scm) (p1 : ByteArray) : PT 0 (Enm × Int) := lc (mkS [(1, vS p1), (2, .ptr (1, 2) 0 0), (4, .ptr (1, 4) 0 0)] [((1, 2), ⟨0, true, 26, 3, [vL Zcx p0.messages, vL ZdO p0.enums, vL Zes p0.services]⟩), ((1, 4), ⟨0, true, 89, 5, [vS ⟨#[]⟩, vB false, .e0, .e0, .e0]⟩)]) ((ZrS p0 p1).m)
def Zbc (p0 : Scm) (p1 : ByteArray) : Option (Enm × Int) := (ZtQ p0 p1).m
set_option maxRecDepth 100000 in
theorem Zq8 {C : Cx} (co : CO C 0) (p0 : Scm) (p1 : ByteArray) : KL Try.prog (lkT tl) 29 C (pa [0, 0, 1, 0, 1] (Zad Try.f46)) [.cell 4 89, .tmp 5] 0 (Zut p0 p1) (ZvL) E46 (fun _ => []) (ZnG p0 p1) := fun v1 _ hm Q Post hQ hL => ZaU co tok tmo (ZpH p0 p1 v1) (lf2 [1, 2, 4, 6] [((1, 2), false), ((1, 4), false)]) (lf2 [4] [((1, 4), false)]) hQ hm hL fun r g => ⟨fun e2 => ⟨fun e3 => id, id⟩, id⟩
set_option maxRecDepth 100000 in
theorem ZyS (p0 : Scm) (p1 : ByteArray) : KC Try.prog 46 [.agg ((Zb0 p0).map .d), vS p1] (Zbc p0 p1) E46 := kc1 Try.func46 Try.ntmps46 tok [.cell 4 89, .tmp 5] fun C co y hm Post hL => Zap co tok tmo 1 (ZtQ p0 p1) (lf2 [1, 2, 4] [((1, 2), false), ((1, 4), false)]) nl (fun _ h => h) hm hL fun r g => fun _ hm hL => sq (Zap co tok tmo 1 (ZrS p0 p1) (lf2 [1, 2, 4, 6] [((1, 2), false), ((1, 4), false)]) nl (fun _ h => h) hm hL fun r g => fun _ hm hL => bk 0 (lo (lpF (Zq8 co p0 p1) (fun _ h => h) hm hL (fun _ hm => Zde co tok tmo (Zre) hm hL fun r g => id))))
abbrev E19 : ByteArray × Bool → AV := fun y => .tup [vS y.1, vB y.2]
def ZsT (p0 : Scm) (p1 : Fld) : PT 0 (ByteArray × Bool) := vw .go <| br (decide (p1.type.kind = (10 : Int))) (vw .go <| vw .go <| cl (Zw1 p0 p1.type.name) fun y1 => vw .go <| br (decide (p1.type.kind = (9 : Int))) (vw .go <| vw .go <| cl (ZyS p0 p1.type.name) fun y2 => br (decide (y2.2 < (0 : Int))) (lr E19 (fun _ => []) (⟨#[]⟩, false)) (vw .go <| lr E19 (fun _ => []) (p1.type.name, true))) (br (decide (y1.2 < (0 : Int))) (lr E19 (fun _ => []) (⟨#[]⟩, false)) (vw .go <| lr E19 (fun _ => []) (p1.type.name, true)))) (vw .go <| br (decide (p1.type.kind = (9 : Int))) (vw .go <| vw .go <| cl (ZyS p0 p1.type.name) fun y3 => br (decide (y3.2 < (0 : Int))) (lr E19 (fun _ => []) (⟨#[]⟩, false)) (vw .go <| lr E19 (fun _ => []) (p1.type.name, true))) (vw .go <| lr E19 (fun _ => []) (⟨#[]⟩, false)))
def Za4 (p0 : Scm) (p1 : Fld) : Option (ByteArray × Bool) := (ZsT p0 p1).m
set_option maxRecDepth 100000 in
theorem Zyo (p0 : Scm) (p1 : Fld) : KC Try.prog 19 [.agg ((Zb0 p0).map .d), .agg ((ZdK p1).map .d)] (Za4 p0 p1) E19 := kc1 Try.func19 Try.ntmps19 tok [.tmp 4, .tmp 5] fun C co y hm Post hL => Zde co tok tmo (ZsT p0 p1) hm hL fun r g => ⟨fun y1 => ⟨fun y2 => ⟨id, id⟩, ⟨id, id⟩⟩, ⟨fun y3 => ⟨id, id⟩, id⟩⟩
abbrev E27 : Bool → AV := fun y => vB y
def ZwP (p0 : List ByteArray) (p1 : ByteArray) : Nat → St := fun v1 => mkS [(0, vL Zam p0), (1, vS p1), (5, vN v1)] []
def ZuJ : Unit → Nat × St := fun _ => (0, mkS [] [])
def Zoj (p0 : List ByteArray) (p1 : ByteArray) (v1 : Nat) : PT 0 (Lv (Nat) (Unit) (Bool)) := vz (eqL p0) <| br (decide ((v1 : Int) < (p0.length : Int))) (ix p0 v1 fun e2 => br (decide (e2 = p1)) (lrt E27 (fun _ => []) true) (vs (wa v1 1) <| ln (ZwP p0 p1) (v1 + 1))) (lxe (ZuJ) ())
def ZnZ (p0 : List ByteArray) (p1 : ByteArray) : Nat → Option (Lv (Nat) (Unit) (Bool)) := fun v1 => (Zoj p0 p1 v1).m
def Zrw : PT 0 (Bool) := lr E27 (fun _ => []) false
def ZtH (p0 : List ByteArray) (p1 : ByteArray) : PT 0 (Bool) := lc (mkS [(0, vL Zam p0), (1, vS p1), (5, vI 0)] []) ((ZaE (ZnZ p0 p1) big 0).bind (Sum.elim (fun _ => (Zrw).m) some))
def ZsS (p0 : List ByteArray) (p1 : ByteArray) : PT 0 (Bool) := lc (mkS [(0, vL Zam p0), (1, vS p1)] []) ((ZtH p0 p1).m)
def Zbh (p0 : List ByteArray) (p1 : ByteArray) : Option (Bool) := (ZsS p0 p1).m
set_option maxRecDepth 100000 in
theorem Zso {C : Cx} (co : CO C 0) (p0 : List ByteArray) (p1 : ByteArray) : KL Try.prog (lkT tl) 18 C (pa [0, 0, 1, 0, 1] (Zad Try.f27)) [.tmp 4] 0 (ZwP p0 p1) (ZuJ) E27 (fun _ => []) (ZnZ p0 p1) := fun v1 _ hm Q Post hQ hL => ZaU co tok tmo (Zoj p0 p1 v1) (lf1 [0, 1, 5]) nl hQ hm hL fun r g => ⟨fun e2 => ⟨id, id⟩, id⟩
set_option maxRecDepth 100000 in
theorem ZxM (p0 : List ByteArray) (p1 : ByteArray) : KC Try.prog 27 [vL Zam p0, vS p1] (Zbh p0 p1) E27 := kc1 Try.func27 Try.ntmps27 tok [.tmp 4] fun C co y hm Post hL => Zap co tok tmo 1 (ZsS p0 p1) (lf1 [0, 1]) nl (fun _ h => h) hm hL fun r g => fun _ hm hL => sq (Zap co tok tmo 1 (ZtH p0 p1) (lf1 [0, 1, 5]) nl (fun _ h => h) hm hL fun r g => fun _ hm hL => bk 0 (lo (lpF (Zso co p0 p1) (fun _ h => h) hm hL (fun _ hm => Zde co tok tmo (Zrw) hm hL fun r g => id))))
abbrev E53 : List ByteArray → AV := fun y => vL Zam y
def Zve (p0 : List ByteArray) (p1 : ByteArray) : List ByteArray × Nat → St := fun (r2, v3) => mkS [(0, vL Zam p0), (1, vS p1), (5, .ref (1, 5) 0 0 r2.length), (6, vN v3)] [((1, 5), ⟨0, true, 9, 1, Zaj Zam r2⟩)]
def Zvs (p0 : List ByteArray) (p1 : ByteArray) : List ByteArray → Nat × St := fun r6 => (0, mkS [(0, vL Zam p0), (1, vS p1), (5, .ref (1, 5) 0 0 r6.length)] [((1, 5), ⟨0, true, 9, 1, Zaj Zam r6⟩)])
def Zmk (p0 : List ByteArray) (p1 : ByteArray) (r2 : List ByteArray) (v3 : Nat) : PT 0 (Lv (List ByteArray × Nat) (List ByteArray) (List ByteArray)) := vz (eqL p0) <| ixg (decide ((v3 : Int) < (p0.length : Int))) p0 (v3 : Int) fun e4 => br (decide ((v3 : Int) < (p0.length : Int)) && sLt e4 p1) (ix p0 v3 fun e5 => vw .sep <| ap r2 (e5 : ByteArray) <| vs (wa v3 1) <| vz (fl (r2 ++ [e5])) <| ln (Zve p0 p1) (r2 ++ [e5], v3 + 1)) (vz (fl r2) <| lxe (Zvs p0 p1) r2)
def ZjZ (p0 : List ByteArray) (p1 : ByteArray) : List ByteArray × Nat → Option (Lv (List ByteArray × Nat) (List ByteArray) (List ByteArray)) := fun (r2, v3) => (Zmk p0 p1 r2 v3).m
def Ztj (p1 : ByteArray) (r6 : List ByteArray) (l7 : List ByteArray) : PT 0 (List ByteArray) := vz (fr ((r6 ++ [p1]) ++ l7)) <| lr E53 (fun _ => []) ((r6 ++ [p1]) ++ l7)
def Ztr (p0 : List ByteArray) (p1 : ByteArray) (r6 : List ByteArray) : PT 0 (List ByteArray) := vz (eqN r6.length) <| sL p0 (.nt r6.length) .no fun l7 => vw .sep <| ap r6 (p1 : ByteArray) <| aq (r6 ++ [p1]) l7 <| vz (fl ((r6 ++ [p1]) ++ l7)) <| lc (mkS [(4, .ref (1, 5) 0 0 ((r6 ++ [p1]) ++ l7).length)] [((1, 5), ⟨0, true, 9, 1, Zaj Zam ((r6 ++ [p1]) ++ l7)⟩)]) ((Ztj p1 r6 l7).m)
def Zsx (p0 : List ByteArray) (p1 : ByteArray) : PT 0 (List ByteArray) := vw (.ads 5 5 9 1) <| vz (fl ([] : List ByteArray)) <| lc (mkS [(0, vL Zam p0), (1, vS p1), (5, .ref (1, 5) 0 0 ([] : List ByteArray).length), (6, vI 0)] [((1, 5), ⟨0, true, 9, 1, Zaj Zam ([] : List ByteArray)⟩)]) ((ZaE (ZjZ p0 p1) big (([] : List ByteArray), 0)).bind (Sum.elim (fun r6 => (Ztr p0 p1 r6).m) some))
def ZtL (p0 : List ByteArray) (p1 : ByteArray) : PT 0 (List ByteArray) := lc (mkS [(0, vL Zam p0), (1, vS p1), (5, .e0), (6, vI 0)] []) ((Zsx p0 p1).m)
def ZtX (p0 : List ByteArray) (p1 : ByteArray) : PT 0 (List ByteArray) := cl (ZxM p0 p1) fun y1 => br y1 (lr E53 (fun _ => []) p0) (lc (mkS [(0, vL Zam p0), (1, vS p1), (5, .e0)] []) ((ZtL p0 p1).m))
def Zbe (p0 : List ByteArray) (p1 : ByteArray) : Option (List ByteArray) := (ZtX p0 p1).m
set_option maxRecDepth 100000 in
theorem Zro {C : Cx} (co : CO C 0) (p0 : List ByteArray) (p1 : ByteArray) : KL Try.prog (lkT tl) 41 C (pa [0, 0, 1, 0, 1, 1, 1] (Zad Try.f53)) [.tmp 4] 0 (Zve p0 p1) (Zvs p0 p1) E53 (fun _ => []) (ZjZ p0 p1) := fun (r2, v3) _ hm Q Post hQ hL => ZaU co tok tmo (Zmk p0 p1 r2 v3) (lf2 [0, 1, 5, 6] [((1, 5), true)]) (lf2 [0, 1, 5] [((1, 5), true)]) hQ hm hL fun r g => fun e4 => ⟨fun e5 => id, id⟩
set_option maxRecDepth 100000 in
theorem Zxg (p0 : List ByteArray) (p1 : ByteArray) : KC Try.prog 53 [vL Zam p0, vS p1] (Zbe p0 p1) E53 := kc1 Try.func53 Try.ntmps53 tok [.tmp 4] fun C co y hm Post hL => Zap co tok tmo 3 (ZtX p0 p1) (lf1 [0, 1, 5]) nl (fun _ h => h) hm hL fun r g => fun y1 => ⟨id, fun _ hm hL => sq (Zap co tok tmo 1 (ZtL p0 p1) (lf1 [0, 1, 5, 6]) nl (fun _ h => h) hm hL fun r g => fun _ hm hL => bk 0 (Zg6 co (Zsx p0 p1) (lf2 [0, 1, 5, 6] [((1, 5), true)]) hm hL fun r g => fun _ hm hL => lo (lpF (Zro co p0 p1) (fun _ h => h) hm hL (fun r6 hm => sq (drw tmo [0, 1, 4, 5, 6, 7, 2, 3, 8, 9] (Zce co tok (Ztr p0 p1 r6) (lf2 [4] [((1, 5), true)]) hm hL fun r g => fun l7 => fun _ hm hL => Zde co tok tmo (Ztj p1 r6 l7) hm hL fun r g => id))))))⟩
abbrev E61 : List ByteArray → AV := fun y => vL Zam y
def ZrE (p0 : Scm) (y1 : Msg × Int) : List ByteArray × Nat → St := fun (v2, v3) => mkS [(2, .ptr (1, 2) 0 0), (5, vL Zam v2), (6, .ptr (1, 6) 0 0), (8, vN v3)] [((1, 2), ⟨0, true, 26, 3, [vL Zcx p0.messages, vL ZdO p0.enums, vL Zes p0.services]⟩), ((1, 6), ⟨0, true, 42, 5, [vS y1.1.name, vL ZdK y1.1.fields, vL Zi0 y1.1.reserved, vL Zam y1.1.gone, vL eNt y1.1.notes]⟩)]
def Zv7 : List ByteArray → Nat × St := fun v9 => (0, mkS [(5, vL Zam v9)] [])
def Zo6 (p0 : Scm) (y1 : Msg × Int) (v2 : List ByteArray) (v3 : Nat) : PT 0 (Lv (List ByteArray × Nat) (List ByteArray) (List ByteArray)) := vw .go <| vz (eqL y1.1.fields) <| br (decide ((v3 : Int) < (y1.1.fields.length : Int))) (vw .go <| vw .go <| ix y1.1.fields v3 fun e4 => cl (Zyo p0 e4) fun y5 => vw .go <| ixg y5.2 y1.1.fields (v3 : Int) fun e6 => br (y5.2 && decide (e6.type.kind = (10 : Int))) (vw .go <| ix y1.1.fields v3 fun e7 => cl (Zxg v2 e7.type.name) fun y8 => vs (wa v3 1) <| ln (ZrE p0 y1) (y8, v3 + 1)) (vs (wa v3 1) <| ln (ZrE p0 y1) (v2, v3 + 1))) (lxe (Zv7) v2)
def ZmO (p0 : Scm) (y1 : Msg × Int) : List ByteArray × Nat → Option (Lv (List ByteArray × Nat) (List ByteArray) (List ByteArray)) := fun (v2, v3) => (Zo6 p0 y1 v2 v3).m
def Zq2 (v9 : List ByteArray) : PT 0 (List ByteArray) := lr E61 (fun _ => []) v9
def ZtI (p0 : Scm) (y1 : Msg × Int) : PT 0 (List ByteArray) := vw (.ads 5 5 9 1) <| vw (.frz 5 [(5, (([] : List ByteArray).map Zam))] []) <| vz (fz ([] : List ByteArray)) <| lc (mkS [(2, .ptr (1, 2) 0 0), (5, vL Zam ([] : List ByteArray)), (6, .ptr (1, 6) 0 0), (8, vI 0)] [((1, 2), ⟨0, true, 26, 3, [vL Zcx p0.messages, vL ZdO p0.enums, vL Zes p0.services]⟩), ((1, 6), ⟨0, true, 42, 5, [vS y1.1.name, vL ZdK y1.1.fields, vL Zi0 y1.1.reserved, vL Zam y1.1.gone, vL eNt y1.1.notes]⟩)]) ((ZaE (ZmO p0 y1) big (([] : List ByteArray), 0)).bind (Sum.elim (fun v9 => (Zq2 v9).m) some))
def Zrh (p0 : Scm) (y1 : Msg × Int) : PT 0 (List ByteArray) := lc (mkS [(2, .ptr (1, 2) 0 0), (5, .e0), (6, .ptr (1, 6) 0 0), (8, vI 0)] [((1, 2), ⟨0, true, 26, 3, [vL Zcx p0.messages, vL ZdO p0.enums, vL Zes p0.services]⟩), ((1, 6), ⟨0, true, 42, 5, [vS y1.1.name, vL ZdK y1.1.fields, vL Zi0 y1.1.reserved, vL Zam y1.1.gone, vL eNt y1.1.notes]⟩)]) ((ZtI p0 y1).m)
def Zrr (p0 : Scm) (p1 : ByteArray) : PT 0 (List ByteArray) := vw .go <| cl (Zw1 p0 p1) fun y1 => vw .go <| lc (mkS [(2, .ptr (1, 2) 0 0), (5, .e0), (6, .ptr (1, 6) 0 0)] [((1, 2), ⟨0, true, 26, 3, [vL Zcx p0.messages, vL ZdO p0.enums, vL Zes p0.services]⟩), ((1, 6), ⟨0, true, 42, 5, [vS y1.1.name, vL ZdK y1.1.fields, vL Zi0 y1.1.reserved, vL Zam y1.1.gone, vL eNt y1.1.notes]⟩)]) ((Zrh p0 y1).m)
def Zbd (p0 : Scm) (p1 : ByteArray) : Option (List ByteArray) := (Zrr p0 p1).m
set_option maxRecDepth 100000 in
theorem ZqU {C : Cx} (co : CO C 0) (p0 : Scm) (y1 : Msg × Int) : KL Try.prog (lkT tl) 55 C (pa [0, 0, 1, 0, 1, 1, 1] (Zad Try.f61)) [.tmp 4] 0 (ZrE p0 y1) (Zv7) E61 (fun _ => []) (ZmO p0 y1) := fun (v2, v3) _ hm Q Post hQ hL => ZaU co tok tmo (Zo6 p0 y1 v2 v3) (lf2 [2, 5, 6, 8] [((1, 2), false), ((1, 6), false)]) (lf1 [5]) hQ hm hL fun r g => ⟨fun e4 => fun y5 => fun e6 => ⟨fun e7 => fun y8 => id, id⟩, id⟩
set_option maxRecDepth 100000 in
theorem Zx2 (p0 : Scm) (p1 : ByteArray) : KC Try.prog 61 [.agg ((Zb0 p0).map .d), vS p1] (Zbd p0 p1) E61 := kc1 Try.func61 Try.ntmps61 tok [.tmp 4] fun C co y hm Post hL => Zap co tok tmo 3 (Zrr p0 p1) (lf2 [2, 5, 6] [((1, 2), false), ((1, 6), false)]) nl (fun _ h => h) hm hL fun r g => fun y1 => fun _ hm hL => sq (Zap co tok tmo 1 (Zrh p0 y1) (lf2 [2, 5, 6, 8] [((1, 2), false), ((1, 6), false)]) nl (fun _ h => h) hm hL fun r g => fun _ hm hL => bk 0 (Zg6 co (ZtI p0 y1) (lf2 [2, 5, 6, 8] [((1, 2), false), ((1, 6), false)]) hm hL fun r g => fun _ hm hL => lo (lpF (ZqU co p0 y1) (fun _ h => h) hm hL (fun v9 hm => Zde co tok tmo (Zq2 v9) hm hL fun r g => id))))
abbrev E55 : List ByteArray → AV := fun y => vL Zam y
def ZvE (p0 : Scm) (p1 : List ByteArray) : List ByteArray × Nat → St := fun (v1, v2) => mkS [(1, vL Zam p1), (2, .iptr (Zb0 p0) 0), (5, vL Zam v1), (6, vN v2)] []
def Zwx (p0 : Scm) : List ByteArray → Nat × St := fun v8 => (0, mkS [(2, .iptr (Zb0 p0) 0), (5, vL Zam v8)] [])
def ZpS (p0 : Scm) (p1 : List ByteArray) (v2 : Nat) (v7 : List ByteArray) : PT 0 (Lv (List ByteArray × Nat) (List ByteArray) (List ByteArray)) := vs (wa v2 1) <| ln (ZvE p0 p1) (v7, v2 + 1)
def Znn (p0 : Scm) (p1 : List ByteArray) (v2 : Nat) : List ByteArray → St := fun v7 => mkS [(1, vL Zam p1), (2, .iptr (Zb0 p0) 0), (5, vL Zam v7), (6, vN v2)] []
def Zey (p0 : Scm) (p1 : List ByteArray) (v2 : Nat) : List ByteArray → Option (Lv (List ByteArray × Nat) (List ByteArray) (List ByteArray)) := fun v7 => (ZpS p0 p1 v2 v7).m
def ZoR (p0 : Scm) (p1 : List ByteArray) (v1 : List ByteArray) (v2 : Nat) (y4 : Msg × Int) : PT 0 (Lv (List ByteArray × Nat) (List ByteArray) (List ByteArray)) := br (decide ((0 : Int) ≤ y4.2)) (ix p1 v2 fun e5 => cl (Zxg v1 e5) fun y6 => lc (Znn p0 p1 v2 y6) (Zey p0 p1 v2 y6)) (lc (Znn p0 p1 v2 v1) (Zey p0 p1 v2 v1))
def ZoU (p0 : Scm) (p1 : List ByteArray) (v1 : List ByteArray) (v2 : Nat) : PT 0 (Lv (List ByteArray × Nat) (List ByteArray) (List ByteArray)) := ix p1 v2 fun e3 => du (cl (Zw1 p0 e3) fun y4 => vw .go <| lc (mkS [(1, vL Zam p1), (2, .iptr (Zb0 p0) 0), (5, vL Zam v1), (6, vN v2), (8, vI y4.2)] []) ((ZoR p0 p1 v1 v2 y4).m))
def ZpC (p0 : Scm) (p1 : List ByteArray) (v1 : List ByteArray) (v2 : Nat) : PT 0 (Lv (List ByteArray × Nat) (List ByteArray) (List ByteArray)) := vz (eqL p1) <| br (decide ((v2 : Int) < (p1.length : Int))) (lc (mkS [(1, vL Zam p1), (2, .iptr (Zb0 p0) 0), (5, vL Zam v1), (6, vN v2)] []) ((ZoU p0 p1 v1 v2).m)) (lxe (Zwx p0) v1)
def Zld (p0 : Scm) (p1 : List ByteArray) : List ByteArray × Nat → Option (Lv (List ByteArray × Nat) (List ByteArray) (List ByteArray)) := fun (v1, v2) => (ZpC p0 p1 v1 v2).m
def ZwM (p0 : Scm) : List ByteArray × Bool → St := fun (v9, v10) => mkS [(2, .iptr (Zb0 p0) 0), (5, vL Zam v9), (9, vB v10)] []
def ZwH : List ByteArray → Nat × St := fun v21 => (2, mkS [(5, vL Zam v21)] [])
def ZvM (p0 : Scm) (v9 : List ByteArray) : List ByteArray × Nat → St := fun (v11, v12) => mkS [(2, .iptr (Zb0 p0) 0), (5, vL Zam v9), (10, vL Zam v11), (11, vN v12)] []
def ZuN (p0 : Scm) (v9 : List ByteArray) : List ByteArray → Nat × St := fun v20 => (4, mkS [(2, .iptr (Zb0 p0) 0), (5, vL Zam v9), (10, vL Zam v20)] [])
def ZvP (p0 : Scm) (v9 : List ByteArray) (v12 : Nat) (y14 : List ByteArray) : List ByteArray × Nat → St := fun (v15, v16) => mkS [(2, .iptr (Zb0 p0) 0), (5, vL Zam v9), (10, vL Zam v15), (11, vN v12), (12, vL Zam y14), (13, vN v16)] []
def Zv1 (p0 : Scm) (v9 : List ByteArray) (v12 : Nat) : List ByteArray → Nat × St := fun v19 => (6, mkS [(2, .iptr (Zb0 p0) 0), (5, vL Zam v9), (10, vL Zam v19), (11, vN v12)] [])
def Zpl (p0 : Scm) (v9 : List ByteArray) (v12 : Nat) (y14 : List ByteArray) (v15 : List ByteArray) (v16 : Nat) : PT 0 (Lv (List ByteArray × Nat) (List ByteArray) (List ByteArray)) := vz (eqL y14) <| br (decide ((v16 : Int) < (y14.length : Int))) (ix y14 v16 fun e17 => cl (Zxg v15 e17) fun y18 => vs (wa v16 1) <| ln (ZvP p0 v9 v12 y14) (y18, v16 + 1)) (lxe (Zv1 p0 v9 v12) v15)
def Zl0 (p0 : Scm) (v9 : List ByteArray) (v12 : Nat) (y14 : List ByteArray) : List ByteArray × Nat → Option (Lv (List ByteArray × Nat) (List ByteArray) (List ByteArray)) := fun (v15, v16) => (Zpl p0 v9 v12 y14 v15 v16).m
def Zog (p0 : Scm) (v9 : List ByteArray) (v12 : Nat) (v19 : List ByteArray) : PT 0 (Lv (List ByteArray × Nat) (List ByteArray) (List ByteArray)) := vs (wa v12 1) <| ln (ZvM p0 v9) (v19, v12 + 1)
def ZoQ (p0 : Scm) (v9 : List ByteArray) (v11 : List ByteArray) (v12 : Nat) : PT 0 (Lv (List ByteArray × Nat) (List ByteArray) (List ByteArray)) := ix v9 v12 fun e13 => cl (Zx2 p0 e13) fun y14 => lc (mkS [(2, .iptr (Zb0 p0) 0), (5, vL Zam v9), (10, vL Zam v11), (11, vN v12), (12, vL Zam y14), (13, vI 0)] []) ((ZaE (Zl0 p0 v9 v12 y14) big (v11, 0)).bind (Sum.elim (fun v19 => (Zog p0 v9 v12 v19).m) (fun z => some (.rt z))))
def Zp0 (p0 : Scm) (v9 : List ByteArray) (v11 : List ByteArray) (v12 : Nat) : PT 0 (Lv (List ByteArray × Nat) (List ByteArray) (List ByteArray)) := vz (eqL v9) <| br (decide ((v12 : Int) < (v9.length : Int))) (lc (mkS [(2, .iptr (Zb0 p0) 0), (5, vL Zam v9), (10, vL Zam v11), (11, vN v12)] []) ((ZoQ p0 v9 v11 v12).m)) (lxe (ZuN p0 v9) v11)
def ZjK (p0 : Scm) (v9 : List ByteArray) : List ByteArray × Nat → Option (Lv (List ByteArray × Nat) (List ByteArray) (List ByteArray)) := fun (v11, v12) => (Zp0 p0 v9 v11 v12).m
def Zjo (p0 : Scm) (v9 : List ByteArray) (v20 : List ByteArray) : PT 0 (Lv (List ByteArray × Bool) (List ByteArray) (List ByteArray)) := vz (eqL v20) <| vz (eqL v9) <| ln (ZwM p0) (v20, decide ((v9.length : Int) < (v20.length : Int)))
def ZiM (p0 : Scm) (v9 : List ByteArray) : PT 0 (Lv (List ByteArray × Bool) (List ByteArray) (List ByteArray)) := lc (mkS [(2, .iptr (Zb0 p0) 0), (5, vL Zam v9), (10, vL Zam v9), (11, vI 0)] []) ((ZaE (ZjK p0 v9) big (v9, 0)).bind (Sum.elim (fun v20 => (Zjo p0 v9 v20).m) (fun z => some (.rt z))))
def Zjx (p0 : Scm) (v9 : List ByteArray) : PT 0 (Lv (List ByteArray × Bool) (List ByteArray) (List ByteArray)) := lc (mkS [(2, .iptr (Zb0 p0) 0), (5, vL Zam v9), (10, vL Zam v9)] []) ((ZiM p0 v9).m)
def Zjg (p0 : Scm) (v9 : List ByteArray) (v10 : Bool) : PT 0 (Lv (List ByteArray × Bool) (List ByteArray) (List ByteArray)) := br v10 (lc (mkS [(2, .iptr (Zb0 p0) 0), (5, vL Zam v9)] []) ((Zjx p0 v9).m)) (lxe (ZwH) v9)
def Zlu (p0 : Scm) : List ByteArray × Bool → Option (Lv (List ByteArray × Bool) (List ByteArray) (List ByteArray)) := fun (v9, v10) => (Zjg p0 v9 v10).m
def ZlR (v21 : List ByteArray) : PT 0 (List ByteArray) := lr E55 (fun _ => []) v21
def Zne (p0 : Scm) (v8 : List ByteArray) : PT 0 (List ByteArray) := lc (mkS [(2, .iptr (Zb0 p0) 0), (5, vL Zam v8), (9, vB true)] []) ((ZaE (Zlu p0) big (v8, true)).bind (Sum.elim (fun v21 => (ZlR v21).m) some))
def ZlG (p0 : Scm) (p1 : List ByteArray) : PT 0 (List ByteArray) := vw (.ads 5 5 9 1) <| vw (.frz 5 [(5, (([] : List ByteArray).map Zam))] []) <| vz (fz ([] : List ByteArray)) <| vw (.fzb 2 [2]) <| lc (mkS [(1, vL Zam p1), (2, .iptr (Zb0 p0) 0), (5, vL Zam ([] : List ByteArray)), (6, vI 0)] []) ((ZaE (Zld p0 p1) big (([] : List ByteArray), 0)).bind (Sum.elim (fun v8 => (Zne p0 v8).m) some))
def Zk1 (p0 : Scm) (p1 : List ByteArray) : PT 0 (List ByteArray) := lc (mkS [(1, vL Zam p1), (2, .ptr (1, 2) 0 0), (5, .e0), (6, vI 0)] [((1, 2), ⟨0, true, 26, 3, [vL Zcx p0.messages, vL ZdO p0.enums, vL Zes p0.services]⟩)]) ((ZlG p0 p1).m)
def Zmg (p0 : Scm) (p1 : List ByteArray) : PT 0 (List ByteArray) := lc (mkS [(1, vL Zam p1), (2, .ptr (1, 2) 0 0), (5, .e0)] [((1, 2), ⟨0, true, 26, 3, [vL Zcx p0.messages, vL ZdO p0.enums, vL Zes p0.services]⟩)]) ((Zk1 p0 p1).m)
def Zbi (p0 : Scm) (p1 : List ByteArray) : Option (List ByteArray) := (Zmg p0 p1).m
set_option maxRecDepth 100000 in
theorem Zsv {C : Cx} (co : CO C 0) (p0 : Scm) (p1 : List ByteArray) : KL Try.prog (lkT tl) 70 C (pa [0, 0, 1, 0, 1, 1] (Zad Try.f55)) [.tmp 4] 0 (ZvE p0 p1) (Zwx p0) E55 (fun _ => []) (Zld p0 p1) := fun (v1, v2) _ hm Q Post hQ hL => Zap co tok tmo 1 (ZpC p0 p1 v1 v2) (lf1 [1, 2, 5, 6]) (lf1 [2, 5]) hQ hm hL fun r g => ⟨fun _ hm hL => sq (bk 1 (sq (ZwT co tok tmo (.fst 0 (.fst 1 (.fst 2 (.fst 3 (.fst 4 (.two 5 9 (.fst 6 (.fst 7 (.fst 8 (.fst 9 (.fst 10 (.fst 11 .nil)))))) (.fst 5 (.fst 6 (.fst 7 (.fst 8 (.fst 10 (.fst 11 .nil)))))))))))) [2] (ZoU p0 p1 v1 v2) (lf1 [1, 2, 5, 6, 8]) hm hL fun r g => fun e3 => fun y4 => fun _ hm hL => ZvK co tok tmo (ZoR p0 p1 v1 v2 y4) (lf1 [1, 2, 5, 6]) nl hQ hm hL (.normal) (Znn p0 p1 v2) (Zey p0 p1 v2) (fun v7 _ hm hL => ZaU co tok tmo (ZpS p0 p1 v2 v7) (lf1 [1, 2, 5, 6]) nl hQ hm hL fun r g => id) fun J2 r g => ⟨fun e5 => fun y6 => J2 y6, J2 v1⟩))), id⟩
set_option maxRecDepth 100000 in
theorem Ztq {C : Cx} (co : CO C 0) (p0 : Scm) (v9 : List ByteArray) (v12 : Nat) (y14 : List ByteArray) : KL Try.prog (lkT tl) 70 C (pa [0, 0, 1, 1, 0, 0, 1, 0, 0, 1, 0, 1, 0, 1, 0, 0, 1, 0, 1, 1, 1] (Zad Try.f55)) [.tmp 4] 0 (ZvP p0 v9 v12 y14) (Zv1 p0 v9 v12) E55 (fun _ => []) (Zl0 p0 v9 v12 y14) := fun (v15, v16) _ hm Q Post hQ hL => ZaU co tok tmo (Zpl p0 v9 v12 y14 v15 v16) (lf1 [2, 5, 10, 11, 12, 13]) (lf1 [2, 5, 10, 11]) hQ hm hL fun r g => ⟨fun e17 => fun y18 => id, id⟩
set_option maxRecDepth 100000 in
theorem Zsc {C : Cx} (co : CO C 0) (p0 : Scm) (v9 : List ByteArray) : KL Try.prog (lkT tl) 70 C (pa [0, 0, 1, 0, 1, 0, 1, 0, 0, 1, 0, 1, 1, 1] (Zad Try.f55)) [.tmp 4] 0 (ZvM p0 v9) (ZuN p0 v9) E55 (fun _ => []) (ZjK p0 v9) := fun (v11, v12) _ hm Q Post hQ hL => Zap co tok tmo 1 (Zp0 p0 v9 v11 v12) (lf1 [2, 5, 10, 11]) (lf1 [2, 5, 10]) hQ hm hL fun r g => ⟨fun _ hm hL => sq (bk 5 (Zap co tok tmo 2 (ZoQ p0 v9 v11 v12) (lf1 [2, 5, 10, 11, 12, 13]) nl hQ hm hL fun r g => fun e13 => fun y14 => fun _ hm hL => bk 6 (lo (lpL (Ztq co p0 v9 v12 y14) hQ hm hL (fun v19 hm => ZaU co tok tmo (Zog p0 v9 v12 v19) (lf1 [2, 5, 10, 11]) nl hQ hm hL fun r g => id))))), id⟩
set_option maxRecDepth 100000 in
theorem ZtN {C : Cx} (co : CO C 0) (p0 : Scm) : KL Try.prog (lkT tl) 70 C (pa [0, 0, 1, 0, 1, 1, 1] (Zad Try.f55)) [.tmp 4] 0 (ZwM p0) (ZwH) E55 (fun _ => []) (Zlu p0) := fun (v9, v10) _ hm Q Post hQ hL => Zap co tok tmo 1 (Zjg p0 v9 v10) (lf1 [2, 5]) (lf1 [5]) hQ hm hL fun r g => ⟨fun _ hm hL => bk 3 (Zap co tok tmo 1 (Zjx p0 v9) (lf1 [2, 5, 10]) nl hQ hm hL fun r g => fun _ hm hL => sq (Zap co tok tmo 1 (ZiM p0 v9) (lf1 [2, 5, 10, 11]) nl hQ hm hL fun r g => fun _ hm hL => bk 4 (lo (lpL (Zsc co p0 v9) hQ hm hL (fun v20 hm => ZaU co tok tmo (Zjo p0 v9 v20) (lf1 [2, 5, 9]) nl hQ hm hL fun r g => id))))), id⟩
set_option maxRecDepth 100000 in
theorem Zzs (p0 : Scm) (p1 : List ByteArray) : KC Try.prog 55 [.agg ((Zb0 p0).map .d), vL Zam p1] (Zbi p0 p1) E55 := kc1 Try.func55 Try.ntmps55 tok [.tmp 4] fun C co y hm Post hL => Zap co tok tmo 2 (Zmg p0 p1) (lf2 [1, 2, 5] [((1, 2), false)]) nl (fun _ h => h) hm hL fun r g => fun _ hm hL => sq (Zap co tok tmo 1 (Zk1 p0 p1) (lf2 [1, 2, 5, 6] [((1, 2), false)]) nl (fun _ h => h) hm hL fun r g => fun _ hm hL => bk 0 (Zg6 co (ZlG p0 p1) (lf1 [1, 2, 5, 6]) hm hL fun r g => fun _ hm hL => lo (lpF (Zsv co p0 p1) (fun _ h => h) hm hL (fun v8 hm => sq (Zap co tok tmo 1 (Zne p0 v8) (lf1 [2, 5, 9]) nl (fun _ h => h) hm hL fun r g => fun _ hm hL => bk 2 (lo (lpF (ZtN co p0) (fun _ h => h) hm hL (fun v21 hm => Zde co tok tmo (ZlR v21) hm hL fun r g => id))))))))
abbrev E49 : Bool → AV := fun y => vB y
def ZwK (p0 : Scm) (p1 : ByteArray) (p2 : ByteArray) : PT 0 (Bool) := vw .go <| vw .go <| cl (Zx2 p0 p1) fun y1 => cl (Zzs p0 y1) fun y2 => cl (ZxM y2 p2) fun y3 => lr E49 (fun _ => []) y3
def ZaT (p0 : Scm) (p1 : ByteArray) (p2 : ByteArray) : Option (Bool) := (ZwK p0 p1 p2).m
end Go.Proofs.Ythhipejbnbochaa
namespace Go.Proofs.Ythhipejbnbochaa
set_option linter.all false
open Go Go.Eng
abbrev E21 : Int → AV := fun y => vI y
def ZrI (p0 : List (List ByteArray)) (p1 : ByteArray) : Int × Nat → St := fun (v1, v2) => mkS [(0, vL Zar p0), (1, vS p1), (5, vI v1), (6, vN v2)] []
def ZvA : Int → Nat × St := fun v5 => (0, mkS [(5, vI v5)] [])
def Zmy (p0 : List (List ByteArray)) (p1 : ByteArray) (v1 : Int) (v2 : Nat) : PT 0 (Lv (Int × Nat) (Int) (Int)) := vz (eqL p0) <| br (decide ((v2 : Int) < (p0.length : Int))) (ix p0 v2 fun e3 => cl (ZxM e3 p1) fun y4 => br y4 (br (decide ((0 : Int) ≤ v1)) (lrt E21 (fun _ => []) (-2)) (vs (wa v2 1) <| ln (ZrI p0 p1) ((v2 : Int), v2 + 1))) (vs (wa v2 1) <| ln (ZrI p0 p1) (v1, v2 + 1))) (lxe (ZvA) v1)
def ZjW (p0 : List (List ByteArray)) (p1 : ByteArray) : Int × Nat → Option (Lv (Int × Nat) (Int) (Int)) := fun (v1, v2) => (Zmy p0 p1 v1 v2).m
def Zsg (v5 : Int) : PT 0 (Int) := lr E21 (fun _ => []) v5
def ZrB (p0 : List (List ByteArray)) (p1 : ByteArray) : PT 0 (Int) := lc (mkS [(0, vL Zar p0), (1, vS p1), (5, vI (-1)), (6, vI 0)] []) ((ZaE (ZjW p0 p1) big ((-1), 0)).bind (Sum.elim (fun v5 => (Zsg v5).m) some))
def ZsR (p0 : List (List ByteArray)) (p1 : ByteArray) : PT 0 (Int) := lc (mkS [(0, vL Zar p0), (1, vS p1), (5, vI (-1))] []) ((ZrB p0 p1).m)
def ZaH (p0 : List (List ByteArray)) (p1 : ByteArray) : Option (Int) := (ZsR p0 p1).m
set_option maxRecDepth 100000 in
theorem Zr2 {C : Cx} (co : CO C 0) (p0 : List (List ByteArray)) (p1 : ByteArray) : KL Try.prog (lkT tl) 23 C (pa [0, 0, 1, 0, 1, 1] (Zad Try.f21)) [.tmp 4] 0 (ZrI p0 p1) (ZvA) E21 (fun _ => []) (ZjW p0 p1) := fun (v1, v2) _ hm Q Post hQ hL => ZaU co tok tmo (Zmy p0 p1 v1 v2) (lf1 [0, 1, 5, 6]) (lf1 [5]) hQ hm hL fun r g => ⟨fun e3 => fun y4 => ⟨⟨id, id⟩, id⟩, id⟩
set_option maxRecDepth 100000 in
theorem ZxX (p0 : List (List ByteArray)) (p1 : ByteArray) : KC Try.prog 21 [vL Zar p0, vS p1] (ZaH p0 p1) E21 := kc1 Try.func21 Try.ntmps21 tok [.tmp 4] fun C co y hm Post hL => Zap co tok tmo 2 (ZsR p0 p1) (lf1 [0, 1, 5]) nl (fun _ h => h) hm hL fun r g => fun _ hm hL => sq (Zap co tok tmo 1 (ZrB p0 p1) (lf1 [0, 1, 5, 6]) nl (fun _ h => h) hm hL fun r g => fun _ hm hL => bk 0 (lo (lpF (Zr2 co p0 p1) (fun _ h => h) hm hL (fun v5 hm => Zde co tok tmo (Zsg v5) hm hL fun r g => id))))
abbrev E6 : Bool → AV := fun y => vB y
def ZxF (p0 : Scm) (y2 : List (List ByteArray)) : Nat → St := fun v3 => mkS [(1, .iptr (Zb0 p0) 0), (3, vL Zar y2), (4, vN v3)] []
def ZyZ : Unit → Nat × St := fun _ => (0, mkS [] [])
def ZyN (p0 : Scm) (y2 : List (List ByteArray)) (v3 : Nat) (y5 : Msg × Int) (y6 : Int) : Nat → St := fun v7 => mkS [(1, .iptr (Zb0 p0) 0), (3, vL Zar y2), (4, vN v3), (5, .ptr (1, 5) 0 0), (7, vI y6), (8, vN v7)] [((1, 5), ⟨0, true, 42, 5, [vS y5.1.name, vL ZdK y5.1.fields, vL Zi0 y5.1.reserved, vL Zam y5.1.gone, vL eNt y5.1.notes]⟩)]
def Zx9 (p0 : Scm) (y2 : List (List ByteArray)) (v3 : Nat) (y5 : Msg × Int) (y6 : Int) : Unit → Nat × St := fun _ => (2, mkS [(1, .iptr (Zb0 p0) 0), (3, vL Zar y2), (4, vN v3), (5, .ptr (1, 5) 0 0), (7, vI y6)] [((1, 5), ⟨0, true, 42, 5, [vS y5.1.name, vL ZdK y5.1.fields, vL Zi0 y5.1.reserved, vL Zam y5.1.gone, vL eNt y5.1.notes]⟩)])
def ZwW (p0 : Scm) (y2 : List (List ByteArray)) (v3 : Nat) (y5 : Msg × Int) (y6 : Int) (v7 : Nat) : PT 0 (Lv (Nat) (Unit) (Bool)) := vw .go <| vz (eqL y5.1.fields) <| br (decide ((v7 : Int) < (y5.1.fields.length : Int))) (vw .go <| ix y5.1.fields v7 fun e8 => cl (Zyo p0 e8) fun y9 => vw .go <| ixg y9.2 y5.1.fields (v7 : Int) fun e10 => clg (y9.2 && decide (e10.type.kind = (10 : Int))) (ZxX y2 y9.1) fun y11 => clg ((y9.2 && decide (e10.type.kind = (10 : Int))) && (!(decide (y11 < (0 : Int))))) (ZxX y2 y9.1) fun y12 => br ((y9.2 && decide (e10.type.kind = (10 : Int))) && (decide (y11 < (0 : Int)) || decide (y6 < y12))) (lrt E6 (fun _ => []) false) (vs (wa v7 1) <| ln (ZyN p0 y2 v3 y5 y6) (v7 + 1))) (lxe (Zx9 p0 y2 v3 y5 y6) ())
def Zvf (p0 : Scm) (y2 : List (List ByteArray)) (v3 : Nat) (y5 : Msg × Int) (y6 : Int) : Nat → Option (Lv (Nat) (Unit) (Bool)) := fun v7 => (ZwW p0 y2 v3 y5 y6 v7).m
def Zyq (p0 : Scm) (y2 : List (List ByteArray)) (v3 : Nat) (y5 : Msg × Int) (y6 : Int) : Nat → St := fun v13 => mkS [(1, .iptr (Zb0 p0) 0), (3, vL Zar y2), (4, vN v3), (5, .ptr (1, 5) 0 0), (7, vI y6), (11, vN v13)] [((1, 5), ⟨0, true, 42, 5, [vS y5.1.name, vL ZdK y5.1.fields, vL Zi0 y5.1.reserved, vL Zam y5.1.gone, vL eNt y5.1.notes]⟩)]
def ZyH (p0 : Scm) (y2 : List (List ByteArray)) (v3 : Nat) : Unit → Nat × St := fun _ => (4, mkS [(1, .iptr (Zb0 p0) 0), (3, vL Zar y2), (4, vN v3)] [])
def Zw9 (p0 : Scm) (y2 : List (List ByteArray)) (v3 : Nat) (y5 : Msg × Int) (y6 : Int) (v13 : Nat) : PT 0 (Lv (Nat) (Unit) (Bool)) := ixi y2 y6 fun e14 => vz (eqL e14) <| br (decide ((v13 : Int) < (e14.length : Int))) (vw .go <| ixi y2 y6 fun e15 => ix e15 v13 fun e16 => cl (Zsw p0 y5.1.name e16) fun y17 => br (!decide (y17.2 = (0 : Int))) (lrt E6 (fun _ => []) false) (vs (wa v13 1) <| ln (Zyq p0 y2 v3 y5 y6) (v13 + 1))) (lxe (ZyH p0 y2 v3) ())
def ZuS (p0 : Scm) (y2 : List (List ByteArray)) (v3 : Nat) (y5 : Msg × Int) (y6 : Int) : Nat → Option (Lv (Nat) (Unit) (Bool)) := fun v13 => (Zw9 p0 y2 v3 y5 y6 v13).m
def ZuU (p0 : Scm) (y2 : List (List ByteArray)) (v3 : Nat) : PT 0 (Lv (Nat) (Unit) (Bool)) := vs (wa v3 1) <| ln (ZxF p0 y2) (v3 + 1)
def Zwa (p0 : Scm) (y2 : List (List ByteArray)) (v3 : Nat) (y5 : Msg × Int) (y6 : Int) : PT 0 (Lv (Nat) (Unit) (Bool)) := lc (mkS [(1, .iptr (Zb0 p0) 0), (3, vL Zar y2), (4, vN v3), (5, .ptr (1, 5) 0 0), (7, vI y6), (11, vI 0)] [((1, 5), ⟨0, true, 42, 5, [vS y5.1.name, vL ZdK y5.1.fields, vL Zi0 y5.1.reserved, vL Zam y5.1.gone, vL eNt y5.1.notes]⟩)]) ((ZaE (ZuS p0 y2 v3 y5 y6) big 0).bind (Sum.elim (fun _ => (ZuU p0 y2 v3).m) (fun z => some (.rt z))))
def Zuy (p0 : Scm) (y2 : List (List ByteArray)) (v3 : Nat) (y5 : Msg × Int) (y6 : Int) : PT 0 (Lv (Nat) (Unit) (Bool)) := lc (mkS [(1, .iptr (Zb0 p0) 0), (3, vL Zar y2), (4, vN v3), (5, .ptr (1, 5) 0 0), (7, vI y6), (8, vI 0)] [((1, 5), ⟨0, true, 42, 5, [vS y5.1.name, vL ZdK y5.1.fields, vL Zi0 y5.1.reserved, vL Zam y5.1.gone, vL eNt y5.1.notes]⟩)]) ((ZaE (Zvf p0 y2 v3 y5 y6) big 0).bind (Sum.elim (fun _ => (Zwa p0 y2 v3 y5 y6).m) (fun z => some (.rt z))))
def Zu3 (p0 : Scm) (y2 : List (List ByteArray)) (v3 : Nat) : PT 0 (Lv (Nat) (Unit) (Bool)) := vs (wa v3 1) <| ln (ZxF p0 y2) (v3 + 1)
def ZvS (p0 : Scm) (y2 : List (List ByteArray)) (v3 : Nat) (y5 : Msg × Int) : PT 0 (Lv (Nat) (Unit) (Bool)) := vw .go <| cl (ZxX y2 y5.1.name) fun y6 => br (!decide (y5.2 = (v3 : Int))) (lxc 1 (mkS [(1, .iptr (Zb0 p0) 0), (3, vL Zar y2), (4, vN v3)] []) ((Zu3 p0 y2 v3).m)) (br (decide (y6 < (0 : Int))) (lrt E6 (fun _ => []) false) (lc (mkS [(1, .iptr (Zb0 p0) 0), (3, vL Zar y2), (4, vN v3), (5, .ptr (1, 5) 0 0), (7, vI y6)] [((1, 5), ⟨0, true, 42, 5, [vS y5.1.name, vL ZdK y5.1.fields, vL Zi0 y5.1.reserved, vL Zam y5.1.gone, vL eNt y5.1.notes]⟩)]) ((Zuy p0 y2 v3 y5 y6).m)))
def Zvm (p0 : Scm) (y2 : List (List ByteArray)) (v3 : Nat) : PT 0 (Lv (Nat) (Unit) (Bool)) := ix p0.messages v3 fun e4 => du (cl (Zw1 p0 e4.name) fun y5 => vw .go <| lc (mkS [(1, .iptr (Zb0 p0) 0), (3, vL Zar y2), (4, vN v3), (5, .ptr (1, 5) 0 0), (6, vI y5.2)] [((1, 5), ⟨0, true, 42, 5, [vS y5.1.name, vL ZdK y5.1.fields, vL Zi0 y5.1.reserved, vL Zam y5.1.gone, vL eNt y5.1.notes]⟩)]) ((ZvS p0 y2 v3 y5).m))
def ZvF (p0 : Scm) (y2 : List (List ByteArray)) (v3 : Nat) : PT 0 (Lv (Nat) (Unit) (Bool)) := vz (eqL p0.messages) <| br (decide ((v3 : Int) < (p0.messages.length : Int))) (lc (mkS [(1, .iptr (Zb0 p0) 0), (3, vL Zar y2), (4, vN v3)] []) ((Zvm p0 y2 v3).m)) (lxe (ZyZ) ())
def Zud (p0 : Scm) (y2 : List (List ByteArray)) : Nat → Option (Lv (Nat) (Unit) (Bool)) := fun v3 => (ZvF p0 y2 v3).m
def Ztm : PT 0 (Bool) := cl (ZzA) fun y18 => lr E6 (fun _ => []) y18
def ZsE (p0 : Scm) (y2 : List (List ByteArray)) : PT 0 (Bool) := vw (.fzb 1 [1]) <| lc (mkS [(1, .iptr (Zb0 p0) 0), (3, vL Zar y2), (4, vI 0)] []) ((ZaE (Zud p0 y2) big 0).bind (Sum.elim (fun _ => (Ztm).m) some))
def ZrQ (p0 : Scm) (y2 : List (List ByteArray)) : PT 0 (Bool) := lc (mkS [(1, .ptr (1, 1) 0 0), (3, vL Zar y2), (4, vI 0)] [((1, 1), ⟨0, true, 26, 3, [vL Zcx p0.messages, vL ZdO p0.enums, vL Zes p0.services]⟩)]) ((ZsE p0 y2).m)
def Zrb (p0 : Scm) : PT 0 (Bool) := vw .go <| cl (ZzB p0) fun y1 => br (!y1) (lr E6 (fun _ => []) true) (vw .go <| cl (ZyM p0) fun y2 => lc (mkS [(1, .ptr (1, 1) 0 0), (3, vL Zar y2)] [((1, 1), ⟨0, true, 26, 3, [vL Zcx p0.messages, vL ZdO p0.enums, vL Zes p0.services]⟩)]) ((ZrQ p0 y2).m))
def Zas (p0 : Scm) : Option (Bool) := (Zrb p0).m
set_option maxRecDepth 100000 in
theorem ZuZ {C : Cx} (co : CO C 0) (p0 : Scm) (y2 : List (List ByteArray)) (v3 : Nat) (y5 : Msg × Int) (y6 : Int) : KL Try.prog (lkT tl) 113 C (pa [0, 0, 1, 0, 1, 1, 1, 1, 0, 0, 1, 0, 0, 1, 0, 1, 1, 1] (Zad Try.f6)) [.tmp 2] 0 (ZyN p0 y2 v3 y5 y6) (Zx9 p0 y2 v3 y5 y6) E6 (fun _ => []) (Zvf p0 y2 v3 y5 y6) := fun v7 _ hm Q Post hQ hL => ZaU co tok tmo (ZwW p0 y2 v3 y5 y6 v7) (lf2 [1, 3, 4, 5, 7, 8] [((1, 5), false)]) (lf2 [1, 3, 4, 5, 7] [((1, 5), false)]) hQ hm hL fun r g => ⟨fun e8 => fun y9 => fun e10 => fun y11 => fun y12 => ⟨id, id⟩, id⟩
set_option maxRecDepth 100000 in
theorem Zvy {C : Cx} (co : CO C 0) (p0 : Scm) (y2 : List (List ByteArray)) (v3 : Nat) (y5 : Msg × Int) (y6 : Int) : KL Try.prog (lkT tl) 113 C (pa [0, 0, 1, 1, 1, 1, 1, 1, 0, 0, 1, 0, 0, 1, 0, 1, 1, 1] (Zad Try.f6)) [.tmp 2] 0 (Zyq p0 y2 v3 y5 y6) (ZyH p0 y2 v3) E6 (fun _ => []) (ZuS p0 y2 v3 y5 y6) := fun v13 _ hm Q Post hQ hL => ZaU co tok tmo (Zw9 p0 y2 v3 y5 y6 v13) (lf2 [1, 3, 4, 5, 7, 11] [((1, 5), false)]) (lf1 [1, 3, 4]) hQ hm hL fun r g => fun e14 => ⟨fun e15 => fun e16 => fun y17 => ⟨id, id⟩, id⟩
set_option maxRecDepth 100000 in
theorem Zvh {C : Cx} (co : CO C 0) (p0 : Scm) (y2 : List (List ByteArray)) : KL Try.prog (lkT tl) 113 C (pa [0, 0, 1, 0, 1, 1, 1] (Zad Try.f6)) [.tmp 2] 0 (ZxF p0 y2) (ZyZ) E6 (fun _ => []) (Zud p0 y2) := fun v3 _ hm Q Post hQ hL => Zap co tok tmo 1 (ZvF p0 y2 v3) (lf1 [1, 3, 4]) nl hQ hm hL fun r g => ⟨fun _ hm hL => sq (bk 1 (sq (ZwT co tok tmo (.fst 0 (.fst 1 (.fst 2 (.fst 3 (.fst 4 (.fst 5 (.fst 6 (.two 7 11 (.fst 8 (.fst 9 (.fst 10 (.fst 11 (.fst 12 (.fst 13 .nil)))))) (.fst 7 (.fst 8 (.fst 9 (.fst 10 (.fst 12 (.fst 13 .nil)))))))))))))) [1] (Zvm p0 y2 v3) (lf2 [1, 3, 4, 5, 6] [((1, 5), false)]) hm hL fun r g => fun e4 => fun y5 => fun _ hm hL => Zap co tok tmo 3 (ZvS p0 y2 v3 y5) (lf2 [1, 3, 4, 5, 7] [((1, 5), false)]) (lf1 [1, 3, 4]) hQ hm hL fun r g => fun y6 => ⟨fun _ hm hL => ZaU co tok tmo (Zu3 p0 y2 v3) (lf1 [1, 3, 4]) nl hQ hm hL fun r g => id, ⟨id, fun _ hm hL => sq (Zap co tok tmo 1 (Zuy p0 y2 v3 y5 y6) (lf2 [1, 3, 4, 5, 7, 8] [((1, 5), false)]) nl hQ hm hL fun r g => fun _ hm hL => bk 2 (lo (lpL (ZuZ co p0 y2 v3 y5 y6) hQ hm hL (fun _ hm => Zap co tok tmo 1 (Zwa p0 y2 v3 y5 y6) (lf2 [1, 3, 4, 5, 7, 11] [((1, 5), false)]) nl hQ hm hL fun r g => fun _ hm hL => bk 4 (lo (lpL (Zvy co p0 y2 v3 y5 y6) hQ hm hL (fun _ hm => ZaU co tok tmo (ZuU p0 y2 v3) (lf1 [1, 3, 4]) nl hQ hm hL fun r g => id)))))))⟩⟩))), id⟩
set_option maxRecDepth 100000 in
theorem K_6 (p0 : Scm) : KC Try.prog 6 [.agg ((Zb0 p0).map .d)] (Zas p0) E6 := kc1 Try.func6 Try.ntmps6 tok [.tmp 2] fun C co y hm Post hL => Zap co tok tmo 3 (Zrb p0) (lf2 [1, 3] [((1, 1), false)]) nl (fun _ h => h) hm hL fun r g => fun y1 => ⟨id, fun y2 => fun _ hm hL => sq (Zap co tok tmo 1 (ZrQ p0 y2) (lf2 [1, 3, 4] [((1, 1), false)]) nl (fun _ h => h) hm hL fun r g => fun _ hm hL => bk 0 (Zg6 co (ZsE p0 y2) (lf1 [1, 3, 4]) hm hL fun r g => fun _ hm hL => lo (lpF (Zvh co p0 y2) (fun _ h => h) hm hL (fun _ hm => Zde co tok tmo (Ztm) hm hL fun r g => fun y18 => id))))⟩
end Go.Proofs.Ythhipejbnbochaa
namespace Go.Proofs.Ythhipejbnbochaa
set_option linter.all false
open Go Go.Eng Go.ChangeShapes Go.WideShapes Go.ChangeAt Go.RowKit
theorem Zok {H : Type} (b : List UInt8) : Rows.uptoBulk (DataW.lit (H := H) (.string b)) = b.length + 1 := by simp only [Rows.uptoBulk]
theorem ZjG {H : Type} (a b : List (DataW H)) : Rows.uptoBulk (.slice a b) = Rows.uptoBulkAll a + Rows.uptoBulkAll b + 1 := by simp only [Rows.uptoBulk]
theorem ZpW {H : Type} (a : List (DataW H)) : Rows.uptoBulk (.agg a) = Rows.uptoBulkAll a + 1 := by simp only [Rows.uptoBulk]
def ZgO (W : World) (ds : List D) (cs : List Value) (o : Nat) : Prop := ∀ (i : Nat) (d : D), ds[i]? = some d → ∃ c, cs[o + i]? = some c ∧ RepD W (· < W.heap.size) d c
def Zil (W : World) (ds : List D) (cs : List Value) : Prop := ds.length = cs.length ∧ ZgO W ds cs 0
theorem ZgO.app {W : World} {ds es : List D} {cs : List Value} {o : Nat} (h : ZgO W ds cs o) (k : ZgO W es cs (o + ds.length)) : ZgO W (ds ++ es) cs o := fun i d hi => by
 rcases Yv i ds.length with hl | hl
 ·rw [Yi hl] at hi; exact h i d hi
 ·rw [Yp hl] at hi
  obtain ⟨c, h1, h2⟩ := k _ d hi
  grind
theorem ZgO.nil {W : World} {cs : List Value} {o : Nat} : ZgO W [] cs o := fun i d h => by simp at h
theorem Zil.at {W : World} {ds : List D} {cs : List Value} {o k : Nat} (h : Zil W ds ((cs.drop o).take k)) : ZgO W ds cs o := fun i d hi => by
 obtain ⟨c, h1, h2⟩ := h.2 i d hi
 grind
mutual
def bk : D → Nat
 | .int _ _ => 0
 | .bool _ => 0
 | .str s => s.size
 | .list es => ZsF es
 | .map _ es => ZsF es
def bkL : List D → Nat
 | [] => 0
 | d :: l => bk d + bkL l
def ZsF : List (List D) → Nat
 | [] => 0
 | e :: l => bkL e + 1 + ZsF l
end
theorem Zna : ∀ a b : List D, bkL (a ++ b) = bkL a + bkL b
 | [], b => by rw [Yal, bkL, Yx]
 | d :: a, b => by rw [Ya1, bkL, bkL, Zna a b, Yw]
theorem ZlT (d : D) : bkL [d] = bk d := by rw [bkL, bkL, Yad]
theorem ZqO {α : Type} {e : α → List D} : ∀ l : List α, l.length ≤ ZsF (l.map e)
 | [] => Yaj _
 | x :: l => by have := ZqO (e := e) l; rw [YR, ZsF, Y6]; omega
section
variable {H : Type} (enc : TypeId × Value → H) (P : Program) (W : World)
def RdN {α : Type} (n : Nat) (t : TypeId) (e : α → List D) : Prop :=
 ∀ cs x, DataW.trod enc P W 0 (fun _ => true) true n t cs = some x → ∃ v : α, Zil W (e v) cs ∧ bkL (e v) + 1 ≤ Rows.uptoBulk x.1
end
section
variable {H : Type} {enc : TypeId × Value → H} {P : Program} {W : World} {n : Nat} {t : TypeId}
theorem Zgb (d : DataW H) : 1 ≤ Rows.uptoBulk d := by cases d <;> (try (rename_i l; cases l)) <;> simp [Rows.uptoBulk]
theorem ZcY {d : D} {c : Value} (h : RepD W (· < W.heap.size) d c) : Zil W [d] [c] := ⟨rfl, fun i d' hi => by
 cases i with
 | zero => cases hi; exact ⟨c, rfl, h⟩
 | succ i => simp at hi⟩
theorem Zcc {k : IntKind} (ht : P.underlying t = some (.int k)) : RdN enc P W n t (fun v : Int => [.int k v]) := fun cs x hx => by
 obtain ⟨m, rfl, rfl, _⟩ := DataW.trod_int ht hx
 exact ⟨m, ZcY (.int _ _), Zgb _⟩
theorem ZkU (ht : P.underlying t = some .bool) : RdN enc P W n t (fun v : Bool => [.bool v]) := fun cs x hx => by
 obtain ⟨m, rfl, rfl⟩ := DataW.trod_bool ht hx
 exact ⟨m, ZcY (.bool _), Zgb _⟩
theorem Zcd (ht : P.underlying t = some .string) : RdN enc P W n t (fun v : ByteArray => [.str v]) := fun cs x hx => by
 obtain ⟨m, rfl, rfl, _⟩ := DataW.trod_string ht hx
 refine ⟨m, ZcY (.str _), ?_⟩
 rw [Zok, ZlT]
 exact Yg _
theorem ZqH {α : Type} {e : α → List D} : ∀ (l : List α) (xs : List (DataW H × List MemPlace)), l.length = xs.length → (∀ (i : Nat) (v : α), l[i]? = some v → ∃ y : DataW H × List MemPlace, xs[i]? = some y ∧ bkL (e v) + 1 ≤ Rows.uptoBulk y.1) → ZsF (l.map e) ≤ Rows.uptoBulkAll (xs.map (·.1))
 | [], _, _, _ => Yaj _
 | x :: l, [], h, _ => by cases h
 | x :: l, y :: xs, h, k => by
  have := ZqH l xs (Ybb h) (fun i v hi => k (i + 1) v hi)
  obtain ⟨y', h1, h2⟩ := k 0 x rfl
  cases h1
  rw [YR, YR, ZsF]
  simp only [Rows.uptoBulkAll]
  omega
theorem ZlA {α : Type} {Q : Nat → α → Prop} : ∀ (len : Nat), (∀ i, i < len → ∃ v, Q i v) → ∃ l : List α, l.length = len ∧ ∀ i v, l[i]? = some v → Q i v
 | 0, _ => ⟨[], rfl, fun i v h => by simp at h⟩
 | len + 1, h => by
  obtain ⟨l, h1, h2⟩ := ZlA len (fun i hi => h i (by omega))
  obtain ⟨v, hv⟩ := h len (by omega)
  refine ⟨l ++ [v], by simp [h1], fun i w hi => ?_⟩
  grind
theorem ZaJ {α : Type} {e : TypeId} {enc' : α → List D} {sz : Nat} (ht : P.underlying t = some (.slice e)) (hsz : P.cellsOf e = sz) (hs0 : sz ≠ 0) (hl : ∀ x, (enc' x).length = sz) (h : ∀ m, m < n → RdN enc P W m e enc') :
  RdN enc P W n t (fun l : List α => [.list (l.map enc')]) := fun cs x hx => by
 rcases DataW.trod_slice ht hx with ⟨rfl, rfl⟩ | ⟨a, len, cap, elems, rest, m, rfl, rfl, rfl, hb, hlc, hcm, hel, hi, _, _⟩
 ·exact ⟨[], ZcY .nil, Zgb _⟩
 ·have each : ∀ i, i < len → ∃ v : α, ∃ y cs', elems[i]? = some y ∧ W.cells? 0 (a.add (i * sz)) sz = some cs' ∧ Zil W (enc' v) cs' ∧ bkL (enc' v) + 1 ≤ Rows.uptoBulk y.1 := fun i hlt => by
   have h1 := hi i hlt
   rw [Yc (by omega), hsz] at h1
   obtain ⟨cs', h2, h3⟩ := Ybz.1 h1
   obtain ⟨v, h4, h5⟩ := h m (by omega) cs' _ h3
   exact ⟨v, _, cs', Yc (by omega), h2, h4, h5⟩
  obtain ⟨l, hll, hlq⟩ := ZlA len each
  have cell : ∀ (i j : Nat) (e' : List D) (x : D), (l.map enc')[i]? = some e' → e'[j]? = some x → ∃ c, W.cell? (a.add (i * sz + j)) = some c ∧ RepD W (· < W.heap.size) x c := fun i j e' x hi' hj => by
   rw [Ys] at hi'
   cases hv : l[i]? with
   | none => rw [hv] at hi'; cases hi'
   | some v =>
    rw [hv] at hi'
    cases hi'
    obtain ⟨y, cs', g1, g2, g3, g4⟩ := hlq i v hv
    obtain ⟨c, g5, g6⟩ := g3.2 j x hj
    rw [Yx] at g5
    obtain ⟨_, g7, g8⟩ := World.cells?_some g2
    have hjl : j < sz := by
     rw [← hl v]
     rcases Yv j (enc' v).length with h | h
     ·exact h
     ·rw [Yz h] at hj; cases hj
    refine ⟨c, ?_, g6⟩
    rw [← Go.Eng.add_add, g8 j hjl, g5]
  refine ⟨l, ZcY ?_, ?_⟩
  ·have hlen : (l.map enc').length = len := by simp [hll]
   have := RepD.list (w := W) (S := (· < W.heap.size)) (l.map enc') a sz cap (fun i j => (W.cell? (a.add (i * sz + j))).getD undef) (fun hne => by
     have h0 : 0 < len := by
      rcases Ybm len with h | h
      ·exact absurd (YD (hlen.trans h)) hne
      ·exact h
     obtain ⟨v, y, cs', _, g2, _⟩ := each 0 h0
     have := World.cells?_block g2 (by omega)
     rw [Yae] at this
     rw [← Go.Eng.block_add a 0]; exact this)
    (by rw [hlen]; exact hlc) (fun e' he => by obtain ⟨y, _, rfl⟩ := Yq.1 he; exact hl y)
    (fun i j e' x hi' hj => by obtain ⟨c, g1, _⟩ := cell i j e' x hi' hj; rw [g1]; rfl)
    (fun i j e' x hi' hj => by obtain ⟨c, g1, g2⟩ := cell i j e' x hi' hj; rw [g1]; exact g2)
   rw [hlen] at this
   exact this
  ·rw [ZjG, ZlT, bk]
   have := ZqH (e := enc') l elems (by omega) (fun i v hv => by
    obtain ⟨y, cs', g1, g2, g3, g4⟩ := hlq i v hv
    exact ⟨y, g1, g4⟩)
   omega
def FB (xs : List (DataW H × List MemPlace)) (i : Nat) : Nat := Rows.uptoBulkAll ((xs.drop i).map (·.1))
theorem Zax {xs : List (DataW H × List MemPlace)} {i : Nat} {a b : List D} (h : bkL a + 1 + FB xs (i + 1) ≤ FB xs i) (k : bkL b ≤ FB xs (i + 1)) : bkL (a ++ b) ≤ FB xs i := by
 rw [Zna]; omega
theorem Zb6 {xs : List (DataW H × List MemPlace)} {i : Nat} {a : List D} (h : bkL a + 1 + FB xs (i + 1) ≤ FB xs i) : bkL a ≤ FB xs i := by omega
theorem Zcb {xs : List (DataW H × List MemPlace)} {a : List D} (h : bkL a ≤ FB xs 0) : bkL a + 1 ≤ Rows.uptoBulk (.agg (xs.map (·.1))) := by
 rw [ZpW]; exact Nat.succ_le_succ h
theorem Zoo {α : Type} {e : α → List D} {m i : Nat} {t' : TypeId} {piece : List Value} {xs : List (DataW H × List MemPlace)} (h : RdN enc P W m t' e) (hf : DataW.trod enc P W 0 (fun _ => true) true m t' piece = xs[i]?) (hi : i < xs.length) :
  ∃ v, Zil W (e v) piece ∧ bkL (e v) + 1 + FB xs (i + 1) ≤ FB xs i := by
 rw [Yc hi] at hf
 obtain ⟨v, h1, h2⟩ := h _ _ hf
 refine ⟨v, h1, ?_⟩
 unfold FB
 rw [YW hi, YR]
 simp only [Rows.uptoBulkAll]
 omega
theorem rf {α : Type} {e : α → List D} {m i k : Nat} {t' : TypeId} {piece : List Value} {xs : List (DataW H × List MemPlace)} (h : RdN enc P W m t' e) (hf : DataW.trod enc P W 0 (fun _ => true) true m t' piece = xs[i]?) (hx : xs.length = k) (hi : Nat.blt i k = true := by kernel_rfl) :
  ∃ v, Zil W (e v) piece ∧ bkL (e v) + 1 + FB xs (i + 1) ≤ FB xs i := Zoo h hf (by rw [hx]; exact Yf hi)
theorem Zmm {α : Type} {e e' : α → List D} (he : ∀ x, e x = e' x) (h : RdN enc P W n t e') : RdN enc P W n t e := fun cs x hx => by
 obtain ⟨v, h1, h2⟩ := h cs x hx
 grind
theorem Zsj {α : Type} {e : α → List D} {fs : Array Field} {r : Reach} {base : Nat} {v : Value} {d : DataW H} {p : List MemPlace} (rd : ∀ n, RdN enc P W n t e) (ht : P.underlying t = some (.struct fs)) (hv : Value.okWide P W r base t v)
  (h : DataW.Trod enc P W 0 (fun _ => true) true t v d p) : ∃ x : α, (∀ m l, RepA W (· < W.heap.size) (fun _ => ⟨0, false, 0, 0, []⟩) m l (.agg ((e x).map .d)) v) ∧ bkL (e x) + 1 ≤ Rows.uptoBulk d := by
 obtain ⟨cs, rfl, _⟩ := okWide_struct ht hv
 obtain ⟨n, hn⟩ := h
 obtain ⟨x, h1, h2⟩ := rd n _ _ hn
 have hl : (e x).length = cs.size := by rw [h1.1]; simp [Value.cells]
 have key : ∀ (i : Nat) (c : Value) , cs[i]? = some c → ∃ d, (e x)[i]? = some d ∧ RepD W (· < W.heap.size) d c := fun i c hc => by
  have hlt : i < (e x).length := by
   grind
  obtain ⟨c', h3, h4⟩ := h1.2 i _ (Yc hlt)
  have : c' = c := by
   rw [Yx] at h3
   have : cs.toList[i]? = some c' := h3
   grind
  grind
 refine ⟨x, fun m l => .agg _ _ (by rw [Yk, hl]) (fun i c hc => ?_) (fun i y c hy hc => ?_), h2⟩
 ·obtain ⟨d, _, h3⟩ := key i c hc; exact h3.one
 ·obtain ⟨d, h3, h4⟩ := key i c hc
  rw [Ys, h3] at hy
  cases hy
  exact .d _ _ h4
def Hp0 : Hp := fun _ => ⟨0, false, 0, 0, []⟩
theorem ok0 (m : Mu) : Ok 0 Hp0 m (· < W.heap.size) W := ⟨fun _ h => h, fun _ _ h => (by cases h), fun _ _ h => (by cases h), fun _ _ _ _ h => (by cases h), fun _ _ h => (by cases h), ⟨fun _ _ h => (by cases h), fun _ _ h => (by cases h), fun _ _ _ _ h => (by cases h)⟩⟩
def ZyA (w : World) (S : Nat → Prop) (Hp : Hp) (m : Mu) (l : Nat) : List AV → List Value → Prop
 | [], [] => True
 | x :: xs, v :: vs => RepA w S Hp m l x v ∧ ZyA w S Hp m l xs vs
 | _, _ => False
theorem Zth {w : World} {S : Nat → Prop} {Hp : Hp} {m : Mu} {l : Nat} {xs : List AV} {vs : List Value} (h : ZyA w S Hp m l xs vs) : Zdq w S Hp m l xs vs.toArray := by
 suffices hh : xs.length = vs.length ∧ ∀ (i : Nat) (x : AV) (v : Value), xs[i]? = some x → vs[i]? = some v → RepA w S Hp m l x v by
  exact ⟨by simpa using hh.1, fun i x v hx hv => hh.2 i x v hx (by simpa using hv)⟩
 induction xs generalizing vs with
 | nil => cases vs with
  | nil => exact ⟨rfl, fun i x v h => by simp at h⟩
  | cons _ _ => exact h.elim
 | cons x xs ih => cases vs with
  | nil => exact h.elim
  | cons v vs =>
   obtain ⟨h1, h2⟩ := ih h.2
   refine ⟨by simp [h1], fun i y u hy hu => ?_⟩
   cases i with
   | zero => simp at hy hu; subst hy; subst hu; exact h.1
   | succ i => exact h2 i y u (by simpa using hy) (by simpa using hu)
theorem Zn6 {f : Func} {s : ChangeSpec} {W' : World} {args : Array Value} {ds gs : List (DataW H)} {before : List MemPlace} {u : TypeId} (hW : DataW.Whole enc P f.params.toList s.vars false W args.toList ds gs before) (hvars : s.vars = [])
  (hlaid : laidOutB P = true) (hrd : ∀ t ∈ f.params.toList, P.readableRec t = true ∧ t < P.types.size) (hres : f.resultTypes.toList = [u]) (hu : P.underlying u = some .bool)
  (hfn : s.fn H (ds ++ gs) = { results := [.lit (.bool true)], args := ds }) (hb : Below W.heap.size W W') : s.post enc P f false true false false W args (.bool true) W' := by
 obtain ⟨p, q, hA, hV, rfl, hfz, hnd⟩ := id hW
 rw [hvars] at hV
 obtain ⟨rfl, rfl⟩ := trodVars_none hV
 refine ⟨ds, [], p ++ [], [], p, [], hW, ?_, ?_, ?_, ?_, fun h => by cases h⟩
 ·rw [hfn, hres]
  have : (Value.bool true).resultList f.resultTypes.size = [.bool true] := by
   have : f.resultTypes.size = 1 := by rw [← Y5, hres]; rfl
   rw [this]; rfl
  rw [this]
  exact trodAll_cons_mk (shut_bool hu _) trodAll_mk0
 ·rw [hfn]
  have key : ∀ (ts : List TypeId) (vs : List Value) (es : List (DataW H)) (ps : List MemPlace), (∀ t ∈ ts, P.readableRec t = true ∧ t < P.types.size) → DataW.TrodAll enc P W 0 (fun _ => true) true ts vs es ps →
    DataW.TrodAll enc P W' 0 (fun b => decide (b < W.heap.size)) true ts vs es ps := by
   intro ts
   induction ts with
   | nil => intro vs es ps _ h; obtain ⟨rfl, rfl, rfl⟩ := trodAll_nil h; exact trodAll_mk0
   | cons t ts ih =>
    intro vs es ps hr h
    have hlt := DataW.TrodAll.lt h
    obtain ⟨v, vs1, d, ds1, a, b, rfl, rfl, rfl, h1, h2⟩ := trodAll_cons h
    exact trodAll_cons_mk (Below.trod hlaid (hr t (by simp)).1 (hr t (by simp)).2 h1 hb (fun x hx => hlt x (YS _ hx))) (ih _ _ _ (fun t ht => hr t (by simp [ht])) h2)
  exact key _ _ _ _ hrd hA
 ·rw [hvars, hfn]; exact rfl
 ·refine ⟨hb.os, hb.output, fun i hi => ?_⟩
  rw [hb.block i hi]
  cases W.heap[i]? with
  | none => rfl
  | some o => cases o <;> simp
end
end Go.Proofs.Ythhipejbnbochaa
