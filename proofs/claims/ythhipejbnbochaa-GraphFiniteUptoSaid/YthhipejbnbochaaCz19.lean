import Derived.Test.YthhipejbnbochaaCz18
import Derived.Test.YthhipejbnbochaaCz11
import Derived.Test.YthhipejbnbochaaCz10
import Derived.Test.YthhipejbnbochaaRows
import Derived.WalkKit
import Derived.ProofKit
import Derived.OpenShut
import Derived.Carry
import Derived.Deep.DeepHandedRow
import Derived.Test.YthhipejbnbochaaCz12
import Derived.Test.YthhipejbnbochaaCz00
namespace Go.Proofs.Ythhipejbnbochaa
set_option linter.all false
open Go Go.Eng
def Zgc (p0 : Scm) (p1 : ByteArray) (p2 : ByteArray) : Option (List Int × Int) := Zp5 (Zdj p0 p1 p2)
theorem Zqn (p0 : Scm) (p1 : ByteArray) (p2 : ByteArray) : KC Try.prog 16 [.agg ((Zdw p0).map .d), vS p1, vS p2] (Zgc p0 p1 p2) E16 := (ZvC p0 p1 p2).uniq
abbrev Zmb : Int → AV := fun y => vI y
@[reducible] def Zl1 (p2 : List (ByteArray × Int)) : Int → List Blk := fun y => [⟨0, true, .m false (p2.map eEt), 0, []⟩]
def Zht (p0 : Web) (p2 : List (ByteArray × Int)) (m1 : Msg) : Int × Nat → St := fun (v3, v4) => mkS [(2, .mp (0, 0) 0), (3, .ptr (1, 3) 0 0), (7, vI v3), (15, vL Zd7 m1.fields), (16, vN m1.fields.length), (17, vN v4)] [((0, 0), ⟨0, true, .m false (p2.map eEt), 0, []⟩), ((1, 3), ⟨0, true, 69, 2, [.d (.map true (p0.messages.map eEt)), .d (.map false (p0.enums.map eEt))]⟩)]
def ZjV (p2 : List (ByteArray × Int)) : Int → Nat × St := fun v9 => (0, mkS [(7, vI v9)] [((0, 0), ⟨0, true, .m false (p2.map eEt), 0, []⟩)])
def ZeZ (p0 : Web) (p2 : List (ByteArray × Int)) (m1 : Msg) (v3 : Int) (v4 : Nat) : PT 1 (Lv (Int × Nat) (Int) (Int)) := br (decide ((v4 : Int) < (m1.fields.length : Int))) (ix m1.fields v4 fun e5 => vw .go <| vw .go <| vw .go <| vw .go <| clg (!(!decide (e5.card = (1 : Int)))) (Zul p0 e5) fun y6 => br ((!decide (e5.card = (1 : Int))) || (!y6)) (vs (wa v4 1) <| ln (Zht p0 p2 m1) (v3, v4 + 1)) (vw .go <| mlk p2 e5.type.name fun m7 b8 => br (decide (m7 = (0 : Int))) (lrt Zmb (Zl1 p2) 0) (vs (wi (m7 + 1)) <| vs (wa v4 1) <| ln (Zht p0 p2 m1) ((mmI true v3 (m7 + 1)), v4 + 1)))) (lxe (ZjV p2) v3)
def Zeh (p0 : Web) (p2 : List (ByteArray × Int)) (m1 : Msg) : Int × Nat → Option (Lv (Int × Nat) (Int) (Int)) := fun (v3, v4) => (ZeZ p0 p2 m1 v3 v4).m
def Zg8 (p2 : List (ByteArray × Int)) (v9 : Int) : PT 1 (Int) := lr Zmb (Zl1 p2) v9
def ZgT (p0 : Web) (p1 : ByteArray) (p2 : List (ByteArray × Int)) : PT 1 (Int) := vw .go <| mlk p0.messages p1 fun m1 b2 => vz (eqL m1.fields) <| lc (mkS [(2, .mp (0, 0) 0), (3, .ptr (1, 3) 0 0), (7, vI 1), (15, vL Zd7 m1.fields), (16, vN m1.fields.length), (17, vI 0)] [((0, 0), ⟨0, true, .m false (p2.map eEt), 0, []⟩), ((1, 3), ⟨0, true, 69, 2, [.d (.map true (p0.messages.map eEt)), .d (.map false (p0.enums.map eEt))]⟩)]) ((ZaI (Zeh p0 p2 m1) big (1, 0)).bind (Sum.elim (fun v9 => (Zg8 p2 v9).m) some))
def ZgR (p0 : Web) (p1 : ByteArray) (p2 : List (ByteArray × Int)) : PT 1 (Int) := lc (mkS [(1, vS p1), (2, .mp (0, 0) 0), (3, .ptr (1, 3) 0 0), (7, vI 1)] [((0, 0), ⟨0, true, .m false (p2.map eEt), 0, []⟩), ((1, 3), ⟨0, true, 69, 2, [.d (.map true (p0.messages.map eEt)), .d (.map false (p0.enums.map eEt))]⟩)]) ((ZgT p0 p1 p2).m)
def ZaE (p0 : Web) (p1 : ByteArray) (p2 : List (ByteArray × Int)) : Option (Int) := (ZgR p0 p1 p2).m
set_option maxRecDepth 100000 in
theorem ZjK {C : Cx} (co : CO C 1) (p0 : Web) (p2 : List (ByteArray × Int)) (m1 : Msg) : KL Try.prog (lkT tl) 43 C (pa [0, 0, 1, 0, 1, 1] (Zaq Try.f65)) [.tmp 6] 1 (Zht p0 p2 m1) (ZjV p2) Zmb (Zl1 p2) (Zeh p0 p2 m1) := fun (v3, v4) _ hm Q Post hQ hL => ZcX co tok tmo (ZeZ p0 p2 m1 v3 v4) (lf2 [2, 3, 7, 15, 16, 17] [((0, 0), false), ((1, 3), false)]) (lf2 [7] [((0, 0), false)]) hQ hm hL fun r g => ⟨fun e5 => fun y6 => ⟨id, fun m7 b8 => ⟨id, id⟩⟩, id⟩
set_option maxRecDepth 100000 in
theorem ZrL (p0 : Web) (p1 : ByteArray) (p2 : List (ByteArray × Int)) : KO Try.prog 65 1 [.agg ((Zdy p0).map .d), vS p1, .mp (0, 0) 0] [⟨0, true, .m false (p2.map eEt), 0, []⟩] (fun _ _ _ _ => True) (ZaE p0 p1 p2) Zmb (Zl1 p2) := ko1 Try.func65 Try.ntmps65 tok [.tmp 6] 1 (fun C co hT y hm Post hL => Za5 co tok tmo 2 (ZgR p0 p1 p2) (lf2 [1, 2, 3, 7] [((0, 0), false), ((1, 3), false)]) nl (fun _ h => h) hm hL fun r g => fun _ hm hL => sq (Za5 co tok tmo 1 (ZgT p0 p1 p2) (lf2 [2, 3, 7, 15, 16, 17] [((0, 0), false), ((1, 3), false)]) nl (fun _ h => h) hm hL fun r g => fun m1 b2 => fun _ hm hL => bk 0 (lo (lpF (ZjK co p0 p2 m1) (fun _ h => h) hm hL (fun v9 hm => ZcY co tok tmo (Zg8 p2 v9) hm hL fun r g => id))))) (hB := fun y => ⟨.inl Zb7, rfl, trivial⟩)
abbrev E47 : List (ByteArray × Int) → AV := fun y => .d (.map false (y.map eEt))
def Zrx (p0 : Web) (y1 : List ByteArray) : Nat × List (ByteArray × Int) → St := fun (v2, r3) => mkS [(1, .ptr (1, 1) 0 0), (3, .mp (1, 8) 0), (4, vL Zam y1), (12, vN y1.length), (13, vN v2)] [((1, 1), ⟨0, true, 69, 2, [.d (.map true (p0.messages.map eEt)), .d (.map false (p0.enums.map eEt))]⟩), ((1, 8), ⟨0, true, .m false (r3.map eEt), 0, []⟩)]
def Zr9 : List (ByteArray × Int) → Nat × St := fun r9 => (0, mkS [(3, .mp (1, 8) 0)] [((1, 8), ⟨0, true, .m false (r9.map eEt), 0, []⟩)])
def ZoK (p0 : Web) (y1 : List ByteArray) (v2 : Nat) : Nat × List (ByteArray × Int) → St := fun (v4, r5) => mkS [(1, .ptr (1, 1) 0 0), (3, .mp (1, 8) 0), (4, vL Zam y1), (12, vN y1.length), (13, vN v2), (15, vL Zam y1), (16, vN y1.length), (17, vN v4)] [((1, 1), ⟨0, true, 69, 2, [.d (.map true (p0.messages.map eEt)), .d (.map false (p0.enums.map eEt))]⟩), ((1, 8), ⟨0, true, .m false (r5.map eEt), 0, []⟩)]
def Zq7 (p0 : Web) (y1 : List ByteArray) (v2 : Nat) : List (ByteArray × Int) → Nat × St := fun r8 => (2, mkS [(1, .ptr (1, 1) 0 0), (3, .mp (1, 8) 0), (4, vL Zam y1), (12, vN y1.length), (13, vN v2)] [((1, 1), ⟨0, true, 69, 2, [.d (.map true (p0.messages.map eEt)), .d (.map false (p0.enums.map eEt))]⟩), ((1, 8), ⟨0, true, .m false (r8.map eEt), 0, []⟩)])
def Zjz (p0 : Web) (y1 : List ByteArray) (v2 : Nat) (v4 : Nat) (r5 : List (ByteArray × Int)) : PT 0 (Lv (Nat × List (ByteArray × Int)) (List (ByteArray × Int)) (List (ByteArray × Int))) := br (decide ((v4 : Int) < (y1.length : Int))) (ix y1 v4 fun e6 => vw .go <| cs Try.prog 65 [.agg ((Zdy p0).map .d), vS e6, .mp (1, 8) 0] [(1, 8)] [((1, 8), ⟨0, true, .m false (r5.map eEt), 0, []⟩)] (ZaE p0 e6 r5) (fun y => vI y) fun y7 => br (decide ((0 : Int) < y7)) (mpu r5 e6 y7 <| vs (wa v4 1) <| ln (ZoK p0 y1 v2) (v4 + 1, ZbV e6 y7 r5)) (vs (wa v4 1) <| ln (ZoK p0 y1 v2) (v4 + 1, r5))) (lxe (Zq7 p0 y1 v2) r5)
def Zjs (p0 : Web) (y1 : List ByteArray) (v2 : Nat) : Nat × List (ByteArray × Int) → Option (Lv (Nat × List (ByteArray × Int)) (List (ByteArray × Int)) (List (ByteArray × Int))) := fun (v4, r5) => (Zjz p0 y1 v2 v4 r5).m
def Zmw (p0 : Web) (y1 : List ByteArray) (v2 : Nat) (r8 : List (ByteArray × Int)) : PT 0 (Lv (Nat × List (ByteArray × Int)) (List (ByteArray × Int)) (List (ByteArray × Int))) := vs (wa v2 1) <| ln (Zrx p0 y1) (v2 + 1, r8)
def ZlS (p0 : Web) (y1 : List ByteArray) (v2 : Nat) (r3 : List (ByteArray × Int)) : PT 0 (Lv (Nat × List (ByteArray × Int)) (List (ByteArray × Int)) (List (ByteArray × Int))) := vz (eqL y1) <| lc (mkS [(1, .ptr (1, 1) 0 0), (3, .mp (1, 8) 0), (4, vL Zam y1), (12, vN y1.length), (13, vN v2), (15, vL Zam y1), (16, vN y1.length), (17, vI 0)] [((1, 1), ⟨0, true, 69, 2, [.d (.map true (p0.messages.map eEt)), .d (.map false (p0.enums.map eEt))]⟩), ((1, 8), ⟨0, true, .m false (r3.map eEt), 0, []⟩)]) ((ZaI (Zjs p0 y1 v2) big (0, r3)).bind (Sum.elim (fun r8 => (Zmw p0 y1 v2 r8).m) (fun z => some (.rt z))))
def ZlC (p0 : Web) (y1 : List ByteArray) (v2 : Nat) (r3 : List (ByteArray × Int)) : PT 0 (Lv (Nat × List (ByteArray × Int)) (List (ByteArray × Int)) (List (ByteArray × Int))) := br (decide ((v2 : Int) < (y1.length : Int))) (lc (mkS [(1, .ptr (1, 1) 0 0), (3, .mp (1, 8) 0), (4, vL Zam y1), (12, vN y1.length), (13, vN v2)] [((1, 1), ⟨0, true, 69, 2, [.d (.map true (p0.messages.map eEt)), .d (.map false (p0.enums.map eEt))]⟩), ((1, 8), ⟨0, true, .m false (r3.map eEt), 0, []⟩)]) ((ZlS p0 y1 v2 r3).m)) (lxe (Zr9) r3)
def ZkB (p0 : Web) (y1 : List ByteArray) : Nat × List (ByteArray × Int) → Option (Lv (Nat × List (ByteArray × Int)) (List (ByteArray × Int)) (List (ByteArray × Int))) := fun (v2, r3) => (ZlC p0 y1 v2 r3).m
def ZoT (r9 : List (ByteArray × Int)) : PT 0 (List (ByteArray × Int)) := lr E47 (fun _ => []) r9
def Zph (p0 : Web) (y1 : List ByteArray) : PT 0 (List (ByteArray × Int)) := vz (eqL y1) <| lc (mkS [(1, .ptr (1, 1) 0 0), (3, .mp (1, 8) 0), (4, vL Zam y1), (12, vN y1.length), (13, vI 0)] [((1, 1), ⟨0, true, 69, 2, [.d (.map true (p0.messages.map eEt)), .d (.map false (p0.enums.map eEt))]⟩), ((1, 8), ⟨0, true, .m false (([] : List (ByteArray × Int)).map eEt), 0, []⟩)]) ((ZaI (ZkB p0 y1) big (0, ([] : List (ByteArray × Int)))).bind (Sum.elim (fun r9 => (ZoT r9).m) some))
def Zpg (p0 : Web) : PT 0 (List (ByteArray × Int)) := vw .go <| cl (Zo2 p0) fun y1 => lc (mkS [(1, .ptr (1, 1) 0 0), (3, .mp (1, 8) 0), (4, vL Zam y1)] [((1, 1), ⟨0, true, 69, 2, [.d (.map true (p0.messages.map eEt)), .d (.map false (p0.enums.map eEt))]⟩), ((1, 8), ⟨0, true, .m false (([] : List (ByteArray × Int)).map eEt), 0, []⟩)]) ((Zph p0 y1).m)
def Za0 (p0 : Web) : Option (List (ByteArray × Int)) := (Zpg p0).m
set_option maxRecDepth 100000 in
theorem Zou {C : Cx} (co : CO C 0) (p0 : Web) (y1 : List ByteArray) (v2 : Nat) : KL Try.prog (lkT tl) 33 C (pa [0, 0, 1, 0, 0, 1, 1, 0, 0, 1, 0, 1, 1, 1] (Zaq Try.f47)) [.tmp 2] 0 (ZoK p0 y1 v2) (Zq7 p0 y1 v2) E47 (fun _ => []) (Zjs p0 y1 v2) := fun (v4, r5) _ hm Q Post hQ hL => ZcX co tok tmo (Zjz p0 y1 v2 v4 r5) (lf2 [1, 3, 4, 12, 13, 15, 16, 17] [((1, 1), false), ((1, 8), false)]) (lf2 [1, 3, 4, 12, 13] [((1, 1), false), ((1, 8), false)]) hQ hm hL fun r g => ⟨fun e6 => ⟨fun y hy => Ze9 (ZrL p0 e6 r5) hy co g [((1, 8), ⟨0, true, .m false (r5.map eEt), 0, []⟩)] [] (lkS []) (fun H' hg ho => trivial) (fun H => ⟨fun _ => ⟨rfl, ZaL Zb7 (by kernel_rfl)⟩, by kernel_rfl, trivial⟩), fun y7 => ⟨id, id⟩⟩, id⟩
set_option maxRecDepth 100000 in
theorem ZnZ {C : Cx} (co : CO C 0) (p0 : Web) (y1 : List ByteArray) : KL Try.prog (lkT tl) 33 C (pa [0, 0, 1, 0, 1, 1, 1] (Zaq Try.f47)) [.tmp 2] 0 (Zrx p0 y1) (Zr9) E47 (fun _ => []) (ZkB p0 y1) := fun (v2, r3) _ hm Q Post hQ hL => Za5 co tok tmo 2 (ZlC p0 y1 v2 r3) (lf2 [1, 3, 4, 12, 13] [((1, 1), false), ((1, 8), false)]) (lf2 [3] [((1, 8), false)]) hQ hm hL fun r g => ⟨fun _ hm hL => sq (bk 1 (Za5 co tok tmo 1 (ZlS p0 y1 v2 r3) (lf2 [1, 3, 4, 12, 13, 15, 16, 17] [((1, 1), false), ((1, 8), false)]) nl hQ hm hL fun r g => fun _ hm hL => bk 2 (lo (lpL (Zou co p0 y1 v2) hQ hm hL (fun r8 hm => ZcX co tok tmo (Zmw p0 y1 v2 r8) (lf2 [1, 3, 4, 12, 13] [((1, 1), false), ((1, 8), false)]) nl hQ hm hL fun r g => id))))), id⟩
set_option maxRecDepth 100000 in
theorem ZvT (p0 : Web) : KC Try.prog 47 [.agg ((Zdy p0).map .d)] (Za0 p0) E47 := kc1 Try.func47 Try.ntmps47 tok [.tmp 2] fun C co y hm Post hL => Za5 co tok tmo 3 (Zpg p0) (lf2 [1, 3, 4] [((1, 1), false), ((1, 8), false)]) nl (fun _ h => h) hm hL fun r g => fun y1 => fun _ hm hL => sq (Za5 co tok tmo 1 (Zph p0 y1) (lf2 [1, 3, 4, 12, 13] [((1, 1), false), ((1, 8), false)]) nl (fun _ h => h) hm hL fun r g => fun _ hm hL => bk 0 (lo (lpF (ZnZ co p0 y1) (fun _ h => h) hm hL (fun r9 hm => ZcY co tok tmo (ZoT r9) hm hL fun r g => id))))
abbrev E20 : Int → AV := fun y => vI y
def ZoM (p0 : Scm) (p1 : ByteArray) : PT 0 (Int) := vw .go <| cl (Zub p0) fun y1 => cl (ZvT y1) fun y2 => mlk y2 p1 fun m3 b4 => lr E20 (fun _ => []) m3
def ZbJ (p0 : Scm) (p1 : ByteArray) : Option (Int) := (ZoM p0 p1).m
set_option maxRecDepth 100000 in
theorem Zue (p0 : Scm) (p1 : ByteArray) : KC Try.prog 20 [.agg ((Zdw p0).map .d), vS p1] (ZbJ p0 p1) E20 := kc1 Try.func20 Try.ntmps20 tok [.tmp 4] fun C co y hm Post hL => ZcY co tok tmo (ZoM p0 p1) hm hL fun r g => fun y1 => fun y2 => fun m3 b4 => id
abbrev E41 : Msg → AV := fun y => .agg ((Zcq y).map .d)
def Zqi (p0 : ByteArray) (p1 : Int) (p2 : ByteArray) : PT 0 (Msg) := vw .sep <| vw .sep <| vw .sep <| vw .go <| lr E41 (fun _ => []) (.mk p0 ([(.mk 4 ⟨#[]⟩ p1 0 (.mk 10 p2 : Typ) ⟨#[]⟩ false (.mk 0 0 ⟨#[]⟩ ([] : List Val) ([] : List Pr) ([] : List Slt) ([] : List Raw) : Val) ([] : List Nt) : Fld)] : List Fld) [] [] [] : Msg)
def Zb9 (p0 : ByteArray) (p1 : Int) (p2 : ByteArray) : Option (Msg) := (Zqi p0 p1 p2).m
set_option maxRecDepth 100000 in
theorem ZuG (p0 : ByteArray) (p1 : Int) (p2 : ByteArray) : KC Try.prog 41 [vS p0, vI p1, vS p2] (Zb9 p0 p1 p2) E41 := kc1 Try.func41 Try.ntmps41 tok [.cell 6 42] fun C co y hm Post hL => ZcY co tok tmo (Zqi p0 p1 p2) hm hL fun r g => id
abbrev E15 : Bool → AV := fun y => vB y
def Zqz : PT 0 (Bool) := cl (ZuG ⟨#[65]⟩ 1 ⟨#[66]⟩) fun y1 => cl (ZuG ⟨#[66]⟩ 4 ⟨#[65]⟩) fun y2 => vw .sep <| vw .go <| vw .go <| cl ((Zqn (.mk ([y1, y2] : List Msg) ([] : List Enm) ([] : List Svc) : Scm) ⟨#[65]⟩ ⟨#[65]⟩).nrm (fun _ _ _ h => .nrm h) (xs' := [.agg [.d (.list [Zcq y1, Zcq y2]), .e0, .e0], vS ⟨#[65]⟩, vS ⟨#[65]⟩]) (by intro r; kernel_rfl)) fun y3 => vw .go <| cl ((Zqn (.mk ([y1, y2] : List Msg) ([] : List Enm) ([] : List Svc) : Scm) ⟨#[65]⟩ ⟨#[66]⟩).nrm (fun _ _ _ h => .nrm h) (xs' := [.agg [.d (.list [Zcq y1, Zcq y2]), .e0, .e0], vS ⟨#[65]⟩, vS ⟨#[66]⟩]) (by intro r; kernel_rfl)) fun y4 => vy (decide (y3.2 = (0 : Int))) (eqL y3.1) <| vy ((decide (y3.2 = (0 : Int)) && decide ((y3.1.length : Int) = (0 : Int))) && decide (y4.2 = (0 : Int))) (eqL y4.1) <| ixg (((decide (y3.2 = (0 : Int)) && decide ((y3.1.length : Int) = (0 : Int))) && decide (y4.2 = (0 : Int))) && decide ((y4.1.length : Int) = (1 : Int))) y4.1 0 fun e5 => vw .go <| clg ((((decide (y3.2 = (0 : Int)) && decide ((y3.1.length : Int) = (0 : Int))) && decide (y4.2 = (0 : Int))) && decide ((y4.1.length : Int) = (1 : Int))) && decide (e5 = (4 : Int))) ((Zue (.mk ([y1, y2] : List Msg) ([] : List Enm) ([] : List Svc) : Scm) ⟨#[65]⟩).nrm (fun _ _ _ h => .nrm h) (xs' := [.agg [.d (.list [Zcq y1, Zcq y2]), .e0, .e0], vS ⟨#[65]⟩]) (by intro r; kernel_rfl)) fun y6 => vw .go <| clg (((((decide (y3.2 = (0 : Int)) && decide ((y3.1.length : Int) = (0 : Int))) && decide (y4.2 = (0 : Int))) && decide ((y4.1.length : Int) = (1 : Int))) && decide (e5 = (4 : Int))) && decide (y6 = (2 : Int))) ((ZvS (.mk ([y1, y2] : List Msg) ([] : List Enm) ([] : List Svc) : Scm)).nrm (fun _ _ _ h => .nrm h) (xs' := [.agg [.d (.list [Zcq y1, Zcq y2]), .e0, .e0]]) (by intro r; kernel_rfl)) fun y7 => vy (((((decide (y3.2 = (0 : Int)) && decide ((y3.1.length : Int) = (0 : Int))) && decide (y4.2 = (0 : Int))) && decide ((y4.1.length : Int) = (1 : Int))) && decide (e5 = (4 : Int))) && decide (y6 = (2 : Int))) (eqL y7) <| lr E15 (fun _ => []) ((((((decide (y3.2 = (0 : Int)) && decide ((y3.1.length : Int) = (0 : Int))) && decide (y4.2 = (0 : Int))) && decide ((y4.1.length : Int) = (1 : Int))) && decide (e5 = (4 : Int))) && decide (y6 = (2 : Int))) && decide ((y7.length : Int) = (1 : Int)))
def Za2 : Option (Bool) := (Zqz).m
set_option maxRecDepth 100000 in
theorem Zv6 : KC Try.prog 15 [] (Za2) E15 := kc1 Try.func15 Try.ntmps15 tok [.tmp 0] fun C co y hm Post hL => ZcY co tok tmo (Zqz) hm hL fun r g => fun y1 => fun y2 => fun y3 => fun y4 => fun e5 => fun y6 => fun y7 => id
abbrev E18 : Msg × Int → AV := fun y => .tup [.agg ((Zcq y.1).map .d), vI y.2]
def Zta (p0 : Scm) (p1 : ByteArray) : Nat → St := fun v1 => mkS [(1, vS p1), (2, .ptr (1, 2) 0 0), (4, .ptr (1, 4) 0 0), (6, vN v1)] [((1, 2), ⟨0, true, 26, 3, [vL Zcq p0.messages, vL Zea p0.enums, vL ZfG p0.services]⟩), ((1, 4), ⟨0, true, 42, 5, [vS ⟨#[]⟩, .e0, .e0, .e0, .e0]⟩)]
def Zst : Unit → Nat × St := fun _ => (0, mkS [(4, .ptr (1, 4) 0 0)] [((1, 4), ⟨0, true, 42, 5, [vS ⟨#[]⟩, .e0, .e0, .e0, .e0]⟩)])
def ZmA (p0 : Scm) (p1 : ByteArray) (v1 : Nat) : PT 0 (Lv (Nat) (Unit) (Msg × Int)) := vw .go <| vz (eqL p0.messages) <| br (decide ((v1 : Int) < (p0.messages.length : Int))) (vw .go <| ix p0.messages v1 fun e2 => br (decide (e2.name = p1)) (vw .go <| ix p0.messages v1 fun e3 => vw .go <| lrt E18 (fun _ => []) (e3, (v1 : Int))) (vs (wa v1 1) <| ln (Zta p0 p1) (v1 + 1))) (lxe (Zst) ())
def ZjH (p0 : Scm) (p1 : ByteArray) : Nat → Option (Lv (Nat) (Unit) (Msg × Int)) := fun v1 => (ZmA p0 p1 v1).m
def ZpA : PT 0 (Msg × Int) := vw .go <| lr E18 (fun _ => []) ((.mk ⟨#[]⟩ [] [] [] [] : Msg), (-1))
def ZnU (p0 : Scm) (p1 : ByteArray) : PT 0 (Msg × Int) := lc (mkS [(1, vS p1), (2, .ptr (1, 2) 0 0), (4, .ptr (1, 4) 0 0), (6, vI 0)] [((1, 2), ⟨0, true, 26, 3, [vL Zcq p0.messages, vL Zea p0.enums, vL ZfG p0.services]⟩), ((1, 4), ⟨0, true, 42, 5, [vS ⟨#[]⟩, .e0, .e0, .e0, .e0]⟩)]) ((ZaI (ZjH p0 p1) big 0).bind (Sum.elim (fun _ => (ZpA).m) some))
def ZoL (p0 : Scm) (p1 : ByteArray) : PT 0 (Msg × Int) := lc (mkS [(1, vS p1), (2, .ptr (1, 2) 0 0), (4, .ptr (1, 4) 0 0)] [((1, 2), ⟨0, true, 26, 3, [vL Zcq p0.messages, vL Zea p0.enums, vL ZfG p0.services]⟩), ((1, 4), ⟨0, true, 42, 5, [vS ⟨#[]⟩, .e0, .e0, .e0, .e0]⟩)]) ((ZnU p0 p1).m)
def ZaA (p0 : Scm) (p1 : ByteArray) : Option (Msg × Int) := (ZoL p0 p1).m
set_option maxRecDepth 100000 in
theorem ZpF {C : Cx} (co : CO C 0) (p0 : Scm) (p1 : ByteArray) : KL Try.prog (lkT tl) 29 C (pa [0, 0, 1, 0, 1] (Zaq Try.f18)) [.cell 4 42, .tmp 5] 0 (Zta p0 p1) (Zst) E18 (fun _ => []) (ZjH p0 p1) := fun v1 _ hm Q Post hQ hL => ZcX co tok tmo (ZmA p0 p1 v1) (lf2 [1, 2, 4, 6] [((1, 2), false), ((1, 4), false)]) (lf2 [4] [((1, 4), false)]) hQ hm hL fun r g => ⟨fun e2 => ⟨fun e3 => id, id⟩, id⟩
set_option maxRecDepth 100000 in
theorem ZuC (p0 : Scm) (p1 : ByteArray) : KC Try.prog 18 [.agg ((Zdw p0).map .d), vS p1] (ZaA p0 p1) E18 := kc1 Try.func18 Try.ntmps18 tok [.cell 4 42, .tmp 5] fun C co y hm Post hL => Za5 co tok tmo 1 (ZoL p0 p1) (lf2 [1, 2, 4] [((1, 2), false), ((1, 4), false)]) nl (fun _ h => h) hm hL fun r g => fun _ hm hL => sq (Za5 co tok tmo 1 (ZnU p0 p1) (lf2 [1, 2, 4, 6] [((1, 2), false), ((1, 4), false)]) nl (fun _ h => h) hm hL fun r g => fun _ hm hL => bk 0 (lo (lpF (ZpF co p0 p1) (fun _ h => h) hm hL (fun _ hm => ZcY co tok tmo (ZpA) hm hL fun r g => id))))
abbrev E46 : Enm × Int → AV := fun y => .tup [.agg ((Zea y.1).map .d), vI y.2]
def ZsY (p0 : Scm) (p1 : ByteArray) : Nat → St := fun v1 => mkS [(1, vS p1), (2, .ptr (1, 2) 0 0), (4, .ptr (1, 4) 0 0), (6, vN v1)] [((1, 2), ⟨0, true, 26, 3, [vL Zcq p0.messages, vL Zea p0.enums, vL ZfG p0.services]⟩), ((1, 4), ⟨0, true, 89, 5, [vS ⟨#[]⟩, vB false, .e0, .e0, .e0]⟩)]
def Zs9 : Unit → Nat × St := fun _ => (0, mkS [(4, .ptr (1, 4) 0 0)] [((1, 4), ⟨0, true, 89, 5, [vS ⟨#[]⟩, vB false, .e0, .e0, .e0]⟩)])
def ZmD (p0 : Scm) (p1 : ByteArray) (v1 : Nat) : PT 0 (Lv (Nat) (Unit) (Enm × Int)) := vw .go <| vz (eqL p0.enums) <| br (decide ((v1 : Int) < (p0.enums.length : Int))) (vw .go <| ix p0.enums v1 fun e2 => br (decide (e2.name = p1)) (vw .go <| ix p0.enums v1 fun e3 => vw .go <| lrt E46 (fun _ => []) (e3, (v1 : Int))) (vs (wa v1 1) <| ln (ZsY p0 p1) (v1 + 1))) (lxe (Zs9) ())
def ZkE (p0 : Scm) (p1 : ByteArray) : Nat → Option (Lv (Nat) (Unit) (Enm × Int)) := fun v1 => (ZmD p0 p1 v1).m
def ZoJ : PT 0 (Enm × Int) := vw .go <| lr E46 (fun _ => []) ((.mk ⟨#[]⟩ false [] [] [] : Enm), (-1))
def Zor (p0 : Scm) (p1 : ByteArray) : PT 0 (Enm × Int) := lc (mkS [(1, vS p1), (2, .ptr (1, 2) 0 0), (4, .ptr (1, 4) 0 0), (6, vI 0)] [((1, 2), ⟨0, true, 26, 3, [vL Zcq p0.messages, vL Zea p0.enums, vL ZfG p0.services]⟩), ((1, 4), ⟨0, true, 89, 5, [vS ⟨#[]⟩, vB false, .e0, .e0, .e0]⟩)]) ((ZaI (ZkE p0 p1) big 0).bind (Sum.elim (fun _ => (ZoJ).m) some))
def Zps (p0 : Scm) (p1 : ByteArray) : PT 0 (Enm × Int) := lc (mkS [(1, vS p1), (2, .ptr (1, 2) 0 0), (4, .ptr (1, 4) 0 0)] [((1, 2), ⟨0, true, 26, 3, [vL Zcq p0.messages, vL Zea p0.enums, vL ZfG p0.services]⟩), ((1, 4), ⟨0, true, 89, 5, [vS ⟨#[]⟩, vB false, .e0, .e0, .e0]⟩)]) ((Zor p0 p1).m)
def ZaS (p0 : Scm) (p1 : ByteArray) : Option (Enm × Int) := (Zps p0 p1).m
set_option maxRecDepth 100000 in
theorem Zof {C : Cx} (co : CO C 0) (p0 : Scm) (p1 : ByteArray) : KL Try.prog (lkT tl) 29 C (pa [0, 0, 1, 0, 1] (Zaq Try.f46)) [.cell 4 89, .tmp 5] 0 (ZsY p0 p1) (Zs9) E46 (fun _ => []) (ZkE p0 p1) := fun v1 _ hm Q Post hQ hL => ZcX co tok tmo (ZmD p0 p1 v1) (lf2 [1, 2, 4, 6] [((1, 2), false), ((1, 4), false)]) (lf2 [4] [((1, 4), false)]) hQ hm hL fun r g => ⟨fun e2 => ⟨fun e3 => id, id⟩, id⟩
set_option maxRecDepth 100000 in
theorem ZuW (p0 : Scm) (p1 : ByteArray) : KC Try.prog 46 [.agg ((Zdw p0).map .d), vS p1] (ZaS p0 p1) E46 := kc1 Try.func46 Try.ntmps46 tok [.cell 4 89, .tmp 5] fun C co y hm Post hL => Za5 co tok tmo 1 (Zps p0 p1) (lf2 [1, 2, 4] [((1, 2), false), ((1, 4), false)]) nl (fun _ h => h) hm hL fun r g => fun _ hm hL => sq (Za5 co tok tmo 1 (Zor p0 p1) (lf2 [1, 2, 4, 6] [((1, 2), false), ((1, 4), false)]) nl (fun _ h => h) hm hL fun r g => fun _ hm hL => bk 0 (lo (lpF (Zof co p0 p1) (fun _ h => h) hm hL (fun _ hm => ZcY co tok tmo (ZoJ) hm hL fun r g => id))))
abbrev E19 : ByteArray × Bool → AV := fun y => .tup [vS y.1, vB y.2]
def ZoH (p0 : Scm) (p1 : Fld) : PT 0 (ByteArray × Bool) := vw .go <| br (decide (p1.type.kind = (10 : Int))) (vw .go <| vw .go <| cl (ZuC p0 p1.type.name) fun y1 => vw .go <| br (decide (p1.type.kind = (9 : Int))) (vw .go <| vw .go <| cl (ZuW p0 p1.type.name) fun y2 => br (decide (y2.2 < (0 : Int))) (lr E19 (fun _ => []) (⟨#[]⟩, false)) (vw .go <| lr E19 (fun _ => []) (p1.type.name, true))) (br (decide (y1.2 < (0 : Int))) (lr E19 (fun _ => []) (⟨#[]⟩, false)) (vw .go <| lr E19 (fun _ => []) (p1.type.name, true)))) (vw .go <| br (decide (p1.type.kind = (9 : Int))) (vw .go <| vw .go <| cl (ZuW p0 p1.type.name) fun y3 => br (decide (y3.2 < (0 : Int))) (lr E19 (fun _ => []) (⟨#[]⟩, false)) (vw .go <| lr E19 (fun _ => []) (p1.type.name, true))) (vw .go <| lr E19 (fun _ => []) (⟨#[]⟩, false)))
def ZaJ (p0 : Scm) (p1 : Fld) : Option (ByteArray × Bool) := (ZoH p0 p1).m
set_option maxRecDepth 100000 in
theorem ZvM (p0 : Scm) (p1 : Fld) : KC Try.prog 19 [.agg ((Zdw p0).map .d), .agg ((Zd7 p1).map .d)] (ZaJ p0 p1) E19 := kc1 Try.func19 Try.ntmps19 tok [.tmp 4, .tmp 5] fun C co y hm Post hL => ZcY co tok tmo (ZoH p0 p1) hm hL fun r g => ⟨fun y1 => ⟨fun y2 => ⟨id, id⟩, ⟨id, id⟩⟩, ⟨fun y3 => ⟨id, id⟩, id⟩⟩
end Go.Proofs.Ythhipejbnbochaa
namespace Go.Proofs.Ythhipejbnbochaa
set_option linter.all false
open Go Go.Eng
abbrev E5 : Bool → AV := fun y => vB y
def ZtK (p0 : Scm) : Nat → St := fun v2 => mkS [(1, .iptr (Zdw p0) 0), (3, vN v2)] []
def ZuZ : Unit → Nat × St := fun _ => (0, mkS [] [])
def ZtP (p0 : Scm) (v2 : Nat) (y4 : Msg × Int) : Int × Bool × Nat → St := fun (v5, v6, v7) => mkS [(1, .iptr (Zdw p0) 0), (3, vN v2), (4, .ptr (1, 4) 0 0), (6, vI v5), (7, vB v6), (8, vN v7)] [((1, 4), ⟨0, true, 42, 5, [vS y4.1.name, vL Zd7 y4.1.fields, vL ZmX y4.1.reserved, vL Zam y4.1.gone, vL eNt y4.1.notes]⟩)]
def ZuV (p0 : Scm) (v2 : Nat) (y4 : Msg × Int) : Int × Bool → Nat × St := fun (v13, v14) => (2, mkS [(1, .iptr (Zdw p0) 0), (3, vN v2), (4, .ptr (1, 4) 0 0), (6, vI v13), (7, vB v14)] [((1, 4), ⟨0, true, 42, 5, [vS y4.1.name, vL Zd7 y4.1.fields, vL ZmX y4.1.reserved, vL Zam y4.1.gone, vL eNt y4.1.notes]⟩)])
def ZtD (p0 : Scm) (v2 : Nat) (y4 : Msg × Int) (v5 : Int) (v6 : Bool) (v7 : Nat) : PT 0 (Lv (Int × Bool × Nat) (Int × Bool) (Bool)) := vw .go <| vz (eqL y4.1.fields) <| br (decide ((v7 : Int) < (y4.1.fields.length : Int))) (vw .go <| ix y4.1.fields v7 fun e8 => cl (ZvM p0 e8) fun y9 => vw .go <| ixg (!(!y9.2)) y4.1.fields (v7 : Int) fun e10 => vw .go <| ixg (!((!y9.2) || (!decide (e10.card = (1 : Int))))) y4.1.fields (v7 : Int) fun e11 => br (((!y9.2) || (!decide (e10.card = (1 : Int)))) || (!decide (e11.type.kind = (10 : Int)))) (vs (wa v7 1) <| ln (ZtP p0 v2 y4) (v5, v6, v7 + 1)) (cl (Zue p0 y9.1) fun y12 => vs (wa v7 1) <| ln (ZtP p0 v2 y4) ((mmI true v5 y12), (v6 || decide (y12 = (0 : Int))), v7 + 1))) (lxe (ZuV p0 v2 y4) (v5, v6))
def Zqr (p0 : Scm) (v2 : Nat) (y4 : Msg × Int) : Int × Bool × Nat → Option (Lv (Int × Bool × Nat) (Int × Bool) (Bool)) := fun (v5, v6, v7) => (ZtD p0 v2 y4 v5 v6 v7).m
def Zr3 (p0 : Scm) (v2 : Nat) : PT 0 (Lv (Nat) (Unit) (Bool)) := vs (wa v2 1) <| ln (ZtK p0) (v2 + 1)
def Zq2 (p0 : Scm) (v2 : Nat) (y4 : Msg × Int) (v13 : Int) (v14 : Bool) : PT 0 (Lv (Nat) (Unit) (Bool)) := vw .go <| cl (Zue p0 y4.1.name) fun y15 => vg ((!(v14 && (!decide (y15 = (0 : Int))))) && (!v14)) (wi (v13 + 1)) <| vy (!(((v14 && (!decide (y15 = (0 : Int)))) || ((!v14) && (!decide (y15 = (v13 + 1))))) || decide (y15 < (0 : Int)))) (eqL p0.messages) <| br ((((v14 && (!decide (y15 = (0 : Int)))) || ((!v14) && (!decide (y15 = (v13 + 1))))) || decide (y15 < (0 : Int))) || decide ((p0.messages.length : Int) < y15)) (lrt E5 (fun _ => []) false) (lc (mkS [(1, .iptr (Zdw p0) 0), (3, vN v2)] []) ((Zr3 p0 v2).m))
def ZsW (p0 : Scm) (v2 : Nat) (y4 : Msg × Int) : PT 0 (Lv (Nat) (Unit) (Bool)) := lc (mkS [(1, .iptr (Zdw p0) 0), (3, vN v2), (4, .ptr (1, 4) 0 0), (6, vI 0), (7, vB false), (8, vI 0)] [((1, 4), ⟨0, true, 42, 5, [vS y4.1.name, vL Zd7 y4.1.fields, vL ZmX y4.1.reserved, vL Zam y4.1.gone, vL eNt y4.1.notes]⟩)]) ((ZaI (Zqr p0 v2 y4) big (0, false, 0)).bind (Sum.elim (fun (v13, v14) => (Zq2 p0 v2 y4 v13 v14).m) (fun z => some (.rt z))))
def Zrf (p0 : Scm) (v2 : Nat) : PT 0 (Lv (Nat) (Unit) (Bool)) := vs (wa v2 1) <| ln (ZtK p0) (v2 + 1)
def ZrR (p0 : Scm) (v2 : Nat) (y4 : Msg × Int) : PT 0 (Lv (Nat) (Unit) (Bool)) := br (!decide (y4.2 = (v2 : Int))) (lxc 1 (mkS [(1, .iptr (Zdw p0) 0), (3, vN v2)] []) ((Zrf p0 v2).m)) (lc (mkS [(1, .iptr (Zdw p0) 0), (3, vN v2), (4, .ptr (1, 4) 0 0), (6, vI 0), (7, vB false)] [((1, 4), ⟨0, true, 42, 5, [vS y4.1.name, vL Zd7 y4.1.fields, vL ZmX y4.1.reserved, vL Zam y4.1.gone, vL eNt y4.1.notes]⟩)]) ((ZsW p0 v2 y4).m))
def Zsd (p0 : Scm) (v2 : Nat) : PT 0 (Lv (Nat) (Unit) (Bool)) := ix p0.messages v2 fun e3 => du (cl (ZuC p0 e3.name) fun y4 => vw .go <| lc (mkS [(1, .iptr (Zdw p0) 0), (3, vN v2), (4, .ptr (1, 4) 0 0), (5, vI y4.2)] [((1, 4), ⟨0, true, 42, 5, [vS y4.1.name, vL Zd7 y4.1.fields, vL ZmX y4.1.reserved, vL Zam y4.1.gone, vL eNt y4.1.notes]⟩)]) ((ZrR p0 v2 y4).m))
def ZrC (p0 : Scm) (v2 : Nat) : PT 0 (Lv (Nat) (Unit) (Bool)) := vz (eqL p0.messages) <| br (decide ((v2 : Int) < (p0.messages.length : Int))) (lc (mkS [(1, .iptr (Zdw p0) 0), (3, vN v2)] []) ((Zsd p0 v2).m)) (lxe (ZuZ) ())
def Zp6 (p0 : Scm) : Nat → Option (Lv (Nat) (Unit) (Bool)) := fun v2 => (ZrC p0 v2).m
def ZtY : PT 0 (Bool) := cl (Zv6) fun y16 => lr E5 (fun _ => []) y16
def ZoW (p0 : Scm) : PT 0 (Bool) := vw (.fzb 1 [1]) <| lc (mkS [(1, .iptr (Zdw p0) 0), (3, vI 0)] []) ((ZaI (Zp6 p0) big 0).bind (Sum.elim (fun _ => (ZtY).m) some))
def ZoB (p0 : Scm) : PT 0 (Bool) := lc (mkS [(1, .ptr (1, 1) 0 0), (3, vI 0)] [((1, 1), ⟨0, true, 26, 3, [vL Zcq p0.messages, vL Zea p0.enums, vL ZfG p0.services]⟩)]) ((ZoW p0).m)
def Zpf (p0 : Scm) : PT 0 (Bool) := vw .go <| cl (Zwa p0) fun y1 => br (!y1) (lr E5 (fun _ => []) true) (lc (mkS [(1, .ptr (1, 1) 0 0)] [((1, 1), ⟨0, true, 26, 3, [vL Zcq p0.messages, vL Zea p0.enums, vL ZfG p0.services]⟩)]) ((ZoB p0).m))
def Zak (p0 : Scm) : Option (Bool) := (Zpf p0).m
set_option maxRecDepth 100000 in
theorem ZsZ {C : Cx} (co : CO C 0) (p0 : Scm) (v2 : Nat) (y4 : Msg × Int) : KL Try.prog (lkT tl) 117 C (pa [0, 0, 1, 0, 1, 1, 1, 0, 0, 1, 0, 0, 1, 0, 1, 1] (Zaq Try.f5)) [.tmp 2] 0 (ZtP p0 v2 y4) (ZuV p0 v2 y4) E5 (fun _ => []) (Zqr p0 v2 y4) := fun (v5, v6, v7) _ hm Q Post hQ hL => ZcX co tok tmo (ZtD p0 v2 y4 v5 v6 v7) (lf2 [1, 3, 4, 6, 7, 8] [((1, 4), false)]) (lf2 [1, 3, 4, 6, 7] [((1, 4), false)]) hQ hm hL fun r g => ⟨fun e8 => fun y9 => fun e10 => fun e11 => ⟨id, fun y12 => id⟩, id⟩
set_option maxRecDepth 100000 in
theorem Zs8 {C : Cx} (co : CO C 0) (p0 : Scm) : KL Try.prog (lkT tl) 117 C (pa [0, 0, 1, 0, 1, 1] (Zaq Try.f5)) [.tmp 2] 0 (ZtK p0) (ZuZ) E5 (fun _ => []) (Zp6 p0) := fun v2 _ hm Q Post hQ hL => Za5 co tok tmo 1 (ZrC p0 v2) (lf1 [1, 3]) nl hQ hm hL fun r g => ⟨fun _ hm hL => sq (bk 1 (sq (Zuk co tok tmo (.fst 0 (.fst 1 (.fst 2 (.fst 3 (.fst 4 (.fst 5 (.fst 6 (.two 7 11 (.fst 8 (.fst 9 (.fst 10 (.fst 11 (.fst 12 (.fst 13 .nil)))))) (.fst 7 (.fst 8 (.fst 9 (.fst 10 (.fst 12 (.fst 13 .nil)))))))))))))) [1] (Zsd p0 v2) (lf2 [1, 3, 4, 5] [((1, 4), false)]) hm hL fun r g => fun e3 => fun y4 => fun _ hm hL => Za5 co tok tmo 2 (ZrR p0 v2 y4) (lf2 [1, 3, 4, 6, 7] [((1, 4), false)]) (lf1 [1, 3]) hQ hm hL fun r g => ⟨fun _ hm hL => ZcX co tok tmo (Zrf p0 v2) (lf1 [1, 3]) nl hQ hm hL fun r g => id, fun _ hm hL => sq (Za5 co tok tmo 1 (ZsW p0 v2 y4) (lf2 [1, 3, 4, 6, 7, 8] [((1, 4), false)]) nl hQ hm hL fun r g => fun _ hm hL => bk 2 (lo (lpL (ZsZ co p0 v2 y4) hQ hm hL (fun (v13, v14) hm => ZcX co tok tmo (Zq2 p0 v2 y4 v13 v14) (lf1 [1, 3]) nl hQ hm hL fun r g => fun y15 => ⟨id, fun _ hm hL => ZcX co tok tmo (Zr3 p0 v2) (lf1 [1, 3]) nl hQ hm hL fun r g => id⟩))))⟩))), id⟩
set_option maxRecDepth 100000 in
theorem K_5 (p0 : Scm) : KC Try.prog 5 [.agg ((Zdw p0).map .d)] (Zak p0) E5 := kc1 Try.func5 Try.ntmps5 tok [.tmp 2] fun C co y hm Post hL => Za5 co tok tmo 2 (Zpf p0) (lf2 [1] [((1, 1), false)]) nl (fun _ h => h) hm hL fun r g => fun y1 => ⟨id, fun _ hm hL => sq (Za5 co tok tmo 1 (ZoB p0) (lf2 [1, 3] [((1, 1), false)]) nl (fun _ h => h) hm hL fun r g => fun _ hm hL => bk 0 (Zp4 co (ZoW p0) (lf1 [1, 3]) hm hL fun r g => fun _ hm hL => lo (lpF (Zs8 co p0) (fun _ h => h) hm hL (fun _ hm => ZcY co tok tmo (ZtY) hm hL fun r g => fun y16 => id))))⟩
end Go.Proofs.Ythhipejbnbochaa
namespace Go.Proofs.Ythhipejbnbochaa
set_option linter.all false
open Go Go.Eng Go.ChangeShapes Go.WideShapes Go.ChangeAt Go.RowKit
theorem ZlM {H : Type} (b : List UInt8) : Rows.uptoBulk (DataW.lit (H := H) (.string b)) = b.length + 1 := by simp only [Rows.uptoBulk]
theorem ZiU {H : Type} (a b : List (DataW H)) : Rows.uptoBulk (.slice a b) = Rows.uptoBulkAll a + Rows.uptoBulkAll b + 1 := by simp only [Rows.uptoBulk]
theorem Zl6 {H : Type} (a : List (DataW H)) : Rows.uptoBulk (.agg a) = Rows.uptoBulkAll a + 1 := by simp only [Rows.uptoBulk]
def ZfW (W : World) (ds : List D) (cs : List Value) (o : Nat) : Prop := ∀ (i : Nat) (d : D), ds[i]? = some d → ∃ c, cs[o + i]? = some c ∧ RepD W (· < W.heap.size) d c
def Zhc (W : World) (ds : List D) (cs : List Value) : Prop := ds.length = cs.length ∧ ZfW W ds cs 0
theorem ZfW.app {W : World} {ds es : List D} {cs : List Value} {o : Nat} (h : ZfW W ds cs o) (k : ZfW W es cs (o + ds.length)) : ZfW W (ds ++ es) cs o := fun i d hi => by
 rcases Yo i ds.length with hl | hl
 ·rw [Yi hl] at hi; exact h i d hi
 ·rw [Ym hl] at hi
  obtain ⟨c, h1, h2⟩ := k _ d hi
  grind
theorem ZfW.nil {W : World} {cs : List Value} {o : Nat} : ZfW W [] cs o := fun i d h => by simp at h
theorem Zhc.at {W : World} {ds : List D} {cs : List Value} {o k : Nat} (h : Zhc W ds ((cs.drop o).take k)) : ZfW W ds cs o := fun i d hi => by
 obtain ⟨c, h1, h2⟩ := h.2 i d hi
 grind
mutual
def bk : D → Nat
 | .int _ _ => 0
 | .bool _ => 0
 | .str s => s.size
 | .list es => ZpL es
 | .map _ es => ZpL es
def bkL : List D → Nat
 | [] => 0
 | d :: l => bk d + bkL l
def ZpL : List (List D) → Nat
 | [] => 0
 | e :: l => bkL e + 1 + ZpL l
end
theorem Zka : ∀ a b : List D, bkL (a ++ b) = bkL a + bkL b
 | [], b => by rw [Yag, bkL, Yz]
 | d :: a, b => by rw [YaH, bkL, bkL, Zka a b, Yx]
theorem Zkf (d : D) : bkL [d] = bk d := by rw [bkL, bkL, Y7]
theorem ZnL {α : Type} {e : α → List D} : ∀ l : List α, l.length ≤ ZpL (l.map e)
 | [] => Yal _
 | x :: l => by have := ZnL (e := e) l; rw [YN, ZpL, Yaa]; omega
section
variable {H : Type} (enc : TypeId × Value → H) (P : Program) (W : World)
def RdN {α : Type} (n : Nat) (t : TypeId) (e : α → List D) : Prop :=
 ∀ cs x, DataW.trod enc P W 0 (fun _ => true) true n t cs = some x → ∃ v : α, Zhc W (e v) cs ∧ bkL (e v) + 1 ≤ Rows.uptoBulk x.1
end
section
variable {H : Type} {enc : TypeId × Value → H} {P : Program} {W : World} {n : Nat} {t : TypeId}
theorem Zfl (d : DataW H) : 1 ≤ Rows.uptoBulk d := by cases d <;> (try (rename_i l; cases l)) <;> simp [Rows.uptoBulk]
theorem Zcg {d : D} {c : Value} (h : RepD W (· < W.heap.size) d c) : Zhc W [d] [c] := ⟨rfl, fun i d' hi => by
 cases i with
 | zero => cases hi; exact ⟨c, rfl, h⟩
 | succ i => simp at hi⟩
theorem Zbz {k : IntKind} (ht : P.underlying t = some (.int k)) : RdN enc P W n t (fun v : Int => [.int k v]) := fun cs x hx => by
 obtain ⟨m, rfl, rfl, _⟩ := DataW.trod_int ht hx
 exact ⟨m, Zcg (.int _ _), Zfl _⟩
theorem Zlg (ht : P.underlying t = some .bool) : RdN enc P W n t (fun v : Bool => [.bool v]) := fun cs x hx => by
 obtain ⟨m, rfl, rfl⟩ := DataW.trod_bool ht hx
 exact ⟨m, Zcg (.bool _), Zfl _⟩
theorem Zbx (ht : P.underlying t = some .string) : RdN enc P W n t (fun v : ByteArray => [.str v]) := fun cs x hx => by
 obtain ⟨m, rfl, rfl, _⟩ := DataW.trod_string ht hx
 refine ⟨m, Zcg (.str _), ?_⟩
 rw [ZlM, Zkf]
 exact Yg _
theorem Zna {α : Type} {e : α → List D} : ∀ (l : List α) (xs : List (DataW H × List MemPlace)), l.length = xs.length → (∀ (i : Nat) (v : α), l[i]? = some v → ∃ y : DataW H × List MemPlace, xs[i]? = some y ∧ bkL (e v) + 1 ≤ Rows.uptoBulk y.1) → ZpL (l.map e) ≤ Rows.uptoBulkAll (xs.map (·.1))
 | [], _, _, _ => Yal _
 | x :: l, [], h, _ => by cases h
 | x :: l, y :: xs, h, k => by
  have := Zna l xs (YaO h) (fun i v hi => k (i + 1) v hi)
  obtain ⟨y', h1, h2⟩ := k 0 x rfl
  cases h1
  rw [YN, YN, ZpL]
  simp only [Rows.uptoBulkAll]
  omega
theorem Zkh {α : Type} {Q : Nat → α → Prop} : ∀ (len : Nat), (∀ i, i < len → ∃ v, Q i v) → ∃ l : List α, l.length = len ∧ ∀ i v, l[i]? = some v → Q i v
 | 0, _ => ⟨[], rfl, fun i v h => by simp at h⟩
 | len + 1, h => by
  obtain ⟨l, h1, h2⟩ := Zkh len (fun i hi => h i (by omega))
  obtain ⟨v, hv⟩ := h len (by omega)
  refine ⟨l ++ [v], by simp [h1], fun i w hi => ?_⟩
  grind
theorem Zau {α : Type} {e : TypeId} {enc' : α → List D} {sz : Nat} (ht : P.underlying t = some (.slice e)) (hsz : P.cellsOf e = sz) (hs0 : sz ≠ 0) (hl : ∀ x, (enc' x).length = sz) (h : ∀ m, m < n → RdN enc P W m e enc') :
  RdN enc P W n t (fun l : List α => [.list (l.map enc')]) := fun cs x hx => by
 rcases DataW.trod_slice ht hx with ⟨rfl, rfl⟩ | ⟨a, len, cap, elems, rest, m, rfl, rfl, rfl, hb, hlc, hcm, hel, hi, _, _⟩
 ·exact ⟨[], Zcg .nil, Zfl _⟩
 ·have each : ∀ i, i < len → ∃ v : α, ∃ y cs', elems[i]? = some y ∧ W.cells? 0 (a.add (i * sz)) sz = some cs' ∧ Zhc W (enc' v) cs' ∧ bkL (enc' v) + 1 ≤ Rows.uptoBulk y.1 := fun i hlt => by
   have h1 := hi i hlt
   rw [Yc (by omega), hsz] at h1
   obtain ⟨cs', h2, h3⟩ := Yba.1 h1
   obtain ⟨v, h4, h5⟩ := h m (by omega) cs' _ h3
   exact ⟨v, _, cs', Yc (by omega), h2, h4, h5⟩
  obtain ⟨l, hll, hlq⟩ := Zkh len each
  have cell : ∀ (i j : Nat) (e' : List D) (x : D), (l.map enc')[i]? = some e' → e'[j]? = some x → ∃ c, W.cell? (a.add (i * sz + j)) = some c ∧ RepD W (· < W.heap.size) x c := fun i j e' x hi' hj => by
   rw [Yt] at hi'
   cases hv : l[i]? with
   | none => rw [hv] at hi'; cases hi'
   | some v =>
    rw [hv] at hi'
    cases hi'
    obtain ⟨y, cs', g1, g2, g3, g4⟩ := hlq i v hv
    obtain ⟨c, g5, g6⟩ := g3.2 j x hj
    rw [Yz] at g5
    obtain ⟨_, g7, g8⟩ := World.cells?_some g2
    have hjl : j < sz := by
     rw [← hl v]
     rcases Yo j (enc' v).length with h | h
     ·exact h
     ·rw [Yy h] at hj; cases hj
    refine ⟨c, ?_, g6⟩
    rw [← Go.Eng.add_add, g8 j hjl, g5]
  refine ⟨l, Zcg ?_, ?_⟩
  ·have hlen : (l.map enc').length = len := by simp [hll]
   have := RepD.list (w := W) (S := (· < W.heap.size)) (l.map enc') a sz cap (fun i j => (W.cell? (a.add (i * sz + j))).getD undef) (fun hne => by
     have h0 : 0 < len := by
      rcases YaZ len with h | h
      ·exact absurd (YH (hlen.trans h)) hne
      ·exact h
     obtain ⟨v, y, cs', _, g2, _⟩ := each 0 h0
     have := World.cells?_block g2 (by omega)
     rw [Y8] at this
     rw [← Go.Eng.block_add a 0]; exact this)
    (by rw [hlen]; exact hlc) (fun e' he => by obtain ⟨y, _, rfl⟩ := YB.1 he; exact hl y)
    (fun i j e' x hi' hj => by obtain ⟨c, g1, _⟩ := cell i j e' x hi' hj; rw [g1]; rfl)
    (fun i j e' x hi' hj => by obtain ⟨c, g1, g2⟩ := cell i j e' x hi' hj; rw [g1]; exact g2)
   rw [hlen] at this
   exact this
  ·rw [ZiU, Zkf, bk]
   have := Zna (e := enc') l elems (by omega) (fun i v hv => by
    obtain ⟨y, cs', g1, g2, g3, g4⟩ := hlq i v hv
    exact ⟨y, g1, g4⟩)
   omega
def FB (xs : List (DataW H × List MemPlace)) (i : Nat) : Nat := Rows.uptoBulkAll ((xs.drop i).map (·.1))
theorem Zal {xs : List (DataW H × List MemPlace)} {i : Nat} {a b : List D} (h : bkL a + 1 + FB xs (i + 1) ≤ FB xs i) (k : bkL b ≤ FB xs (i + 1)) : bkL (a ++ b) ≤ FB xs i := by
 rw [Zka]; omega
theorem Zbv {xs : List (DataW H × List MemPlace)} {i : Nat} {a : List D} (h : bkL a + 1 + FB xs (i + 1) ≤ FB xs i) : bkL a ≤ FB xs i := by omega
theorem ZbC {xs : List (DataW H × List MemPlace)} {a : List D} (h : bkL a ≤ FB xs 0) : bkL a + 1 ≤ Rows.uptoBulk (.agg (xs.map (·.1))) := by
 rw [Zl6]; exact Nat.succ_le_succ h
theorem Zms {α : Type} {e : α → List D} {m i : Nat} {t' : TypeId} {piece : List Value} {xs : List (DataW H × List MemPlace)} (h : RdN enc P W m t' e) (hf : DataW.trod enc P W 0 (fun _ => true) true m t' piece = xs[i]?) (hi : i < xs.length) :
  ∃ v, Zhc W (e v) piece ∧ bkL (e v) + 1 + FB xs (i + 1) ≤ FB xs i := by
 rw [Yc hi] at hf
 obtain ⟨v, h1, h2⟩ := h _ _ hf
 refine ⟨v, h1, ?_⟩
 unfold FB
 rw [Y4 hi, YN]
 simp only [Rows.uptoBulkAll]
 omega
theorem rf {α : Type} {e : α → List D} {m i k : Nat} {t' : TypeId} {piece : List Value} {xs : List (DataW H × List MemPlace)} (h : RdN enc P W m t' e) (hf : DataW.trod enc P W 0 (fun _ => true) true m t' piece = xs[i]?) (hx : xs.length = k) (hi : Nat.blt i k = true := by kernel_rfl) :
  ∃ v, Zhc W (e v) piece ∧ bkL (e v) + 1 + FB xs (i + 1) ≤ FB xs i := Zms h hf (by rw [hx]; exact Ye hi)
theorem Zlf {α : Type} {e e' : α → List D} (he : ∀ x, e x = e' x) (h : RdN enc P W n t e') : RdN enc P W n t e := fun cs x hx => by
 obtain ⟨v, h1, h2⟩ := h cs x hx
 grind
theorem Zn4 {α : Type} {e : α → List D} {fs : Array Field} {r : Reach} {base : Nat} {v : Value} {d : DataW H} {p : List MemPlace} (rd : ∀ n, RdN enc P W n t e) (ht : P.underlying t = some (.struct fs)) (hv : Value.okWide P W r base t v)
  (h : DataW.Trod enc P W 0 (fun _ => true) true t v d p) : ∃ x : α, (∀ m l, RepA W (· < W.heap.size) (fun _ => ⟨0, false, 0, 0, []⟩) m l (.agg ((e x).map .d)) v) ∧ bkL (e x) + 1 ≤ Rows.uptoBulk d := by
 obtain ⟨cs, rfl, _⟩ := okWide_struct ht hv
 obtain ⟨n, hn⟩ := h
 obtain ⟨x, h1, h2⟩ := rd n _ _ hn
 have hl : (e x).length = cs.size := by rw [h1.1]; simp [Value.cells]
 have key : ∀ (i : Nat) (c : Value) , cs[i]? = some c → ∃ d, (e x)[i]? = some d ∧ RepD W (· < W.heap.size) d c := fun i c hc => by
  have hlt : i < (e x).length := by
   grind
  obtain ⟨c', h3, h4⟩ := h1.2 i _ (Yc hlt)
  have : c' = c := by
   rw [Yz] at h3
   have : cs.toList[i]? = some c' := h3
   grind
  grind
 refine ⟨x, fun m l => .agg _ _ (by rw [Yq, hl]) (fun i c hc => ?_) (fun i y c hy hc => ?_), h2⟩
 ·obtain ⟨d, _, h3⟩ := key i c hc; exact h3.one
 ·obtain ⟨d, h3, h4⟩ := key i c hc
  rw [Yt, h3] at hy
  cases hy
  exact .d _ _ h4
def Hp0 : Hp := fun _ => ⟨0, false, 0, 0, []⟩
theorem ok0 (m : Mu) : Ok 0 Hp0 m (· < W.heap.size) W := ⟨fun _ h => h, fun _ _ h => (by cases h), fun _ _ h => (by cases h), fun _ _ _ _ h => (by cases h), fun _ _ h => (by cases h), ⟨fun _ _ h => (by cases h), fun _ _ h => (by cases h), fun _ _ _ _ h => (by cases h)⟩⟩
def ZuR (w : World) (S : Nat → Prop) (Hp : Hp) (m : Mu) (l : Nat) : List AV → List Value → Prop
 | [], [] => True
 | x :: xs, v :: vs => RepA w S Hp m l x v ∧ ZuR w S Hp m l xs vs
 | _, _ => False
theorem ZnS {w : World} {S : Nat → Prop} {Hp : Hp} {m : Mu} {l : Nat} {xs : List AV} {vs : List Value} (h : ZuR w S Hp m l xs vs) : ZcE w S Hp m l xs vs.toArray := by
 suffices hh : xs.length = vs.length ∧ ∀ (i : Nat) (x : AV) (v : Value), xs[i]? = some x → vs[i]? = some v → RepA w S Hp m l x v by
  exact ⟨by simpa using hh.1, fun i x v hx hv => hh.2 i x v hx (by simpa using hv)⟩
 induction xs generalizing vs with
 | nil => cases vs with
  | nil => exact ⟨rfl, fun i x v h => by simp at h⟩
  | cons _ _ => exact h.elim
 | cons x xs ih => cases vs with
  | nil => exact h.elim
  | cons v vs =>
   obtain ⟨h1, h2⟩ := ih h.2
   refine ⟨by simp [h1], fun i y u hy hu => ?_⟩
   cases i with
   | zero => simp at hy hu; subst hy; subst hu; exact h.1
   | succ i => exact h2 i y u (by simpa using hy) (by simpa using hu)
theorem ZkO {f : Func} {s : ChangeSpec} {W' : World} {args : Array Value} {ds gs : List (DataW H)} {before : List MemPlace} {u : TypeId} (hW : DataW.Whole enc P f.params.toList s.vars false W args.toList ds gs before) (hvars : s.vars = [])
  (hlaid : laidOutB P = true) (hrd : ∀ t ∈ f.params.toList, P.readableRec t = true ∧ t < P.types.size) (hres : f.resultTypes.toList = [u]) (hu : P.underlying u = some .bool)
  (hfn : s.fn H (ds ++ gs) = { results := [.lit (.bool true)], args := ds }) (hb : Below W.heap.size W W') : s.post enc P f false true false false W args (.bool true) W' := by
 obtain ⟨p, q, hA, hV, rfl, hfz, hnd⟩ := id hW
 rw [hvars] at hV
 obtain ⟨rfl, rfl⟩ := trodVars_none hV
 refine ⟨ds, [], p ++ [], [], p, [], hW, ?_, ?_, ?_, ?_, fun h => by cases h⟩
 ·rw [hfn, hres]
  have : (Value.bool true).resultList f.resultTypes.size = [.bool true] := by
   have : f.resultTypes.size = 1 := by rw [← YV, hres]; rfl
   rw [this]; rfl
  rw [this]
  exact trodAll_cons_mk (shut_bool hu _) trodAll_mk0
 ·rw [hfn]
  have key : ∀ (ts : List TypeId) (vs : List Value) (es : List (DataW H)) (ps : List MemPlace), (∀ t ∈ ts, P.readableRec t = true ∧ t < P.types.size) → DataW.TrodAll enc P W 0 (fun _ => true) true ts vs es ps →
    DataW.TrodAll enc P W' 0 (fun b => decide (b < W.heap.size)) true ts vs es ps := by
   intro ts
   induction ts with
   | nil => intro vs es ps _ h; obtain ⟨rfl, rfl, rfl⟩ := trodAll_nil h; exact trodAll_mk0
   | cons t ts ih =>
    intro vs es ps hr h
    have hlt := DataW.TrodAll.lt h
    obtain ⟨v, vs1, d, ds1, a, b, rfl, rfl, rfl, h1, h2⟩ := trodAll_cons h
    exact trodAll_cons_mk (Below.trod hlaid (hr t (by simp)).1 (hr t (by simp)).2 h1 hb (fun x hx => hlt x (Y0 _ hx))) (ih _ _ _ (fun t ht => hr t (by simp [ht])) h2)
  exact key _ _ _ _ hrd hA
 ·rw [hvars, hfn]; exact rfl
 ·refine ⟨hb.os, hb.output, fun i hi => ?_⟩
  rw [hb.block i hi]
  cases W.heap[i]? with
  | none => rfl
  | some o => cases o <;> simp
end
end Go.Proofs.Ythhipejbnbochaa
namespace Go.Proofs.Ythhipejbnbochaa
set_option linter.all false
open Go Go.Eng
section
variable {H : Type} {enc : TypeId × Value → H} {W : World}
set_option maxRecDepth 100000
theorem Zs2 (n : Nat) : RdN enc Try.prog W n 159 Zl4 := fun cs x hx => by
 obtain ⟨xs, m, rfl, rfl, hcl, hxl, hf⟩ := DataW.trod_struct Try.underlying159 hx
 obtain ⟨v0, r0, b0⟩ := rf (Zbz Try.underlying3) (hf 0 _ rfl) hxl
 obtain ⟨v1, r1, b1⟩ := rf (Zbz Try.underlying3) (hf 1 _ rfl) hxl
 obtain ⟨v2, r2, b2⟩ := rf (Zbz Try.underlying49) (hf 2 _ rfl) hxl
 obtain ⟨v3, r3, b3⟩ := rf (Zbx Try.underlying9) (hf 3 _ rfl) hxl
 have q := ZbC (Zal b0 (Zal b1 (Zal b2 (Zbv b3))))
 exact ⟨.mk v0 v1 v2 v3, ⟨by rw [hcl]; kernel_rfl, (r0.at.app (r1.at.app (r2.at.app r3.at)))⟩, q⟩
theorem Zme (n : Nat) (h : ∀ k, k < n → RdN enc Try.prog W k 55 ZnW) : RdN enc Try.prog W n 155 ePr := fun cs x hx => by
 obtain ⟨xs, m, rfl, rfl, hcl, hxl, hf⟩ := DataW.trod_struct Try.underlying155 hx
 obtain ⟨v0, r0, b0⟩ := rf (h m (by omega)) (hf 0 _ rfl) hxl
 obtain ⟨v1, r1, b1⟩ := rf (h m (by omega)) (hf 1 _ rfl) hxl
 have q := ZbC (Zal b0 (Zbv b1))
 exact ⟨.mk v0 v1, ⟨by rw [hcl]; kernel_rfl, (r0.at.app r1.at)⟩, q⟩
theorem Zky (n : Nat) (h : ∀ k, k < n → RdN enc Try.prog W k 55 ZnW) : RdN enc Try.prog W n 157 Zt0 := fun cs x hx => by
 obtain ⟨xs, m, rfl, rfl, hcl, hxl, hf⟩ := DataW.trod_struct Try.underlying157 hx
 obtain ⟨v0, r0, b0⟩ := rf (Zbz Try.underlying3) (hf 0 _ rfl) hxl
 obtain ⟨v1, r1, b1⟩ := rf (h m (by omega)) (hf 1 _ rfl) hxl
 have q := ZbC (Zal b0 (Zbv b1))
 exact ⟨.mk v0 v1, ⟨by rw [hcl]; kernel_rfl, (r0.at.app r1.at)⟩, q⟩
theorem Zm2 (n : Nat) : RdN enc Try.prog W n 55 ZnW := by
 induction n using Nat.strongRecOn with
 | ind n ih =>
 intro cs x hx
 obtain ⟨xs, m, rfl, rfl, hcl, hxl, hf⟩ := DataW.trod_struct Try.underlying55 hx
 obtain ⟨v0, r0, b0⟩ := rf (Zbz Try.underlying3) (hf 0 _ rfl) hxl
 obtain ⟨v1, r1, b1⟩ := rf (Zbz Try.underlying49) (hf 1 _ rfl) hxl
 obtain ⟨v2, r2, b2⟩ := rf (Zbx Try.underlying9) (hf 2 _ rfl) hxl
 obtain ⟨v3, r3, b3⟩ := rf (Zau Try.underlying50 (by kernel_rfl : Try.prog.cellsOf 55 = 7) (by decide) (fun x => by rw [Zfz]; rfl) (fun k hk => (Zlf Zfz (ih k (by omega))))) (hf 3 _ rfl) hxl
 obtain ⟨v4, r4, b4⟩ := rf (Zau Try.underlying51 (by kernel_rfl : Try.prog.cellsOf 155 = 14) (by decide) (fun x => by rw [Zng]; rfl) (fun k hk => (Zlf Zng (Zme k (fun j hj => ih j (by omega)))))) (hf 4 _ rfl) hxl
 obtain ⟨v5, r5, b5⟩ := rf (Zau Try.underlying52 (by kernel_rfl : Try.prog.cellsOf 157 = 8) (by decide) (fun x => by rw [Zkn]; rfl) (fun k hk => (Zlf Zkn (Zky k (fun j hj => ih j (by omega)))))) (hf 5 _ rfl) hxl
 obtain ⟨v6, r6, b6⟩ := rf (Zau Try.underlying53 (by kernel_rfl : Try.prog.cellsOf 159 = 4) (by decide) (fun _ => rfl) (fun k hk => (Zs2 k))) (hf 6 _ rfl) hxl
 have q := ZbC (Zal b0 (Zal b1 (Zal b2 (Zal b3 (Zal b4 (Zal b5 (Zbv b6)))))))
 exact ⟨.mk v0 v1 v2 v3 v4 v5 v6, ⟨by rw [hcl]; kernel_rfl, (r0.at.app (r1.at.app (r2.at.app (r3.at.app (r4.at.app (r5.at.app r6.at))))))⟩, q⟩
theorem Ztk (n : Nat) : RdN enc Try.prog W n 48 Zvy := fun cs x hx => by
 obtain ⟨xs, m, rfl, rfl, hcl, hxl, hf⟩ := DataW.trod_struct Try.underlying48 hx
 obtain ⟨v0, r0, b0⟩ := rf (Zbz Try.underlying3) (hf 0 _ rfl) hxl
 obtain ⟨v1, r1, b1⟩ := rf (Zbx Try.underlying9) (hf 1 _ rfl) hxl
 have q := ZbC (Zal b0 (Zbv b1))
 exact ⟨.mk v0 v1, ⟨by rw [hcl]; kernel_rfl, (r0.at.app r1.at)⟩, q⟩
theorem Zjo (n : Nat) : RdN enc Try.prog W n 153 eNt := fun cs x hx => by
 obtain ⟨xs, m, rfl, rfl, hcl, hxl, hf⟩ := DataW.trod_struct Try.underlying153 hx
 obtain ⟨v0, r0, b0⟩ := rf (Zbx Try.underlying9) (hf 0 _ rfl) hxl
 obtain ⟨v1, r1, b1⟩ := rf (Zm2 m) (hf 1 _ rfl) hxl
 have q := ZbC (Zal b0 (Zbv b1))
 exact ⟨.mk v0 v1, ⟨by rw [hcl]; kernel_rfl, (r0.at.app r1.at)⟩, q⟩
theorem Ztc (n : Nat) : RdN enc Try.prog W n 57 Zd7 := fun cs x hx => by
 obtain ⟨xs, m, rfl, rfl, hcl, hxl, hf⟩ := DataW.trod_struct Try.underlying57 hx
 obtain ⟨v0, r0, b0⟩ := rf (Zbz Try.underlying3) (hf 0 _ rfl) hxl
 obtain ⟨v1, r1, b1⟩ := rf (Zbx Try.underlying9) (hf 1 _ rfl) hxl
 obtain ⟨v2, r2, b2⟩ := rf (Zbz Try.underlying3) (hf 2 _ rfl) hxl
 obtain ⟨v3, r3, b3⟩ := rf (Zbz Try.underlying3) (hf 3 _ rfl) hxl
 obtain ⟨v4, r4, b4⟩ := rf (Ztk m) (hf 4 _ rfl) hxl
 obtain ⟨v5, r5, b5⟩ := rf (Zbx Try.underlying9) (hf 5 _ rfl) hxl
 obtain ⟨v6, r6, b6⟩ := rf (Zlg Try.underlying4) (hf 6 _ rfl) hxl
 obtain ⟨v7, r7, b7⟩ := rf (Zm2 m) (hf 7 _ rfl) hxl
 obtain ⟨v8, r8, b8⟩ := rf (Zau Try.underlying40 (by kernel_rfl : Try.prog.cellsOf 153 = 8) (by decide) (fun _ => rfl) (fun k hk => (Zjo k))) (hf 8 _ rfl) hxl
 have q := ZbC (Zal b0 (Zal b1 (Zal b2 (Zal b3 (Zal b4 (Zal b5 (Zal b6 (Zal b7 (Zbv b8)))))))))
 exact ⟨.mk v0 v1 v2 v3 v4 v5 v6 v7 v8, ⟨by rw [hcl]; kernel_rfl, (r0.at.app (r1.at.app (r2.at.app (r3.at.app (r4.at.app (r5.at.app (r6.at.app (r7.at.app r8.at))))))))⟩, q⟩
theorem ZmM (n : Nat) : RdN enc Try.prog W n 151 ZmX := fun cs x hx => by
 obtain ⟨xs, m, rfl, rfl, hcl, hxl, hf⟩ := DataW.trod_struct Try.underlying151 hx
 obtain ⟨v0, r0, b0⟩ := rf (Zbz Try.underlying3) (hf 0 _ rfl) hxl
 obtain ⟨v1, r1, b1⟩ := rf (Zbz Try.underlying3) (hf 1 _ rfl) hxl
 have q := ZbC (Zal b0 (Zbv b1))
 exact ⟨.mk v0 v1, ⟨by rw [hcl]; kernel_rfl, (r0.at.app r1.at)⟩, q⟩
theorem ZqP (n : Nat) : RdN enc Try.prog W n 42 Zcq := fun cs x hx => by
 obtain ⟨xs, m, rfl, rfl, hcl, hxl, hf⟩ := DataW.trod_struct Try.underlying42 hx
 obtain ⟨v0, r0, b0⟩ := rf (Zbx Try.underlying9) (hf 0 _ rfl) hxl
 obtain ⟨v1, r1, b1⟩ := rf (Zau Try.underlying38 (by kernel_rfl : Try.prog.cellsOf 57 = 16) (by decide) (fun _ => rfl) (fun k hk => (Ztc k))) (hf 1 _ rfl) hxl
 obtain ⟨v2, r2, b2⟩ := rf (Zau Try.underlying39 (by kernel_rfl : Try.prog.cellsOf 151 = 2) (by decide) (fun _ => rfl) (fun k hk => (ZmM k))) (hf 2 _ rfl) hxl
 obtain ⟨v3, r3, b3⟩ := rf (Zau Try.underlying31 (by kernel_rfl : Try.prog.cellsOf 9 = 1) (by decide) (fun _ => rfl) (fun k hk => (Zbx Try.underlying9))) (hf 3 _ rfl) hxl
 obtain ⟨v4, r4, b4⟩ := rf (Zau Try.underlying40 (by kernel_rfl : Try.prog.cellsOf 153 = 8) (by decide) (fun _ => rfl) (fun k hk => (Zjo k))) (hf 4 _ rfl) hxl
 have q := ZbC (Zal b0 (Zal b1 (Zal b2 (Zal b3 (Zbv b4)))))
 exact ⟨.mk v0 v1 v2 v3 v4, ⟨by rw [hcl]; kernel_rfl, (r0.at.app (r1.at.app (r2.at.app (r3.at.app r4.at))))⟩, q⟩
theorem Zsa (n : Nat) : RdN enc Try.prog W n 161 ZuH := fun cs x hx => by
 obtain ⟨xs, m, rfl, rfl, hcl, hxl, hf⟩ := DataW.trod_struct Try.underlying161 hx
 obtain ⟨v0, r0, b0⟩ := rf (Zbx Try.underlying9) (hf 0 _ rfl) hxl
 obtain ⟨v1, r1, b1⟩ := rf (Zbz Try.underlying3) (hf 1 _ rfl) hxl
 obtain ⟨v2, r2, b2⟩ := rf (Zau Try.underlying40 (by kernel_rfl : Try.prog.cellsOf 153 = 8) (by decide) (fun _ => rfl) (fun k hk => (Zjo k))) (hf 2 _ rfl) hxl
 have q := ZbC (Zal b0 (Zal b1 (Zbv b2)))
 exact ⟨.mk v0 v1 v2, ⟨by rw [hcl]; kernel_rfl, (r0.at.app (r1.at.app r2.at))⟩, q⟩
theorem Zsw (n : Nat) : RdN enc Try.prog W n 89 Zea := fun cs x hx => by
 obtain ⟨xs, m, rfl, rfl, hcl, hxl, hf⟩ := DataW.trod_struct Try.underlying89 hx
 obtain ⟨v0, r0, b0⟩ := rf (Zbx Try.underlying9) (hf 0 _ rfl) hxl
 obtain ⟨v1, r1, b1⟩ := rf (Zlg Try.underlying4) (hf 1 _ rfl) hxl
 obtain ⟨v2, r2, b2⟩ := rf (Zau Try.underlying87 (by kernel_rfl : Try.prog.cellsOf 161 = 3) (by decide) (fun _ => rfl) (fun k hk => (Zsa k))) (hf 2 _ rfl) hxl
 obtain ⟨v3, r3, b3⟩ := rf (Zau Try.underlying39 (by kernel_rfl : Try.prog.cellsOf 151 = 2) (by decide) (fun _ => rfl) (fun k hk => (ZmM k))) (hf 3 _ rfl) hxl
 obtain ⟨v4, r4, b4⟩ := rf (Zau Try.underlying40 (by kernel_rfl : Try.prog.cellsOf 153 = 8) (by decide) (fun _ => rfl) (fun k hk => (Zjo k))) (hf 4 _ rfl) hxl
 have q := ZbC (Zal b0 (Zal b1 (Zal b2 (Zal b3 (Zbv b4)))))
 exact ⟨.mk v0 v1 v2 v3 v4, ⟨by rw [hcl]; kernel_rfl, (r0.at.app (r1.at.app (r2.at.app (r3.at.app r4.at))))⟩, q⟩
theorem Zq8 (n : Nat) : RdN enc Try.prog W n 164 Zux := fun cs x hx => by
 obtain ⟨xs, m, rfl, rfl, hcl, hxl, hf⟩ := DataW.trod_struct Try.underlying164 hx
 obtain ⟨v0, r0, b0⟩ := rf (Zbx Try.underlying9) (hf 0 _ rfl) hxl
 obtain ⟨v1, r1, b1⟩ := rf (Zbx Try.underlying9) (hf 1 _ rfl) hxl
 obtain ⟨v2, r2, b2⟩ := rf (Zbx Try.underlying9) (hf 2 _ rfl) hxl
 obtain ⟨v3, r3, b3⟩ := rf (Zbz Try.underlying3) (hf 3 _ rfl) hxl
 obtain ⟨v4, r4, b4⟩ := rf (Zau Try.underlying40 (by kernel_rfl : Try.prog.cellsOf 153 = 8) (by decide) (fun _ => rfl) (fun k hk => (Zjo k))) (hf 4 _ rfl) hxl
 have q := ZbC (Zal b0 (Zal b1 (Zal b2 (Zal b3 (Zbv b4)))))
 exact ⟨.mk v0 v1 v2 v3 v4, ⟨by rw [hcl]; kernel_rfl, (r0.at.app (r1.at.app (r2.at.app (r3.at.app r4.at))))⟩, q⟩
theorem Zry (n : Nat) : RdN enc Try.prog W n 149 ZfG := fun cs x hx => by
 obtain ⟨xs, m, rfl, rfl, hcl, hxl, hf⟩ := DataW.trod_struct Try.underlying149 hx
 obtain ⟨v0, r0, b0⟩ := rf (Zbx Try.underlying9) (hf 0 _ rfl) hxl
 obtain ⟨v1, r1, b1⟩ := rf (Zau Try.underlying147 (by kernel_rfl : Try.prog.cellsOf 164 = 5) (by decide) (fun _ => rfl) (fun k hk => (Zq8 k))) (hf 1 _ rfl) hxl
 obtain ⟨v2, r2, b2⟩ := rf (Zau Try.underlying40 (by kernel_rfl : Try.prog.cellsOf 153 = 8) (by decide) (fun _ => rfl) (fun k hk => (Zjo k))) (hf 2 _ rfl) hxl
 have q := ZbC (Zal b0 (Zal b1 (Zbv b2)))
 exact ⟨.mk v0 v1 v2, ⟨by rw [hcl]; kernel_rfl, (r0.at.app (r1.at.app r2.at))⟩, q⟩
theorem Zth (n : Nat) : RdN enc Try.prog W n 26 Zdw := fun cs x hx => by
 obtain ⟨xs, m, rfl, rfl, hcl, hxl, hf⟩ := DataW.trod_struct Try.underlying26 hx
 obtain ⟨v0, r0, b0⟩ := rf (Zau Try.underlying22 (by kernel_rfl : Try.prog.cellsOf 42 = 5) (by decide) (fun _ => rfl) (fun k hk => (ZqP k))) (hf 0 _ rfl) hxl
 obtain ⟨v1, r1, b1⟩ := rf (Zau Try.underlying23 (by kernel_rfl : Try.prog.cellsOf 89 = 5) (by decide) (fun _ => rfl) (fun k hk => (Zsw k))) (hf 1 _ rfl) hxl
 obtain ⟨v2, r2, b2⟩ := rf (Zau Try.underlying24 (by kernel_rfl : Try.prog.cellsOf 149 = 3) (by decide) (fun _ => rfl) (fun k hk => (Zry k))) (hf 2 _ rfl) hxl
 have q := ZbC (Zal b0 (Zal b1 (Zbv b2)))
 exact ⟨.mk v0 v1 v2, ⟨by rw [hcl]; kernel_rfl, (r0.at.app (r1.at.app r2.at))⟩, q⟩
end
end Go.Proofs.Ythhipejbnbochaa
namespace Go.Eng
set_option linter.all false
open Go Go.RowKit
section
variable {σ ξ ρ α β γ : Type}
def Zgo (g : β → α → β ⊕ ρ) : β → List α → β ⊕ ρ
 | b, [] => .inl b
 | b, x :: l => match g b x with
  | .inl b' => Zgo g b' l
  | .inr r => .inr r
theorem Zgn {B : σ → Option (Lv σ ξ ρ)} {N : Nat} (l : List α) (mk : Nat → β → σ) (I : Nat → β → Prop) (g : β → α → β ⊕ ρ) (e : β → ξ)
  (hs : ∀ i b x, l[i]? = some x → I i b → B (mk i b) = some (Sum.elim (fun b' => Lv.nx (mk (i + 1) b')) Lv.rt (g b x)) ∧ ∀ b', g b x = .inl b' → I (i + 1) b')
  (he : ∀ b, I l.length b → B (mk l.length b) = some (.ex (e b))) (b0 : β) (h0 : I 0 b0) (hN : l.length < N) : ZaI B N (mk 0 b0) = some (Sum.map e id (Zgo g b0 l)) := by
 suffices H : ∀ k i b N, i + k = l.length → I i b → k < N → ZaI B N (mk i b) = some (Sum.map e id (Zgo g b (l.drop i))) by
  have := H l.length 0 b0 N (by omega) h0 hN
  simpa using this
 intro k
 induction k with
 | zero =>
  intro i b N hi hI hN
  obtain ⟨N, rfl⟩ : ∃ m, N = m + 1 := ⟨N - 1, by omega⟩
  have : i = l.length := by omega
  subst this
  rw [ZaI, he b hI, Ya9]
  rfl
 | succ k ih =>
  intro i b N hi hI hN
  obtain ⟨N, rfl⟩ : ∃ m, N = m + 1 := ⟨N - 1, by omega⟩
  have hlt : i < l.length := by omega
  obtain ⟨h1, h2⟩ := hs i b l[i] (Yc hlt) hI
  rw [ZaI, h1, Y4 hlt, Zgo]
  cases hg : g b l[i] with
  | inl b' => exact ih (i + 1) b' N (by omega) (h2 b' hg) (by omega)
  | inr r => rfl
theorem Zgu {B : Nat → Option (Lv Nat ξ ρ)} {N : Nat} (l : List α) (p : α → Bool) (f : Nat → ρ) (e : ξ)
  (hs : ∀ i x, l[i]? = some x → B i = some (if p x = true then .rt (f i) else .nx (i + 1))) (he : B l.length = some (.ex e)) (hN : l.length < N) :
  ZaI B N 0 = some (match l.findIdx? p with | some i => .inr (f i) | none => .inl e) := by
 suffices H : ∀ k i N, i + k = l.length → k < N → ZaI B N i = some (match (l.drop i).findIdx? p with | some j => .inr (f (i + j)) | none => .inl e) by
  have := H l.length 0 N (by omega) hN
  simpa using this
 intro k
 induction k with
 | zero =>
  intro i N hi hN
  obtain ⟨N, rfl⟩ : ∃ m, N = m + 1 := ⟨N - 1, by omega⟩
  have : i = l.length := by omega
  subst this
  rw [ZaI, he, Ya9]
  rfl
 | succ k ih =>
  intro i N hi hN
  obtain ⟨N, rfl⟩ : ∃ m, N = m + 1 := ⟨N - 1, by omega⟩
  have hlt : i < l.length := by omega
  rw [ZaI, hs i l[i] (Yc hlt), Y4 hlt, Ya1]
  cases hp : p l[i] with
  | true => simp
  | false =>
   simp only [YaX, if_false]
   rw [ih (i + 1) N (by omega) (by omega)]
   cases (List.drop (i + 1) l).findIdx? p with
   | none => rfl
   | some j => simp [Yx, Ya7 1 j]
theorem ZgH {g : β → α → β ⊕ ρ} (h : β → α → β) (hg : ∀ b x, g b x = .inl (h b x)) : ∀ (l : List α) (b : β), Zgo g b l = .inl (l.foldl h b)
 | [], b => rfl
 | x :: l, b => by rw [Zgo, hg]; exact ZgH h hg l _
def ZeO (R : List α → α → Option ρ) : List α → List α → Option ρ
 | _, [] => none
 | p, x :: l => match R p x with
  | some r => some r
  | none => ZeO R (p ++ [x]) l
theorem Zml {B : σ → Option (Lv σ ξ ρ)} {N : Nat} (l : List α) (S : List α → β) (R : List α → α → Option ρ) (mk : Nat → β → σ) (e : β → ξ)
  (hs : ∀ i x, l[i]? = some x → B (mk i (S (l.take i))) = some (match R (l.take i) x with | some r => .rt r | none => .nx (mk (i + 1) (S (l.take i ++ [x])))))
  (he : B (mk l.length (S l)) = some (.ex (e (S l)))) (hN : l.length < N) : ZaI B N (mk 0 (S [])) = some ((ZeO R [] l).elim (.inl (e (S l))) .inr) := by
 suffices H : ∀ k i N, i + k = l.length → k < N → ZaI B N (mk i (S (l.take i))) = some ((ZeO R (l.take i) (l.drop i)).elim (.inl (e (S l))) .inr) by
  have := H l.length 0 N (by omega) hN
  grind
 intro k
 induction k with
 | zero =>
  intro i N hi hN
  obtain ⟨N, rfl⟩ : ∃ m, N = m + 1 := ⟨N - 1, by omega⟩
  have : i = l.length := by omega
  subst this
  rw [ZaI, YaK, he, Ya9]
  rfl
 | succ k ih =>
  intro i N hi hN
  obtain ⟨N, rfl⟩ : ∃ m, N = m + 1 := ⟨N - 1, by omega⟩
  have hlt : i < l.length := by omega
  rw [ZaI, hs i l[i] (Yc hlt), Y4 hlt, ZeO]
  cases R (l.take i) l[i] with
  | some r => rfl
  | none =>
   have := ih (i + 1) N (by omega) (by omega)
   rw [Yab hlt] at this
   exact this
theorem Zel {R : List α → α → Option ρ} (h : ∀ p x, R p x = none) : ∀ (l p : List α), ZeO R p l = none
 | [], p => rfl
 | x :: l, p => by rw [ZeO, h]; exact Zel h l _
theorem Zge {B : σ → Option (Lv σ ξ ρ)} {N : Nat} (l : List α) (S : List α → β) (mk : Nat → β → σ) (e : β → ξ)
  (hs : ∀ i x, l[i]? = some x → B (mk i (S (l.take i))) = some (.nx (mk (i + 1) (S (l.take i ++ [x])))))
  (he : B (mk l.length (S l)) = some (.ex (e (S l)))) (hN : l.length < N) : ZaI B N (mk 0 (S [])) = some (.inl (e (S l))) := by
 rw [Zml l S (fun _ _ => none) mk e hs he hN, Zel fun _ _ => rfl]
 rfl
theorem ZcN {B : σ → Option (Lv σ ξ ρ)} (I : Nat → σ → Prop) (Q : ξ ⊕ ρ → Prop)
  (h : ∀ k v, I k v → ∃ o, B v = some o ∧ match o with | .nx v' => ∃ k', k' < k ∧ I k' v' | .ex b => Q (.inl b) | .rt y => Q (.inr y)) :
  ∀ N k v, k < N → I k v → ∃ o, ZaI B N v = some o ∧ Q o
 | 0, k, v, hk, _ => absurd hk (Yah _)
 | N + 1, k, v, hk, hI => by
  obtain ⟨o, h1, h2⟩ := h k v hI
  rw [ZaI, h1]
  cases o with
  | nx v' => obtain ⟨k', h3, h4⟩ := h2; exact ZcN I Q h N k' v' (by omega) h4
  | ex b => exact ⟨_, rfl, h2⟩
  | rt y => exact ⟨_, rfl, h2⟩
theorem Zgp {l : List α} {i : Nat} {x : α} (h : l[i]? = some x) : (i : Int) < (l.length : Int) := by
 grind
theorem Zcc {n : Nat} (h : n < 4611686018427387904) : n < big := h
end
end Go.Eng
