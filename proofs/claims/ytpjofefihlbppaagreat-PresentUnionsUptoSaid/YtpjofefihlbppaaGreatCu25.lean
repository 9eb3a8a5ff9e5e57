import Derived.Test.YtpjofefihlbppaaGreatCu24
import Derived.Test.YtpjofefihlbppaaGreatCu00
namespace Go.Proofs.YtpjofefihlbppaaGreat
set_option linter.all false
open Go Go.Eng
abbrev E24 : Int → AV := fun y => vI y
def ZDY (p0 : List Slt) (p1 : Int) : PT 0 (Int) := cs Tryz.prog 52 [vL Zar p0, .fn (.func 53) [] [.ptr (1, 3) 1 0]] [(1, 3)] [((1, 3), ⟨1, true, 3, 1, [vI p1]⟩)] (Zcw p0 (fun (z0 : Slt) => Zcm z0 p1)) (fun y => vI y) fun y1 => lr E24 (fun _ => []) y1
def Zf2 (p0 : List Slt) (p1 : Int) : Option (Int) := (ZDY p0 p1).m
set_option maxRecDepth 100000 in
theorem ZIh (p0 : List Slt) (p1 : Int) : KC Tryz.prog 24 [vL Zar p0, vI p1] (Zf2 p0 p1) E24 := kc1 Tryz.func24 Tryz.ntmps24 tok [.tmp 4] fun C co y hm Post hL => ZaE co tok tmo (ZDY p0 p1) hm hL fun r g => ⟨fun y hy => Zb3 (ZG6 p0 (fun (z0 : Slt) => Zcm z0 p1)) hy co g [] [((1, 3), ⟨1, true, 3, 1, [vI p1]⟩)] (lkS [(1, .fn (.func 53) [] [.ptr (r.κ (1, 3)) (r.γ (1, 3) + 1) 0])]) (fun H' hg ho => (fun z0 y hz => Zer (ZJR z0 p1) hz co g [((1, 3), ⟨1, true, 3, 1, [vI p1]⟩)] [] hg (by simp) (fun _ => .top) (fun _ _ => trivial) (fun l H => ⟨fun _ => ⟨rfl, by kernel_rfl⟩, by kernel_rfl, trivial⟩))) (fun H => trivial), fun y1 => id⟩
abbrev E82 : Bool → AV := fun y => vB y
def ZzU (p0 : Int) : PT 0 (Bool) := lr E82 (fun _ => []) (decide ((1 : Int) ≤ p0) && decide (p0 ≤ (9 : Int)))
def Zja (p0 : Int) : Option (Bool) := (ZzU p0).m
set_option maxRecDepth 100000 in
theorem ZAC (p0 : Int) : KC Tryz.prog 82 [vI p0] (Zja p0) E82 := kc1 Tryz.func82 Tryz.ntmps82 tok [.tmp 2] fun C co y hm Post hL => ZaE co tok tmo (ZzU p0) hm hL fun r g => id
abbrev E54 : Val → AV := fun y => .agg ((ZaZ y).map .d)
def ZD0 (p0 : Int) : PT 0 (Val) := cl (ZAC p0) fun y1 => br (!y1) (vw .go <| lr E54 (fun _ => []) (.mk 0 0 ⟨#[]⟩ [] [] [] [] : Val)) (vw .go <| lr E54 (fun _ => []) (.mk p0 0 ⟨#[]⟩ [] [] [] [] : Val))
def ZgT (p0 : Int) : Option (Val) := (ZD0 p0).m
set_option maxRecDepth 100000 in
theorem ZI4 (p0 : Int) : KC Tryz.prog 54 [vI p0] (ZgT p0) E54 := kc1 Tryz.func54 Tryz.ntmps54 tok [.cell 2 33] fun C co y hm Post hL => ZaE co tok tmo (ZD0 p0) hm hL fun r g => fun y1 => ⟨id, id⟩
abbrev E25 : Val → AV := fun y => .agg ((ZaZ y).map .d)
def ZBl (p0 : Fld) : PT 0 (Val) := vw .go <| br p0.hasDefault (vw .go <| vw .go <| lr E25 (fun _ => []) p0.dflt) (vw .go <| br (decide (p0.card = (4 : Int))) (vw .go <| lr E25 (fun _ => []) (.mk 11 0 ⟨#[]⟩ [] [] [] [] : Val)) (vw .go <| br (decide (p0.card = (5 : Int))) (vw .go <| lr E25 (fun _ => []) (.mk 12 0 ⟨#[]⟩ [] [] [] [] : Val)) (vw .go <| br (decide (p0.type.kind = (10 : Int))) (vw .go <| lr E25 (fun _ => []) (.mk 10 0 ⟨#[]⟩ [] [] [] [] : Val)) (vw .go <| cl (ZI4 p0.type.kind) fun y1 => vw .go <| lr E25 (fun _ => []) y1))))
def ZfF (p0 : Fld) : Option (Val) := (ZBl p0).m
set_option maxRecDepth 100000 in
theorem ZIx (p0 : Fld) : KC Tryz.prog 25 [.agg ((Zat p0).map .d)] (ZfF p0) E25 := kc1 Tryz.func25 Tryz.ntmps25 tok [.cell 2 33] fun C co y hm Post hL => ZaE co tok tmo (ZBl p0) hm hL fun r g => ⟨id, ⟨id, ⟨id, ⟨id, fun y1 => id⟩⟩⟩⟩
abbrev E8 : Val × Int → AV := fun y => .tup [.agg ((ZaZ y.1).map .d), vI y.2]
def ZHN (p0 : Scm) (p1 : ByteArray) (p2 : Val) (p3 : Int) : PT 0 (Val × Int) := vw .go <| cl (ZHL p0 p1 p3) fun y1 => vw .go <| vw .go <| br (!decide (y1.2.2 = (0 : Int))) (vw .go <| lr E8 (fun _ => []) ((.mk 0 0 ⟨#[]⟩ [] [] [] [] : Val), y1.2.2)) (vw .go <| cl (ZIh p2.slots p3) fun y2 => br (decide ((0 : Int) ≤ y2)) (vw .go <| ixi p2.slots y2 fun e3 => vw .go <| lr E8 (fun _ => []) (e3.val, 0)) (vw .go <| cl (ZIx y1.2.1) fun y4 => vw .go <| lr E8 (fun _ => []) (y4, 0)))
def Zg0 (p0 : Scm) (p1 : ByteArray) (p2 : Val) (p3 : Int) : Option (Val × Int) := (ZHN p0 p1 p2 p3).m
set_option maxRecDepth 100000 in
theorem K_8 (p0 : Scm) (p1 : ByteArray) (p2 : Val) (p3 : Int) : KC Tryz.prog 8 [.agg ((Zcj p0).map .d), vS p1, .agg ((ZaZ p2).map .d), vI p3] (Zg0 p0 p1 p2 p3) E8 := kc1 Tryz.func8 Tryz.ntmps8 tok [.cell 8 33, .tmp 9] fun C co y hm Post hL => ZaE co tok tmo (ZHN p0 p1 p2 p3) hm hL fun r g => fun y1 => ⟨id, fun y2 => ⟨fun e3 => id, fun y4 => id⟩⟩
abbrev E10 : Bool → AV := fun y => vB y
def ZDP (p0 : Val) (p1 : Int) : PT 0 (Bool) := vw .go <| cl (ZIh p0.slots p1) fun y1 => lr E10 (fun _ => []) (decide ((0 : Int) ≤ y1))
def Zg7 (p0 : Val) (p1 : Int) : Option (Bool) := (ZDP p0 p1).m
set_option maxRecDepth 100000 in
theorem ZF9 (p0 : Val) (p1 : Int) : KC Tryz.prog 10 [.agg ((ZaZ p0).map .d), vI p1] (Zg7 p0 p1) E10 := kc1 Tryz.func10 Tryz.ntmps10 tok [.tmp 4] fun C co y hm Post hL => ZaE co tok tmo (ZDP p0 p1) hm hL fun r g => fun y1 => id
abbrev E60 : Int → AV := fun y => vI y
def H60 (pf1 : Fld → Option Bool) : Cl := fun no l H θ => (∀ (z0 : Fld) y, pf1 z0 = some y → ZhL Tryz.prog l no H (θ 1) [.agg ((Zat z0).map .d)] (vB y))
def ZCj (p0 : List Fld) : Nat → St := fun v1 => mkS [(0, vL Zat p0), (1, .fn (.yield 1) [] []), (7, vN p0.length), (8, vN v1)] []
def Zz9 : Unit → Nat × St := fun _ => (0, mkS [] [])
def ZqJ (p0 : List Fld) (pf1 : Fld → Option Bool) (v1 : Nat) : PT 0 (Lv (Nat) (Unit) (Int)) := br (decide ((v1 : Int) < (p0.length : Int))) (ix p0 v1 fun e2 => cf Tryz.prog 1 [.agg ((Zat e2).map .d)] (pf1 e2) (fun y => vB y) fun y3 => br y3 (lrt E60 (fun _ => []) (v1 : Int)) (vs (wa v1 1) <| ln (ZCj p0) (v1 + 1))) (lxe (Zz9) ())
def ZlL (p0 : List Fld) (pf1 : Fld → Option Bool) : Nat → Option (Lv (Nat) (Unit) (Int)) := fun v1 => (ZqJ p0 pf1 v1).m
def Zv7 : PT 0 (Int) := lr E60 (fun _ => []) (-1)
def ZxX (p0 : List Fld) (pf1 : Fld → Option Bool) : PT 0 (Int) := vz (eqL p0) <| lc (mkS [(0, vL Zat p0), (1, .fn (.yield 1) [] []), (7, vN p0.length), (8, vI 0)] []) ((Zag (ZlL p0 pf1) big 0).bind (Sum.elim (fun _ => (Zv7).m) some))
def Zya (p0 : List Fld) (pf1 : Fld → Option Bool) : PT 0 (Int) := lc (mkS [(0, vL Zat p0), (1, .fn (.yield 1) [] [])] []) ((ZxX p0 pf1).m)
def Zb2 (p0 : List Fld) (pf1 : Fld → Option Bool) : Option (Int) := (Zya p0 pf1).m
set_option maxRecDepth 100000 in
theorem ZuF {C : Cx} (co : CO C 0) (p0 : List Fld) (pf1 : Fld → Option Bool) (hT : (H60 pf1) C.no C.l C.H0 C.θ) : KL Tryz.prog (lkT tl) 19 C (pa [0, 0, 1, 0, 1] (Zah Tryz.f60)) [.tmp 4] 0 (ZCj p0) (Zz9) E60 (fun _ => []) (ZlL p0 pf1) := fun v1 _ hm Q Post hQ hL => ZbE co tok tmo (ZqJ p0 pf1 v1) (lf1 [0, 1, 7, 8]) nl hQ hm hL fun r g => ⟨fun e2 => ⟨⟨fun y hy => hT _ y hy, by intro r; kernel_rfl, by intro r y; kernel_rfl⟩, fun y3 => ⟨id, id⟩⟩, id⟩
set_option maxRecDepth 100000 in
theorem ZJS (p0 : List Fld) (pf1 : Fld → Option Bool) : KO Tryz.prog 60 0 [vL Zat p0, .fn (.yield 1) [] []] [] (H60 pf1) (Zb2 p0 pf1) E60 (fun _ => []) := ko1 Tryz.func60 Tryz.ntmps60 tok [.tmp 4] 0 (fun C co hT y hm Post hL => Zax co tok tmo 1 (Zya p0 pf1) (lf1 [0, 1]) nl (fun _ h => h) hm hL fun r g => fun _ hm hL => sq (Zax co tok tmo 1 (ZxX p0 pf1) (lf1 [0, 1, 7, 8]) nl (fun _ h => h) hm hL fun r g => fun _ hm hL => bk 0 (lo (lpF (ZuF co p0 pf1 hT) (fun _ h => h) hm hL (fun _ hm => ZaE co tok tmo (Zv7) hm hL fun r g => id)))))
abbrev Zrf : Int → AV := fun y => vI y
@[reducible] def ZqU (p0 : List Fld) : Int → List Blk := fun y => [⟨0, true, 51, 16, Zab Zat p0⟩]
def ZzA (pf1 : Fld → Option Bool) : Cl := fun no l H θ => (∀ (z0 : Fld) y, pf1 z0 = some y → ZhL Tryz.prog l no H (θ 1) [.agg ((Zat z0).map .d)] (vB y))
def ZoP (p0 : List Fld) : Nat → St := fun v1 => mkS [(0, .ref (0, 0) 0 0 p0.length), (1, .fn (.yield 1) [] []), (7, vN p0.length), (8, vN v1)] [((0, 0), ⟨0, true, 51, 16, Zab Zat p0⟩)]
def ZoO (p0 : List Fld) : Unit → Nat × St := fun _ => (0, mkS [] [((0, 0), ⟨0, true, 51, 16, Zab Zat p0⟩)])
def Zfr (p0 : List Fld) (pf1 : Fld → Option Bool) (v1 : Nat) : PT 1 (Lv (Nat) (Unit) (Int)) := br (decide ((v1 : Int) < (p0.length : Int))) (vs (ir v1 p0.length 16) <| ca p0 v1 fun e2 => cf Tryz.prog 1 [.agg ((Zat e2).map .d)] (pf1 e2) (fun y => vB y) fun y3 => br y3 (lrt Zrf (ZqU p0) (v1 : Int)) (vs (wa v1 1) <| vz (fl p0) <| ln (ZoP p0) (v1 + 1))) (vz (fl p0) <| lxe (ZoO p0) ())
def Zhi (p0 : List Fld) (pf1 : Fld → Option Bool) : Nat → Option (Lv (Nat) (Unit) (Int)) := fun v1 => (Zfr p0 pf1 v1).m
def Zfq (p0 : List Fld) : PT 1 (Int) := lr Zrf (ZqU p0) (-1)
def ZfG (p0 : List Fld) (pf1 : Fld → Option Bool) : PT 1 (Int) := vz (eqN p0.length) <| vz (fl p0) <| lc (mkS [(0, .ref (0, 0) 0 0 p0.length), (1, .fn (.yield 1) [] []), (7, vN p0.length), (8, vI 0)] [((0, 0), ⟨0, true, 51, 16, Zab Zat p0⟩)]) ((Zag (Zhi p0 pf1) big 0).bind (Sum.elim (fun _ => (Zfq p0).m) some))
def Zfj (p0 : List Fld) (pf1 : Fld → Option Bool) : PT 1 (Int) := vz (fl p0) <| lc (mkS [(0, .ref (0, 0) 0 0 p0.length), (1, .fn (.yield 1) [] [])] [((0, 0), ⟨0, true, 51, 16, Zab Zat p0⟩)]) ((ZfG p0 pf1).m)
def Zbs (p0 : List Fld) (pf1 : Fld → Option Bool) : Option (Int) := (Zfj p0 pf1).m
set_option maxRecDepth 100000 in
theorem Zpc {C : Cx} (co : CO C 1) (p0 : List Fld) (pf1 : Fld → Option Bool) (hT : (ZzA pf1) C.no C.l C.H0 C.θ) : KL Tryz.prog (lkT tl) 19 C (pa [0, 0, 1, 0, 1] (Zah Tryz.f60)) [.tmp 4] 1 (ZoP p0) (ZoO p0) Zrf (ZqU p0) (Zhi p0 pf1) := fun v1 _ hm Q Post hQ hL => ZbE co tok tmo (Zfr p0 pf1 v1) (lf2 [0, 1, 7, 8] [((0, 0), true)]) (lf2 [] [((0, 0), true)]) hQ hm hL fun r g => ⟨fun e2 => ⟨⟨fun y hy => hT _ y hy, by intro r; kernel_rfl, by intro r y; kernel_rfl⟩, fun y3 => ⟨id, id⟩⟩, id⟩
set_option maxRecDepth 100000 in
theorem ZCs (p0 : List Fld) (pf1 : Fld → Option Bool) : KO Tryz.prog 60 1 [.ref (0, 0) 0 0 p0.length, .fn (.yield 1) [] []] [⟨0, true, 51, 16, Zab Zat p0⟩] (ZzA pf1) (Zbs p0 pf1) Zrf (ZqU p0) := ko1 Tryz.func60 Tryz.ntmps60 tok [.tmp 4] 1 (fun C co hT y hm Post hL => Zax co tok tmo 1 (Zfj p0 pf1) (lf2 [0, 1] [((0, 0), true)]) nl (fun _ h => h) hm hL fun r g => fun _ hm hL => sq (Zax co tok tmo 1 (ZfG p0 pf1) (lf2 [0, 1, 7, 8] [((0, 0), true)]) nl (fun _ h => h) hm hL fun r g => fun _ hm hL => bk 0 (lo (lpF (Zpc co p0 pf1 hT) (fun _ h => h) hm hL (fun _ hm => ZaE co tok tmo (Zfq p0) hm hL fun r g => id))))) (hB := fun y => ⟨.inl (Zaf _ _), rfl, trivial⟩)
abbrev E57 : List Fld → AV := fun y => .ref (0, 0) 0 0 y.length
@[reducible] def G57 : List Fld → List Blk := fun y => [⟨0, true, 51, 16, Zab Zat y⟩]
def H57 (pf1 : Fld → Option Bool) : Cl := fun no l H θ => (∀ (z0 : Fld) y, pf1 z0 = some y → ZhL Tryz.prog l no H (θ 1) [.agg ((Zat z0).map .d)] (vB y))
def ZyH (p0 : List Fld) : Int × Int × List Fld → St := fun (v2, v3, r4) => mkS [(0, .ref (0, 0) 0 0 p0.length), (1, .fn (.yield 1) [] []), (5, vI v2), (6, vI v3)] [((0, 0), ⟨0, true, 51, 16, Zab Zat r4⟩)]
def ZAW (p0 : List Fld) : Int × List Fld → Nat × St := fun (v7, r8) => (0, mkS [(0, .ref (0, 0) 0 0 p0.length), (5, vI v7)] [((0, 0), ⟨0, true, 51, 16, Zab Zat r8⟩)])
def Zqb (p0 : List Fld) (pf1 : Fld → Option Bool) (v2 : Int) (v3 : Int) (r4 : List Fld) : PT 1 (Lv (Int × Int × List Fld) (Int × List Fld) (List Fld)) := vz (eqN p0.length) <| br (decide (v3 < (p0.length : Int))) (vs (iri v3 p0.length 16) <| ca r4 v3.toNat fun e5 => vw .go <| vw .go <| cf Tryz.prog 1 [.agg ((Zat e5).map .d)] (pf1 e5) (fun y => vB y) fun y6 => br (!y6) (vw .go <| vs (iri v2 p0.length 16) <| vs (st r4 v2.toNat e5) <| vwr 0 ((Rw.f (e5 : Fld)).map .d) (fun _ => ZjF _) <| vs (wi (v2 + 1)) <| vs (wi (v3 + 1)) <| vz (fl (r4.set v2.toNat e5)) <| ln (ZyH p0) ((v2 + 1), (v3 + 1), r4.set v2.toNat e5)) (vs (wi (v3 + 1)) <| vz (fl r4) <| ln (ZyH p0) (v2, (v3 + 1), r4))) (vz (fl r4) <| lxe (ZAW p0) (v2, r4))
def ZnL (p0 : List Fld) (pf1 : Fld → Option Bool) : Int × Int × List Fld → Option (Lv (Int × Int × List Fld) (Int × List Fld) (List Fld)) := fun (v2, v3, r4) => (Zqb p0 pf1 v2 v3 r4).m
def ZxW (p0 : List Fld) (v7 : Int) (r8 : List Fld) : PT 1 (List Fld) := sR p0.length 0 (.it v7) .no <| cr r8 (0 + v7.toNat) (p0.length - v7.toNat) [vI 0, vS ⟨#[]⟩, vI 0, vI 0, vI 0, vS ⟨#[]⟩, vS ⟨#[]⟩, vB false, vI 0, .d (.int .u64 0), vS ⟨#[]⟩, .e0, .e0, .e0, .e0, .e0] <| vwr 0 ([vI 0, vS ⟨#[]⟩, vI 0, vI 0, vI 0, vS ⟨#[]⟩, vS ⟨#[]⟩, vB false, vI 0, .d (.int .u64 0), vS ⟨#[]⟩, .e0, .e0, .e0, .e0, .e0]) (fun _ => ZnR (by kernel_rfl)) <| tro 0 r8 (0 + v7.toNat) (p0.length - v7.toNat) [vI 0, vS ⟨#[]⟩, vI 0, vI 0, vI 0, vS ⟨#[]⟩, vS ⟨#[]⟩, vB false, vI 0, .d (.int .u64 0), vS ⟨#[]⟩, .e0, .e0, .e0, .e0, .e0] <| vw .sep <| sR p0.length 0 .no (.it v7) <| lfe (v7.toNat = (r8.take (0 + v7.toNat)).length) (fun E => E.P (.ref (0, 0) 0 0 v7.toNat) ([⟨0, true, 51, 16, Zab Zat (r8.take (0 + v7.toNat))⟩])) (r8.take (0 + v7.toNat))
def ZuH (p0 : List Fld) (pf1 : Fld → Option Bool) (y1 : Int) : PT 1 (List Fld) := vs (wi (y1 + 1)) <| vz (fl p0) <| lc (mkS [(0, .ref (0, 0) 0 0 p0.length), (1, .fn (.yield 1) [] []), (5, vI y1), (6, vI (y1 + 1))] [((0, 0), ⟨0, true, 51, 16, Zab Zat p0⟩)]) ((Zag (ZnL p0 pf1) big (y1, (y1 + 1), p0)).bind (Sum.elim (fun (v7, r8) => (ZxW p0 v7 r8).m) some))
def Zyn (p0 : List Fld) (pf1 : Fld → Option Bool) : PT 1 (List Fld) := cs Tryz.prog 60 [.ref (0, 0) 0 0 p0.length, .fn (.yield 1) [] []] [(0, 0)] [((0, 0), ⟨0, true, 51, 16, Zab Zat p0⟩)] (Zbs p0 pf1) (fun y => vI y) fun y1 => br (decide (y1 = ((-1) : Int))) (lr E57 (G57) p0) (vz (fl p0) <| lc (mkS [(0, .ref (0, 0) 0 0 p0.length), (1, .fn (.yield 1) [] []), (5, vI y1)] [((0, 0), ⟨0, true, 51, 16, Zab Zat p0⟩)]) ((ZuH p0 pf1 y1).m))
def ZbT (p0 : List Fld) (pf1 : Fld → Option Bool) : Option (List Fld) := (Zyn p0 pf1).m
set_option maxRecDepth 100000 in
theorem Zx5 {C : Cx} (co : CO C 1) (p0 : List Fld) (pf1 : Fld → Option Bool) (hT : (H57 pf1) C.no C.l C.H0 C.θ) : KL Tryz.prog (lkT tl) 42 C (pa [0, 0, 1, 0, 1, 1, 1] (Zah Tryz.f57)) [.tmp 4] 1 (ZyH p0) (ZAW p0) E57 (G57) (ZnL p0 pf1) := fun (v2, v3, r4) _ hm Q Post hQ hL => ZbE co tok tmo (Zqb p0 pf1 v2 v3 r4) (lf2 [0, 1, 5, 6] [((0, 0), true)]) (lf2 [0, 5] [((0, 0), true)]) hQ hm hL fun r g => ⟨fun e5 => ⟨⟨fun y hy => hT _ y hy, by intro r; kernel_rfl, by intro r y; kernel_rfl⟩, fun y6 => ⟨id, id⟩⟩, id⟩
set_option maxRecDepth 100000 in
theorem ZIX (p0 : List Fld) (pf1 : Fld → Option Bool) : KO Tryz.prog 57 1 [.ref (0, 0) 0 0 p0.length, .fn (.yield 1) [] []] [⟨0, true, 51, 16, Zab Zat p0⟩] (H57 pf1) (ZbT p0 pf1) E57 (G57) := ko1 Tryz.func57 Tryz.ntmps57 tok [.tmp 4] 1 (fun C co hT y hm Post hL => Zax co tok tmo 3 (Zyn p0 pf1) (lf2 [0, 1, 5] [((0, 0), true)]) nl (fun _ h => h) hm hL fun r g => ⟨fun y hy => Zb3 (ZCs p0 pf1) hy co g [((0, 0), ⟨0, true, 51, 16, Zab Zat p0⟩)] [] (lkS [(1, r.θ 1)]) (fun H' hg ho => (fun z0 y hz => ZlZ co g [((0, 0), ⟨0, true, 51, 16, Zab Zat p0⟩)] ho (hT z0 y hz))) (fun H => ⟨fun _ => ⟨rfl, Zay (Zaf _ _) (by kernel_rfl)⟩, by kernel_rfl, trivial⟩), fun y1 => ⟨id, fun _ hm hL => sq (Zax co tok tmo 1 (ZuH p0 pf1 y1) (lf2 [0, 1, 5, 6] [((0, 0), true)]) nl (fun _ h => h) hm hL fun r g => fun _ hm hL => bk 0 (lo (lpF (Zx5 co p0 pf1 hT) (fun _ h => h) hm hL (fun (v7, r8) hm => ZaE co tok tmo (ZxW p0 v7 r8) hm hL fun r g => fun h hL => lfx (congrArg (fun n => (.ref (0, 0) 0 0 n : AV)) h) hL))))⟩⟩) (hB := fun y => ⟨.inl (Zaf _ _), rfl, trivial⟩)
abbrev E58 : List Fld → AV := fun y => .ref (0, 0) 1 0 y.length
@[reducible] def G58 : List Fld → List Blk := fun y => [⟨1, true, 51, 16, Zab Zat y⟩]
def Zxw (p0 : List Fld) : PT 1 (List Fld) := al Zat p0 false fun b1 => br b1 (vw .sep <| vw (.ads 2 2 51 16) <| mv 2 0 ([] : List Fld) <| lr E58 (G58) ([] : List Fld)) (a0 p0 <| mv 7 0 p0 <| lr E58 (G58) p0)
def ZcE (p0 : List Fld) : Option (List Fld) := (Zxw p0).m
set_option maxRecDepth 100000 in
theorem ZJY (p0 : List Fld) : KO Tryz.prog 58 1 [vL Zat p0] [⟨0, false, 0, 0, []⟩] (fun _ _ _ _ => True) (ZcE p0) E58 (G58) := ko1 Tryz.func58 Tryz.ntmps58 tok [.tmp 2] 1 (fun C co hT y hm Post hL => ZaE co tok tmo (Zxw p0) hm hL fun r g => ⟨fun b1 => ⟨id, id⟩, by intro b h; subst h; cases b <;> rfl⟩) (hB := fun y => ⟨.inl (Zaf _ _), rfl, trivial⟩)
abbrev E59 : Bool → AV := fun y => vB y
@[reducible] def G59 (w0 : ByteArray) : Bool → List Blk := fun y => [⟨0, true, 9, 1, [vS w0]⟩]
def Zzm (p0 : Fld) (w0 : ByteArray) : PT 1 (Bool) := vw .go <| vw .go <| lr E59 (G59 w0) (!decide (p0.union = w0))
def Zcr (p0 : Fld) (w0 : ByteArray) : Option (Bool) := (Zzm p0 w0).m
set_option maxRecDepth 100000 in
theorem ZIW (p0 : Fld) (w0 : ByteArray) : KO Tryz.prog 59 1 [.agg ((Zat p0).map .d), .ptr (0, 0) 0 0] [⟨0, true, 9, 1, [vS w0]⟩] (fun _ _ _ _ => True) (Zcr p0 w0) E59 (G59 w0) := ko1 Tryz.func59 Tryz.ntmps59 tok [.tmp 3] 1 (fun C co hT y hm Post hL => ZaE co tok tmo (Zzm p0 w0) hm hL fun r g => id) (hB := fun y => ⟨.inr (by kernel_rfl), rfl, trivial⟩)
abbrev E29 : List Fld → AV := fun y => vL Zat y
def ZxF (y2 : List Fld) : PT 0 (List Fld) := vz (fr y2) <| lr E29 (fun _ => []) y2
def ZvU (y2 : List Fld) : PT 0 (List Fld) := vz (fl y2) <| lc (mkS [(4, .ref (1, 9) 0 0 y2.length)] [((1, 9), ⟨0, true, 51, 16, Zab Zat y2⟩)]) ((ZxF y2).m)
def ZyP (p1 : ByteArray) (y1 : List Fld) : PT 0 (List Fld) := vz (fl y1) <| lc (mkS [(9, .ref (1, 9) 0 0 y1.length), (10, .fn (.func 59) [] [.ptr (1, 3) 0 0])] [((1, 3), ⟨0, true, 9, 1, [vS p1]⟩), ((1, 9), ⟨0, true, 51, 16, Zab Zat y1⟩)]) ((ZbT y1 (fun (z0 : Fld) => Zcr z0 p1)).bind fun y2 => (ZvU y2).m)
def Zui (p0 : Msg) (p1 : ByteArray) : PT 0 (List Fld) := vw .go <| lc (mkS [(3, .ptr (1, 3) 0 0), (8, vL Zat p0.fields)] [((1, 3), ⟨0, true, 9, 1, [vS p1]⟩)]) ((ZcE p0.fields).bind fun y1 => (ZyP p1 y1).m)
def Zw0 (p0 : Msg) (p1 : ByteArray) : PT 0 (List Fld) := vw .go <| br (decide (p1 = (⟨#[]⟩ : ByteArray))) (lr E29 (fun _ => []) ([] : List Fld)) (lc (mkS [(2, .ptr (1, 2) 0 0), (3, .ptr (1, 3) 0 0)] [((1, 2), ⟨0, true, 56, 5, [vS p0.name, vL Zat p0.fields, vL ZaB p0.reserved, vL Zav p0.gone, vL eNt p0.notes]⟩), ((1, 3), ⟨0, true, 9, 1, [vS p1]⟩)]) ((Zui p0 p1).m))
def Zc5 (p0 : Msg) (p1 : ByteArray) : Option (List Fld) := (Zw0 p0 p1).m
set_option maxRecDepth 100000 in
theorem ZIa (p0 : Msg) (p1 : ByteArray) : KC Tryz.prog 29 [.agg ((Zan p0).map .d), vS p1] (Zc5 p0 p1) E29 := kc1 Tryz.func29 Tryz.ntmps29 tok [.tmp 4] fun C co y hm Post hL => Zax co tok tmo 2 (Zw0 p0 p1) (lf2 [2, 3] [((1, 2), false), ((1, 3), false)]) nl (fun _ h => h) hm hL fun r g => ⟨id, fun _ hm hL => sq (rg (ZdF co tok 2 (Zui p0 p1) (lf2 [3, 8] [((1, 3), false)]) hm hL fun r g => fun _ hm hL => ZfT co hm 58 [vL Zat p0.fields] [(1, 9)] ([((1, 9), ⟨0, false, 0, 0, []⟩)] ++ []) (fun z => .ref (1, 9) 1 0 z.length) (fun z => [((1, 9), ⟨1, true, 51, 16, Zab Zat z⟩)]) [] (fun z => trivial) (trivial) (fun z hz r g => Za8 (ZJY p0.fields) hz co g [((1, 9), ⟨0, false, 0, 0, []⟩)] [] [((1, 9), ⟨1, true, 51, 16, Zab Zat z⟩)] (lkS []) (fun H' hg ho => trivial) (fun H => ⟨(fun h => by cases h), by kernel_rfl, trivial⟩) (fun H => ⟨fun _ => ⟨rfl, Zay (Zaf _ _) (by kernel_rfl)⟩, by kernel_rfl, trivial⟩)) fun y1 hm => ZdF co tok 1 (ZyP p1 y1) (lf2 [9, 10] [((1, 3), false), ((1, 9), true)]) hm hL fun r g => fun _ hm hL => ZfT co hm 57 [.ref (1, 9) 0 0 y1.length, .fn (.func 59) [] [.ptr (1, 3) 0 0]] [(1, 9), (1, 3)] ([((1, 9), ⟨0, true, 51, 16, Zab Zat y1⟩)] ++ [((1, 3), ⟨0, true, 9, 1, [vS p1]⟩)]) (fun z => .ref (1, 9) 0 0 z.length) (fun z => [((1, 9), ⟨0, true, 51, 16, Zab Zat z⟩)]) [] (fun z => trivial) (trivial) (fun z hz r g => Za8 (ZIX y1 (fun (z0 : Fld) => Zcr z0 p1)) hz co g [((1, 9), ⟨0, true, 51, 16, Zab Zat y1⟩)] [((1, 3), ⟨0, true, 9, 1, [vS p1]⟩)] [((1, 9), ⟨0, true, 51, 16, Zab Zat z⟩)] (lkS [(1, .fn (.func 59) [] [.ptr (r.κ (1, 3)) (r.γ (1, 3) + 0) 0])]) (fun H' hg ho => (fun z0 y hz => Zer (ZIW z0 p1) hz co g [((1, 3), ⟨0, true, 9, 1, [vS p1]⟩)] [((1, 9), ⟨0, true, 51, 16, Zab Zat y1⟩)] hg (by simp) (fun _ => .top) (fun _ _ => trivial) (fun l H => ⟨fun _ => ⟨rfl, by kernel_rfl⟩, by kernel_rfl, trivial⟩))) (fun H => ⟨fun _ => ⟨rfl, Zay (Zaf _ _) (by kernel_rfl)⟩, by kernel_rfl, trivial⟩) (fun H => ⟨fun _ => ⟨rfl, Zay (Zaf _ _) (by kernel_rfl)⟩, by kernel_rfl, trivial⟩)) fun y2 hm => ZcH co tok (ZvU y2) (lf2 [4] [((1, 9), true)]) hm hL fun r g => fun _ hm hL => ZaE co tok tmo (ZxF y2) hm hL fun r g => id))⟩
abbrev E30 : Bool → AV := fun y => vB y
def H30 (pf1 : Fld → Option Bool) : Cl := fun no l H θ => (∀ (z0 : Fld) y, pf1 z0 = some y → ZhL Tryz.prog l no H (θ 1) [.agg ((Zat z0).map .d)] (vB y))
def ZxI (p0 : List Fld) (pf1 : Fld → Option Bool) : PT 0 (Bool) := cs Tryz.prog 60 [vL Zat p0, .fn (.yield 1) [] []] [] [] (Zb2 p0 pf1) (fun y => vI y) fun y1 => lr E30 (fun _ => []) (decide ((0 : Int) ≤ y1))
def ZaR (p0 : List Fld) (pf1 : Fld → Option Bool) : Option (Bool) := (ZxI p0 pf1).m
set_option maxRecDepth 100000 in
theorem ZJx (p0 : List Fld) (pf1 : Fld → Option Bool) : KO Tryz.prog 30 0 [vL Zat p0, .fn (.yield 1) [] []] [] (H30 pf1) (ZaR p0 pf1) E30 (fun _ => []) := ko1 Tryz.func30 Tryz.ntmps30 tok [.tmp 4] 0 (fun C co hT y hm Post hL => ZaE co tok tmo (ZxI p0 pf1) hm hL fun r g => ⟨fun y hy => Zb3 (ZJS p0 pf1) hy co g [] [] (lkS [(1, r.θ 1)]) (fun H' hg ho => (fun z0 y hz => ZlZ co g [] ho (hT z0 y hz))) (fun H => trivial), fun y1 => id⟩)
abbrev E31 : Bool → AV := fun y => vB y
@[reducible] def G31 (w0 : Slt) : Bool → List Blk := fun y => [⟨0, true, 62, 8, [vI w0.num, vI w0.val.kind, .d (.int .u64 w0.val.bits), vS w0.val.text, vL ZaI w0.val.list, vL rPr w0.val.pairs, vL Zar w0.val.slots, vL ZaK w0.val.raws]⟩]
def Zz6 (p0 : Fld) (w0 : Slt) : PT 1 (Bool) := vw .go <| vw .go <| lr E31 (G31 w0) (decide (p0.num = w0.num))
def ZaX (p0 : Fld) (w0 : Slt) : Option (Bool) := (Zz6 p0 w0).m
set_option maxRecDepth 100000 in
theorem ZIN (p0 : Fld) (w0 : Slt) : KO Tryz.prog 31 1 [.agg ((Zat p0).map .d), .ptr (0, 0) 0 0] [⟨0, true, 62, 8, [vI w0.num, vI w0.val.kind, .d (.int .u64 w0.val.bits), vS w0.val.text, vL ZaI w0.val.list, vL rPr w0.val.pairs, vL Zar w0.val.slots, vL ZaK w0.val.raws]⟩] (fun _ _ _ _ => True) (ZaX p0 w0) E31 (G31 w0) := ko1 Tryz.func31 Tryz.ntmps31 tok [.tmp 3] 1 (fun C co hT y hm Post hL => ZaE co tok tmo (Zz6 p0 w0) hm hL fun r g => id) (hB := fun y => ⟨.inr (by kernel_rfl), rfl, trivial⟩)
abbrev E13 : Int × Int → AV := fun y => .tup [vI y.1, vI y.2]
def ZCZ (p2 : Val) (y2 : List Fld) : Nat → St := fun v3 => mkS [(12, vL Zat y2), (31, vL Zar p2.slots), (32, vN p2.slots.length), (33, vN v3)] []
def ZCC : Unit → Nat × St := fun _ => (0, mkS [] [])
def Zrv (p2 : Val) (y2 : List Fld) (v3 : Nat) : PT 0 (Lv (Nat) (Unit) (Int × Int)) := br (decide ((v3 : Int) < (p2.slots.length : Int))) (ix p2.slots v3 fun e4 => vw .go <| cs Tryz.prog 30 [vL Zat y2, .fn (.func 31) [] [.ptr (1, 14) 1 0]] [(1, 14)] [((1, 14), ⟨1, true, 62, 8, [vI e4.num, vI e4.val.kind, .d (.int .u64 e4.val.bits), vS e4.val.text, vL ZaI e4.val.list, vL rPr e4.val.pairs, vL Zar e4.val.slots, vL ZaK e4.val.raws]⟩)] (ZaR y2 (fun (z0 : Fld) => ZaX z0 e4)) (fun y => vB y) fun y5 => br y5 (vw .go <| lrt E13 (fun _ => []) (e4.num, 0)) (vs (wa v3 1) <| ln (ZCZ p2 y2) (v3 + 1))) (lxe (ZCC) ())
def Zoy (p2 : Val) (y2 : List Fld) : Nat → Option (Lv (Nat) (Unit) (Int × Int)) := fun v3 => (Zrv p2 y2 v3).m
def Zut : PT 0 (Int × Int) := lr E13 (fun _ => []) (0, 0)
def Zyt (p2 : Val) (y2 : List Fld) : PT 0 (Int × Int) := vw .go <| vz (eqL p2.slots) <| lc (mkS [(12, vL Zat y2), (31, vL Zar p2.slots), (32, vN p2.slots.length), (33, vI 0)] []) ((Zag (Zoy p2 y2) big 0).bind (Sum.elim (fun _ => (Zut).m) some))
def Zx9 (p0 : Scm) (p1 : ByteArray) (p2 : Val) (p3 : ByteArray) : PT 0 (Int × Int) := vw .go <| cl (ZEi p0 p1) fun y1 => vw .go <| br (!y1.2) (lr E13 (fun _ => []) (0, 10)) (vw .go <| cl (ZIa y1.1.m p3) fun y2 => vz (eqL y2) <| br (decide ((y2.length : Int) = (0 : Int))) (lr E13 (fun _ => []) (0, 8)) (lc (mkS [(6, .ptr (1, 6) 0 0), (12, vL Zat y2)] [((1, 6), ⟨0, true, 33, 7, [vI p2.kind, .d (.int .u64 p2.bits), vS p2.text, vL ZaI p2.list, vL rPr p2.pairs, vL Zar p2.slots, vL ZaK p2.raws]⟩)]) ((Zyt p2 y2).m)))
def ZcS (p0 : Scm) (p1 : ByteArray) (p2 : Val) (p3 : ByteArray) : Option (Int × Int) := (Zx9 p0 p1 p2 p3).m
set_option maxRecDepth 100000 in
theorem Zx1 {C : Cx} (co : CO C 0) (p2 : Val) (y2 : List Fld) : KL Tryz.prog (lkT tl) 43 C (pa [0, 0, 1, 0, 1, 1, 1, 1, 1] (Zah Tryz.f13)) [.tmp 8, .tmp 9] 0 (ZCZ p2 y2) (ZCC) E13 (fun _ => []) (Zoy p2 y2) := fun v3 _ hm Q Post hQ hL => ZbE co tok tmo (Zrv p2 y2 v3) (lf1 [12, 31, 32, 33]) nl hQ hm hL fun r g => ⟨fun e4 => ⟨fun y hy => Zb3 (ZJx y2 (fun (z0 : Fld) => ZaX z0 e4)) hy co g [] [((1, 14), ⟨1, true, 62, 8, [vI e4.num, vI e4.val.kind, .d (.int .u64 e4.val.bits), vS e4.val.text, vL ZaI e4.val.list, vL rPr e4.val.pairs, vL Zar e4.val.slots, vL ZaK e4.val.raws]⟩)] (lkS [(1, .fn (.func 31) [] [.ptr (r.κ (1, 14)) (r.γ (1, 14) + 1) 0])]) (fun H' hg ho => (fun z0 y hz => Zer (ZIN z0 e4) hz co g [((1, 14), ⟨1, true, 62, 8, [vI e4.num, vI e4.val.kind, .d (.int .u64 e4.val.bits), vS e4.val.text, vL ZaI e4.val.list, vL rPr e4.val.pairs, vL Zar e4.val.slots, vL ZaK e4.val.raws]⟩)] [] hg (by simp) (fun _ => .top) (fun _ _ => trivial) (fun l H => ⟨fun _ => ⟨rfl, by kernel_rfl⟩, by kernel_rfl, trivial⟩))) (fun H => trivial), fun y5 => ⟨id, id⟩⟩, id⟩
set_option maxRecDepth 100000 in
theorem ZG2 (p0 : Scm) (p1 : ByteArray) (p2 : Val) (p3 : ByteArray) : KC Tryz.prog 13 [.agg ((Zcj p0).map .d), vS p1, .agg ((ZaZ p2).map .d), vS p3] (ZcS p0 p1 p2 p3) E13 := kc1 Tryz.func13 Tryz.ntmps13 tok [.tmp 8, .tmp 9] fun C co y hm Post hL => Zax co tok tmo 5 (Zx9 p0 p1 p2 p3) (lf2 [6, 12] [((1, 6), false)]) nl (fun _ h => h) hm hL fun r g => fun y1 => ⟨id, fun y2 => ⟨id, fun _ hm hL => sq (Zax co tok tmo 1 (Zyt p2 y2) (lf1 [12, 31, 32, 33]) nl (fun _ h => h) hm hL fun r g => fun _ hm hL => bk 0 (lo (lpF (Zx1 co p2 y2) (fun _ h => h) hm hL (fun _ hm => ZaE co tok tmo (Zut) hm hL fun r g => id))))⟩⟩
abbrev ZpX : Int → AV := fun y => vI y
@[reducible] def ZrR (p0 : List Slt) : Int → List Blk := fun y => [⟨0, true, 62, 8, Zab Zar p0⟩]
def ZzI (pf1 : Slt → Option Bool) : Cl := fun no l H θ => (∀ (z0 : Slt) y, pf1 z0 = some y → ZhL Tryz.prog l no H (θ 1) [.agg ((Zhs z0).map .d)] (vB y))
def ZlN (p0 : List Slt) : Nat → St := fun v1 => mkS [(0, .ref (0, 0) 0 0 p0.length), (1, .fn (.yield 1) [] []), (7, vN p0.length), (8, vN v1)] [((0, 0), ⟨0, true, 62, 8, Zab Zar p0⟩)]
def ZmF (p0 : List Slt) : Unit → Nat × St := fun _ => (0, mkS [] [((0, 0), ⟨0, true, 62, 8, Zab Zar p0⟩)])
def Zmu (p0 : List Slt) (pf1 : Slt → Option Bool) (v1 : Nat) : PT 1 (Lv (Nat) (Unit) (Int)) := br (decide ((v1 : Int) < (p0.length : Int))) (vs (ir v1 p0.length 8) <| ca p0 v1 fun e2 => cf Tryz.prog 1 [.agg ((Zhs e2).map .d)] (pf1 e2) (fun y => vB y) fun y3 => br y3 (lrt ZpX (ZrR p0) (v1 : Int)) (vs (wa v1 1) <| vz (fl p0) <| ln (ZlN p0) (v1 + 1))) (vz (fl p0) <| lxe (ZmF p0) ())
def Zmg (p0 : List Slt) (pf1 : Slt → Option Bool) : Nat → Option (Lv (Nat) (Unit) (Int)) := fun v1 => (Zmu p0 pf1 v1).m
def ZnY (p0 : List Slt) : PT 1 (Int) := lr ZpX (ZrR p0) (-1)
def Zl3 (p0 : List Slt) (pf1 : Slt → Option Bool) : PT 1 (Int) := vz (eqN p0.length) <| vz (fl p0) <| lc (mkS [(0, .ref (0, 0) 0 0 p0.length), (1, .fn (.yield 1) [] []), (7, vN p0.length), (8, vI 0)] [((0, 0), ⟨0, true, 62, 8, Zab Zar p0⟩)]) ((Zag (Zmg p0 pf1) big 0).bind (Sum.elim (fun _ => (ZnY p0).m) some))
def Zoc (p0 : List Slt) (pf1 : Slt → Option Bool) : PT 1 (Int) := vz (fl p0) <| lc (mkS [(0, .ref (0, 0) 0 0 p0.length), (1, .fn (.yield 1) [] [])] [((0, 0), ⟨0, true, 62, 8, Zab Zar p0⟩)]) ((Zl3 p0 pf1).m)
def Zc4 (p0 : List Slt) (pf1 : Slt → Option Bool) : Option (Int) := (Zoc p0 pf1).m
set_option maxRecDepth 100000 in
theorem ZoI {C : Cx} (co : CO C 1) (p0 : List Slt) (pf1 : Slt → Option Bool) (hT : (ZzI pf1) C.no C.l C.H0 C.θ) : KL Tryz.prog (lkT tl) 19 C (pa [0, 0, 1, 0, 1] (Zah Tryz.f52)) [.tmp 4] 1 (ZlN p0) (ZmF p0) ZpX (ZrR p0) (Zmg p0 pf1) := fun v1 _ hm Q Post hQ hL => ZbE co tok tmo (Zmu p0 pf1 v1) (lf2 [0, 1, 7, 8] [((0, 0), true)]) (lf2 [] [((0, 0), true)]) hQ hm hL fun r g => ⟨fun e2 => ⟨⟨fun y hy => hT _ y hy, by intro r; kernel_rfl, by intro r y; kernel_rfl⟩, fun y3 => ⟨id, id⟩⟩, id⟩
set_option maxRecDepth 100000 in
theorem ZCQ (p0 : List Slt) (pf1 : Slt → Option Bool) : KO Tryz.prog 52 1 [.ref (0, 0) 0 0 p0.length, .fn (.yield 1) [] []] [⟨0, true, 62, 8, Zab Zar p0⟩] (ZzI pf1) (Zc4 p0 pf1) ZpX (ZrR p0) := ko1 Tryz.func52 Tryz.ntmps52 tok [.tmp 4] 1 (fun C co hT y hm Post hL => Zax co tok tmo 1 (Zoc p0 pf1) (lf2 [0, 1] [((0, 0), true)]) nl (fun _ h => h) hm hL fun r g => fun _ hm hL => sq (Zax co tok tmo 1 (Zl3 p0 pf1) (lf2 [0, 1, 7, 8] [((0, 0), true)]) nl (fun _ h => h) hm hL fun r g => fun _ hm hL => bk 0 (lo (lpF (ZoI co p0 pf1 hT) (fun _ h => h) hm hL (fun _ hm => ZaE co tok tmo (ZnY p0) hm hL fun r g => id))))) (hB := fun y => ⟨.inl (Zaf _ _), rfl, trivial⟩)
abbrev E46 : List Slt → AV := fun y => .ref (0, 0) 0 0 y.length
@[reducible] def G46 : List Slt → List Blk := fun y => [⟨0, true, 62, 8, Zab Zar y⟩]
def H46 (pf1 : Slt → Option Bool) : Cl := fun no l H θ => (∀ (z0 : Slt) y, pf1 z0 = some y → ZhL Tryz.prog l no H (θ 1) [.agg ((Zhs z0).map .d)] (vB y))
def Zw6 (p0 : List Slt) : Int × Int × List Slt → St := fun (v2, v3, r4) => mkS [(0, .ref (0, 0) 0 0 p0.length), (1, .fn (.yield 1) [] []), (5, vI v2), (6, vI v3)] [((0, 0), ⟨0, true, 62, 8, Zab Zar r4⟩)]
def ZAk (p0 : List Slt) : Int × List Slt → Nat × St := fun (v7, r8) => (0, mkS [(0, .ref (0, 0) 0 0 p0.length), (5, vI v7)] [((0, 0), ⟨0, true, 62, 8, Zab Zar r8⟩)])
def ZAP (p0 : List Slt) (pf1 : Slt → Option Bool) (v2 : Int) (v3 : Int) (r4 : List Slt) : PT 1 (Lv (Int × Int × List Slt) (Int × List Slt) (List Slt)) := vz (eqN p0.length) <| br (decide (v3 < (p0.length : Int))) (vs (iri v3 p0.length 8) <| ca r4 v3.toNat fun e5 => vw .go <| vw .go <| cf Tryz.prog 1 [.agg ((Zhs e5).map .d)] (pf1 e5) (fun y => vB y) fun y6 => br (!y6) (vw .go <| vs (iri v2 p0.length 8) <| vs (st r4 v2.toNat e5) <| vwr 0 ((Rw.f (e5 : Slt)).map .d) (fun _ => ZjF _) <| vs (wi (v2 + 1)) <| vs (wi (v3 + 1)) <| vz (fl (r4.set v2.toNat e5)) <| ln (Zw6 p0) ((v2 + 1), (v3 + 1), r4.set v2.toNat e5)) (vs (wi (v3 + 1)) <| vz (fl r4) <| ln (Zw6 p0) (v2, (v3 + 1), r4))) (vz (fl r4) <| lxe (ZAk p0) (v2, r4))
def ZDn (p0 : List Slt) (pf1 : Slt → Option Bool) : Int × Int × List Slt → Option (Lv (Int × Int × List Slt) (Int × List Slt) (List Slt)) := fun (v2, v3, r4) => (ZAP p0 pf1 v2 v3 r4).m
def ZBM (p0 : List Slt) (v7 : Int) (r8 : List Slt) : PT 1 (List Slt) := sR p0.length 0 (.it v7) .no <| cr r8 (0 + v7.toNat) (p0.length - v7.toNat) [vI 0, vI 0, .d (.int .u64 0), vS ⟨#[]⟩, .e0, .e0, .e0, .e0] <| vwr 0 ([vI 0, vI 0, .d (.int .u64 0), vS ⟨#[]⟩, .e0, .e0, .e0, .e0]) (fun _ => ZnR (by kernel_rfl)) <| tro 0 r8 (0 + v7.toNat) (p0.length - v7.toNat) [vI 0, vI 0, .d (.int .u64 0), vS ⟨#[]⟩, .e0, .e0, .e0, .e0] <| vw .sep <| sR p0.length 0 .no (.it v7) <| lfe (v7.toNat = (r8.take (0 + v7.toNat)).length) (fun E => E.P (.ref (0, 0) 0 0 v7.toNat) ([⟨0, true, 62, 8, Zab Zar (r8.take (0 + v7.toNat))⟩])) (r8.take (0 + v7.toNat))
def ZC0 (p0 : List Slt) (pf1 : Slt → Option Bool) (y1 : Int) : PT 1 (List Slt) := vs (wi (y1 + 1)) <| vz (fl p0) <| lc (mkS [(0, .ref (0, 0) 0 0 p0.length), (1, .fn (.yield 1) [] []), (5, vI y1), (6, vI (y1 + 1))] [((0, 0), ⟨0, true, 62, 8, Zab Zar p0⟩)]) ((Zag (ZDn p0 pf1) big (y1, (y1 + 1), p0)).bind (Sum.elim (fun (v7, r8) => (ZBM p0 v7 r8).m) some))
def ZAA (p0 : List Slt) (pf1 : Slt → Option Bool) : PT 1 (List Slt) := cs Tryz.prog 52 [.ref (0, 0) 0 0 p0.length, .fn (.yield 1) [] []] [(0, 0)] [((0, 0), ⟨0, true, 62, 8, Zab Zar p0⟩)] (Zc4 p0 pf1) (fun y => vI y) fun y1 => br (decide (y1 = ((-1) : Int))) (lr E46 (G46) p0) (vz (fl p0) <| lc (mkS [(0, .ref (0, 0) 0 0 p0.length), (1, .fn (.yield 1) [] []), (5, vI y1)] [((0, 0), ⟨0, true, 62, 8, Zab Zar p0⟩)]) ((ZC0 p0 pf1 y1).m))
def Zcn (p0 : List Slt) (pf1 : Slt → Option Bool) : Option (List Slt) := (ZAA p0 pf1).m
set_option maxRecDepth 100000 in
theorem Zux {C : Cx} (co : CO C 1) (p0 : List Slt) (pf1 : Slt → Option Bool) (hT : (H46 pf1) C.no C.l C.H0 C.θ) : KL Tryz.prog (lkT tl) 42 C (pa [0, 0, 1, 0, 1, 1, 1] (Zah Tryz.f46)) [.tmp 4] 1 (Zw6 p0) (ZAk p0) E46 (G46) (ZDn p0 pf1) := fun (v2, v3, r4) _ hm Q Post hQ hL => ZbE co tok tmo (ZAP p0 pf1 v2 v3 r4) (lf2 [0, 1, 5, 6] [((0, 0), true)]) (lf2 [0, 5] [((0, 0), true)]) hQ hm hL fun r g => ⟨fun e5 => ⟨⟨fun y hy => hT _ y hy, by intro r; kernel_rfl, by intro r y; kernel_rfl⟩, fun y6 => ⟨id, id⟩⟩, id⟩
set_option maxRecDepth 100000 in
theorem ZGW (p0 : List Slt) (pf1 : Slt → Option Bool) : KO Tryz.prog 46 1 [.ref (0, 0) 0 0 p0.length, .fn (.yield 1) [] []] [⟨0, true, 62, 8, Zab Zar p0⟩] (H46 pf1) (Zcn p0 pf1) E46 (G46) := ko1 Tryz.func46 Tryz.ntmps46 tok [.tmp 4] 1 (fun C co hT y hm Post hL => Zax co tok tmo 3 (ZAA p0 pf1) (lf2 [0, 1, 5] [((0, 0), true)]) nl (fun _ h => h) hm hL fun r g => ⟨fun y hy => Zb3 (ZCQ p0 pf1) hy co g [((0, 0), ⟨0, true, 62, 8, Zab Zar p0⟩)] [] (lkS [(1, r.θ 1)]) (fun H' hg ho => (fun z0 y hz => ZlZ co g [((0, 0), ⟨0, true, 62, 8, Zab Zar p0⟩)] ho (hT z0 y hz))) (fun H => ⟨fun _ => ⟨rfl, Zay (Zaf _ _) (by kernel_rfl)⟩, by kernel_rfl, trivial⟩), fun y1 => ⟨id, fun _ hm hL => sq (Zax co tok tmo 1 (ZC0 p0 pf1 y1) (lf2 [0, 1, 5, 6] [((0, 0), true)]) nl (fun _ h => h) hm hL fun r g => fun _ hm hL => bk 0 (lo (lpF (Zux co p0 pf1 hT) (fun _ h => h) hm hL (fun (v7, r8) hm => ZaE co tok tmo (ZBM p0 v7 r8) hm hL fun r g => fun h hL => lfx (congrArg (fun n => (.ref (0, 0) 0 0 n : AV)) h) hL))))⟩⟩) (hB := fun y => ⟨.inl (Zaf _ _), rfl, trivial⟩)
abbrev E50 : List Slt → AV := fun y => .ref (0, 0) 1 0 y.length
@[reducible] def G50 : List Slt → List Blk := fun y => [⟨1, true, 62, 8, Zab Zar y⟩]
def ZBQ (p0 : List Slt) : PT 1 (List Slt) := al Zar p0 false fun b1 => br b1 (vw .sep <| vw (.ads 2 2 62 8) <| mv 2 0 ([] : List Slt) <| lr E50 (G50) ([] : List Slt)) (a0 p0 <| mv 7 0 p0 <| lr E50 (G50) p0)
def Zcv (p0 : List Slt) : Option (List Slt) := (ZBQ p0).m
set_option maxRecDepth 100000 in
theorem ZEq (p0 : List Slt) : KO Tryz.prog 50 1 [vL Zar p0] [⟨0, false, 0, 0, []⟩] (fun _ _ _ _ => True) (Zcv p0) E50 (G50) := ko1 Tryz.func50 Tryz.ntmps50 tok [.tmp 2] 1 (fun C co hT y hm Post hL => ZaE co tok tmo (ZBQ p0) hm hL fun r g => ⟨fun b1 => ⟨id, id⟩, by intro b h; subst h; cases b <;> rfl⟩) (hB := fun y => ⟨.inl (Zaf _ _), rfl, trivial⟩)
abbrev E51 : Bool → AV := fun y => vB y
@[reducible] def G51 (w0 : Int) : Bool → List Blk := fun y => [⟨0, true, 3, 1, [vI w0]⟩]
def ZBR (p0 : Slt) (w0 : Int) : PT 1 (Bool) := vw .go <| vw .go <| lr E51 (G51 w0) (decide (p0.num = w0))
def Zcl (p0 : Slt) (w0 : Int) : Option (Bool) := (ZBR p0 w0).m
set_option maxRecDepth 100000 in
theorem ZIL (p0 : Slt) (w0 : Int) : KO Tryz.prog 51 1 [.agg ((Zhs p0).map .d), .ptr (0, 0) 0 0] [⟨0, true, 3, 1, [vI w0]⟩] (fun _ _ _ _ => True) (Zcl p0 w0) E51 (G51 w0) := ko1 Tryz.func51 Tryz.ntmps51 tok [.tmp 3] 1 (fun C co hT y hm Post hL => ZaE co tok tmo (ZBR p0 w0) hm hL fun r g => id) (hB := fun y => ⟨.inr (by kernel_rfl), rfl, trivial⟩)
abbrev E22 : Val → AV := fun y => .agg ((ZaZ y).map .d)
def ZAZ (p0 : Val) (y2 : List Slt) : PT 0 (Val) := vw .go <| vw .go <| vz (fr y2) <| lr E22 (fun _ => []) (.mk p0.kind p0.bits p0.text p0.list p0.pairs y2 p0.raws : Val)
def Zzt (p0 : Val) (y2 : List Slt) : PT 0 (Val) := vw .go <| vz (fl y2) <| lc (mkS [(2, .ptr (1, 2) 0 0), (4, .ptr (1, 4) 0 0)] [((1, 2), ⟨0, true, 33, 7, [vI p0.kind, .d (.int .u64 p0.bits), vS p0.text, vL ZaI p0.list, vL rPr p0.pairs, .ref (1, 7) 0 0 y2.length, vL ZaK p0.raws]⟩), ((1, 4), ⟨0, true, 33, 7, [vI 0, .d (.int .u64 0), vS ⟨#[]⟩, .e0, .e0, .e0, .e0]⟩), ((1, 7), ⟨0, true, 62, 8, Zab Zar y2⟩)]) ((ZAZ p0 y2).m)
def ZAj (p0 : Val) (p1 : Int) (y1 : List Slt) : PT 0 (Val) := vz (fl y1) <| lc (mkS [(2, .ptr (1, 2) 0 0), (4, .ptr (1, 4) 0 0), (7, .ref (1, 7) 0 0 y1.length), (8, .fn (.func 51) [] [.ptr (1, 3) 0 0])] [((1, 2), ⟨0, true, 33, 7, [vI p0.kind, .d (.int .u64 p0.bits), vS p0.text, vL ZaI p0.list, vL rPr p0.pairs, vL Zar p0.slots, vL ZaK p0.raws]⟩), ((1, 3), ⟨0, true, 3, 1, [vI p1]⟩), ((1, 4), ⟨0, true, 33, 7, [vI 0, .d (.int .u64 0), vS ⟨#[]⟩, .e0, .e0, .e0, .e0]⟩), ((1, 7), ⟨0, true, 62, 8, Zab Zar y1⟩)]) ((Zcn y1 (fun (z0 : Slt) => Zcl z0 p1)).bind fun y2 => (Zzt p0 y2).m)
def ZC6 (p0 : Val) (p1 : Int) : PT 0 (Val) := vw .go <| lc (mkS [(2, .ptr (1, 2) 0 0), (3, .ptr (1, 3) 0 0), (4, .ptr (1, 4) 0 0), (6, vL Zar p0.slots)] [((1, 2), ⟨0, true, 33, 7, [vI p0.kind, .d (.int .u64 p0.bits), vS p0.text, vL ZaI p0.list, vL rPr p0.pairs, vL Zar p0.slots, vL ZaK p0.raws]⟩), ((1, 3), ⟨0, true, 3, 1, [vI p1]⟩), ((1, 4), ⟨0, true, 33, 7, [vI 0, .d (.int .u64 0), vS ⟨#[]⟩, .e0, .e0, .e0, .e0]⟩)]) ((Zcv p0.slots).bind fun y1 => (ZAj p0 p1 y1).m)
def ZDk (p0 : Val) (p1 : Int) : PT 0 (Val) := lc (mkS [(2, .ptr (1, 2) 0 0), (3, .ptr (1, 3) 0 0), (4, .ptr (1, 4) 0 0)] [((1, 2), ⟨0, true, 33, 7, [vI p0.kind, .d (.int .u64 p0.bits), vS p0.text, vL ZaI p0.list, vL rPr p0.pairs, vL Zar p0.slots, vL ZaK p0.raws]⟩), ((1, 3), ⟨0, true, 3, 1, [vI p1]⟩), ((1, 4), ⟨0, true, 33, 7, [vI 0, .d (.int .u64 0), vS ⟨#[]⟩, .e0, .e0, .e0, .e0]⟩)]) ((ZC6 p0 p1).m)
def Zfn (p0 : Val) (p1 : Int) : Option (Val) := (ZDk p0 p1).m
set_option maxRecDepth 100000 in
theorem ZFa (p0 : Val) (p1 : Int) : KC Tryz.prog 22 [.agg ((ZaZ p0).map .d), vI p1] (Zfn p0 p1) E22 := kc1 Tryz.func22 Tryz.ntmps22 tok [.cell 4 33] fun C co y hm Post hL => Zax co tok tmo 1 (ZDk p0 p1) (lf2 [2, 3, 4] [((1, 2), false), ((1, 3), false), ((1, 4), false)]) nl (fun _ h => h) hm hL fun r g => fun _ hm hL => sq (rg (ZdF co tok 2 (ZC6 p0 p1) (lf2 [2, 3, 4, 6] [((1, 2), false), ((1, 3), false), ((1, 4), false)]) hm hL fun r g => fun _ hm hL => ZfT co hm 50 [vL Zar p0.slots] [(1, 7)] ([((1, 7), ⟨0, false, 0, 0, []⟩)] ++ []) (fun z => .ref (1, 7) 1 0 z.length) (fun z => [((1, 7), ⟨1, true, 62, 8, Zab Zar z⟩)]) [] (fun z => trivial) (trivial) (fun z hz r g => Za8 (ZEq p0.slots) hz co g [((1, 7), ⟨0, false, 0, 0, []⟩)] [] [((1, 7), ⟨1, true, 62, 8, Zab Zar z⟩)] (lkS []) (fun H' hg ho => trivial) (fun H => ⟨(fun h => by cases h), by kernel_rfl, trivial⟩) (fun H => ⟨fun _ => ⟨rfl, Zay (Zaf _ _) (by kernel_rfl)⟩, by kernel_rfl, trivial⟩)) fun y1 hm => ZdF co tok 1 (ZAj p0 p1 y1) (lf2 [2, 4, 7, 8] [((1, 2), false), ((1, 3), false), ((1, 4), false), ((1, 7), true)]) hm hL fun r g => fun _ hm hL => ZfT co hm 46 [.ref (1, 7) 0 0 y1.length, .fn (.func 51) [] [.ptr (1, 3) 0 0]] [(1, 7), (1, 3)] ([((1, 7), ⟨0, true, 62, 8, Zab Zar y1⟩)] ++ [((1, 3), ⟨0, true, 3, 1, [vI p1]⟩)]) (fun z => .ref (1, 7) 0 0 z.length) (fun z => [((1, 7), ⟨0, true, 62, 8, Zab Zar z⟩)]) [] (fun z => trivial) (trivial) (fun z hz r g => Za8 (ZGW y1 (fun (z0 : Slt) => Zcl z0 p1)) hz co g [((1, 7), ⟨0, true, 62, 8, Zab Zar y1⟩)] [((1, 3), ⟨0, true, 3, 1, [vI p1]⟩)] [((1, 7), ⟨0, true, 62, 8, Zab Zar z⟩)] (lkS [(1, .fn (.func 51) [] [.ptr (r.κ (1, 3)) (r.γ (1, 3) + 0) 0])]) (fun H' hg ho => (fun z0 y hz => Zer (ZIL z0 p1) hz co g [((1, 3), ⟨0, true, 3, 1, [vI p1]⟩)] [((1, 7), ⟨0, true, 62, 8, Zab Zar y1⟩)] hg (by simp) (fun _ => .top) (fun _ _ => trivial) (fun l H => ⟨fun _ => ⟨rfl, by kernel_rfl⟩, by kernel_rfl, trivial⟩))) (fun H => ⟨fun _ => ⟨rfl, Zay (Zaf _ _) (by kernel_rfl)⟩, by kernel_rfl, trivial⟩) (fun H => ⟨fun _ => ⟨rfl, Zay (Zaf _ _) (by kernel_rfl)⟩, by kernel_rfl, trivial⟩)) fun y2 hm => ZcH co tok (Zzt p0 y2) (lf2 [2, 4] [((1, 2), false), ((1, 4), false), ((1, 7), true)]) hm hL fun r g => fun _ hm hL => ZaE co tok tmo (ZAZ p0 y2) hm hL fun r g => id))
abbrev ZG3 : Bool → AV := fun y => vB y
def Zte (p0 : Int) : PT 0 (Bool) := lr ZG3 (fun _ => []) (decide (p0 = (7 : Int)) || decide (p0 = (8 : Int)))
def Zgb (p0 : Int) : Option (Bool) := (Zte p0).m
set_option maxRecDepth 100000 in
theorem ZBW (p0 : Int) : KC Tryz.prog 141 [vI p0] (Zgb p0) ZG3 := kc1 Tryz.func141 Tryz.ntmps141 tok [.tmp 2] fun C co y hm Post hL => ZaE co tok tmo (Zte p0) hm hL fun r g => id
abbrev ZGG : Bool → AV := fun y => vB y
def ZsJ (p0 : Val) : PT 0 (Bool) := vw .go <| vz (eqL p0.list) <| vw .go <| vz (eqL p0.pairs) <| vs (wa p0.list.length p0.pairs.length) <| vw .go <| vz (eqL p0.slots) <| vs (wa (p0.list.length + p0.pairs.length) p0.slots.length) <| vw .go <| vz (eqL p0.raws) <| vs (wa ((p0.list.length + p0.pairs.length) + p0.slots.length) p0.raws.length) <| bF (decide ((0 : Int) < ((((p0.list.length + p0.pairs.length) + p0.slots.length) + p0.raws.length : Nat) : Int))) <| vw .go <| cl (ZBW p0.kind) fun y1 => bT y1 <| vw .go <| lr ZGG (fun _ => []) (decide (p0.bits = (0 : Int)))
def Zg2 (p0 : Val) : Option (Bool) := (ZsJ p0).m
set_option maxRecDepth 100000 in
theorem ZFm (p0 : Val) : KC Tryz.prog 107 [.agg ((ZaZ p0).map .d)] (Zg2 p0) ZGG := kc1 Tryz.func107 Tryz.ntmps107 tok [.tmp 2] fun C co y hm Post hL => ZaE co tok tmo (ZsJ p0) hm hL fun r g => fun y1 => id
abbrev ZG9 : Bool → AV := fun y => vB y
def ZtU (p0 : Int) : PT 0 (Bool) := bF (decide (p0 = (1 : Int))) <| bF (decide (p0 = (2 : Int))) <| bF (decide (p0 = (9 : Int))) <| bF (decide (p0 = (4 : Int))) <| lr ZG9 (fun _ => []) true
def Zfz (p0 : Int) (p1 : Int) : Option (Bool) := (ZtU p0).m
set_option maxRecDepth 100000 in
theorem ZGz (p0 : Int) (p1 : Int) : KC Tryz.prog 133 [vI p0, .d (.int .u64 p1)] (Zfz p0 p1) ZG9 := kc1 Tryz.func133 Tryz.ntmps133 tok [.tmp 4] fun C co y hm Post hL => ZaE co tok tmo (ZtU p0) hm hL fun r g => id
abbrev ZHr : Bool → AV := fun y => vB y
def Zsm (p0 : ByteArray) (p1 : ByteArray) : PT 0 (Bool) := vz (eqN p0.size) <| vz (eqN p1.size) <| vy (decide ((p1.size : Int) ≤ (p0.size : Int))) (eqN p1.size) <| ssg (decide ((p1.size : Int) ≤ (p0.size : Int))) p0 .no (.nt p1.size) fun s1 => lr ZHr (fun _ => []) (decide ((p1.size : Int) ≤ (p0.size : Int)) && decide (s1 = p1))
def Zdt (p0 : ByteArray) (p1 : ByteArray) : Option (Bool) := (Zsm p0 p1).m
set_option maxRecDepth 100000 in
theorem ZF2 (p0 : ByteArray) (p1 : ByteArray) : KC Tryz.prog 202 [vS p0, vS p1] (Zdt p0 p1) ZHr := kc1 Tryz.func202 Tryz.ntmps202 tok [.tmp 4] fun C co y hm Post hL => ZaE co tok tmo (Zsm p0 p1) hm hL fun r g => fun s1 => id
abbrev ZG5 : Bool → AV := fun y => vB y
def ZsP (p0 : ByteArray) (p1 : ByteArray) : PT 0 (Bool) := cl (ZF2 p0 p1) fun y1 => lr ZG5 (fun _ => []) y1
def Zel (p0 : ByteArray) (p1 : ByteArray) : Option (Bool) := (ZsP p0 p1).m
set_option maxRecDepth 100000 in
theorem ZGu (p0 : ByteArray) (p1 : ByteArray) : KC Tryz.prog 189 [vS p0, vS p1] (Zel p0 p1) ZG5 := kc1 Tryz.func189 Tryz.ntmps189 tok [.tmp 4] fun C co y hm Post hL => ZaE co tok tmo (ZsP p0 p1) hm hL fun r g => fun y1 => id
abbrev ZGE : Bool → AV := fun y => vB y
def Zt5 (p0 : ByteArray) (p1 : Int) (p2 : Int) : PT 0 (Bool) := ssg (decide (p2 = (65533 : Int))) p0 (.it p1) .no fun s1 => clg (decide (p2 = (65533 : Int))) (ZGu s1 (⟨#[239, 191, 189]⟩)) fun y2 => lr ZGE (fun _ => []) (decide (p2 = (65533 : Int)) && (!y2))
def Zjh (p0 : ByteArray) (p1 : Int) (p2 : Int) : Option (Bool) := (Zt5 p0 p1 p2).m
set_option maxRecDepth 100000 in
theorem ZFq (p0 : ByteArray) (p1 : Int) (p2 : Int) : KC Tryz.prog 171 [vS p0, vI p1, .d (.int .i32 p2)] (Zjh p0 p1 p2) ZGE := kc1 Tryz.func171 Tryz.ntmps171 tok [.tmp 6] fun C co y hm Post hL => ZaE co tok tmo (Zt5 p0 p1 p2) hm hL fun r g => fun s1 => fun y2 => id
abbrev ZFC : Int → AV := fun y => vI y
def ZtQ (p0 : ByteArray) : Nat → St := fun v1 => mkS [(0, vS p0), (6, .ptr (1, 6) 0 0)] [((1, 6), ⟨0, true, .s p0 v1, 0, []⟩)]
def Zsw : Unit → Nat × St := fun _ => (0, mkS [] [])
def ZtV (p0 : ByteArray) (v1 : Nat) : PT 0 (Lv (Nat) (Unit) (Int)) := br (decide (v1 < p0.size)) (vw .go <| cl (ZFq p0 (v1 : Int) (dcC p0 v1)) fun y2 => bF y2 <| ln (ZtQ p0) (v1 + dcW p0 v1)) (vw .go <| lxe (Zsw) ())
def ZtF (p0 : ByteArray) : Nat → Option (Lv (Nat) (Unit) (Int)) := fun v1 => (ZtV p0 v1).m
def Ztx : PT 0 (Int) := lr ZFC (fun _ => []) (-1)
def Zsb (p0 : ByteArray) : PT 0 (Int) := lc (mkS [(0, vS p0), (6, .ptr (1, 6) 0 0)] [((1, 6), ⟨0, true, .s p0 0, 0, []⟩)]) ((Zag (ZtF p0) big 0).bind (Sum.elim (fun _ => (Ztx).m) some))
def ZtS (p0 : ByteArray) : PT 0 (Int) := lc (mkS [(0, vS p0)] []) ((Zsb p0).m)
def Zpa (p0 : ByteArray) : Option (Int) := (ZtS p0).m
set_option maxRecDepth 100000 in
theorem Zp2 {C : Cx} (co : CO C 0) (p0 : ByteArray) : KL Tryz.prog (lkT tl) 16 C (pa [0, 0, 1, 0, 1] (Zah Tryz.f158)) [.tmp 2] 0 (ZtQ p0) (Zsw) ZFC (fun _ => []) (ZtF p0) := fun v1 _ hm Q Post hQ hL => ZbE co tok tmo (ZtV p0 v1) (lf2 [0, 6] [((1, 6), false)]) nl hQ hm hL fun r g => ⟨fun y2 => id, id⟩
set_option maxRecDepth 100000 in
theorem ZFY (p0 : ByteArray) : KC Tryz.prog 158 [vS p0] (Zpa p0) ZFC := kc1 Tryz.func158 Tryz.ntmps158 tok [.tmp 2] fun C co y hm Post hL => Zax co tok tmo 1 (ZtS p0) (lf1 [0]) nl (fun _ h => h) hm hL fun r g => fun _ hm hL => sq (Zax co tok tmo 1 (Zsb p0) (lf2 [0, 6] [((1, 6), false)]) nl (fun _ h => h) hm hL fun r g => fun _ hm hL => bk 0 (lo (lpF (Zp2 co p0) (fun _ h => h) hm hL (fun _ hm => ZaE co tok tmo (Ztx) hm hL fun r g => id))))
abbrev ZHs : Bool → AV := fun y => vB y
def Zs3 (p0 : ByteArray) : PT 0 (Bool) := cl (ZFY p0) fun y1 => lr ZHs (fun _ => []) (decide (y1 < (0 : Int)))
def Zi9 (p0 : ByteArray) : Option (Bool) := (Zs3 p0).m
set_option maxRecDepth 100000 in
theorem ZBk (p0 : ByteArray) : KC Tryz.prog 134 [vS p0] (Zi9 p0) ZHs := kc1 Tryz.func134 Tryz.ntmps134 tok [.tmp 2] fun C co y hm Post hL => ZaE co tok tmo (Zs3 p0) hm hL fun r g => fun y1 => id
abbrev ZGM : Bool → AV := fun y => vB y
def Zr4 (p0 : Int) (p1 : Val) : PT 0 (Bool) := cl (ZAC p0) fun y1 => vw .go <| vw .go <| clg (!((!y1) || (!decide (p1.kind = p0)))) (ZFm p1) fun y2 => vw .go <| clg (!(((!y1) || (!decide (p1.kind = p0))) || (!y2))) (ZGz p0 p1.bits) fun y3 => vw .go <| vy (!((((!y1) || (!decide (p1.kind = p0))) || (!y2)) || (!y3))) (eqN p1.text.size) <| bF (((((!y1) || (!decide (p1.kind = p0))) || (!y2)) || (!y3)) || decide ((4096 : Int) < (p1.text.size : Int))) <| vw .go <| clg (!(!decide (p0 = (7 : Int)))) (ZBk p1.text) fun y4 => lr ZGM (fun _ => []) ((!decide (p0 = (7 : Int))) || y4)
def Zhq (p0 : Int) (p1 : Val) : Option (Bool) := (Zr4 p0 p1).m
set_option maxRecDepth 100000 in
theorem ZCy (p0 : Int) (p1 : Val) : KC Tryz.prog 100 [vI p0, .agg ((ZaZ p1).map .d)] (Zhq p0 p1) ZGM := kc1 Tryz.func100 Tryz.ntmps100 tok [.tmp 4] fun C co y hm Post hL => ZaE co tok tmo (Zr4 p0 p1) hm hL fun r g => fun y1 => fun y2 => fun y3 => fun y4 => id
abbrev ZEn : Enm × Bool → AV := fun y => .tup [.agg ((Zap y.1).map .d), vB y.2]
def ZHF (pf1 : Enm → Option Bool) : Cl := fun no l H θ => (∀ (z0 : Enm) y, pf1 z0 = some y → ZhL Tryz.prog l no H (θ 1) [.agg ((Zap z0).map .d)] (vB y))
def ZsF (p0 : List Enm) : Nat → St := fun v1 => mkS [(1, .fn (.yield 1) [] []), (4, .ptr (1, 4) 0 0), (9, vL Zap p0), (10, vN p0.length), (11, vN v1)] [((1, 4), ⟨0, true, 89, 5, [vS ⟨#[]⟩, vB false, .e0, .e0, .e0]⟩)]
def Zue : Unit → Nat × St := fun _ => (0, mkS [(4, .ptr (1, 4) 0 0)] [((1, 4), ⟨0, true, 89, 5, [vS ⟨#[]⟩, vB false, .e0, .e0, .e0]⟩)])
def ZsW (p0 : List Enm) (pf1 : Enm → Option Bool) (v1 : Nat) : PT 0 (Lv (Nat) (Unit) (Enm × Bool)) := br (decide ((v1 : Int) < (p0.length : Int))) (ix p0 v1 fun e2 => vw .go <| vw .go <| cf Tryz.prog 1 [.agg ((Zap e2).map .d)] (pf1 e2) (fun y => vB y) fun y3 => br y3 (vw .go <| vw .go <| lrt ZEn (fun _ => []) (e2, true)) (vs (wa v1 1) <| ln (ZsF p0) (v1 + 1))) (lxe (Zue) ())
def ZtT (p0 : List Enm) (pf1 : Enm → Option Bool) : Nat → Option (Lv (Nat) (Unit) (Enm × Bool)) := fun v1 => (ZsW p0 pf1 v1).m
def Zta : PT 0 (Enm × Bool) := vw .go <| vw .go <| lr ZEn (fun _ => []) ((.mk ⟨#[]⟩ false [] [] [] : Enm), false)
def Zr9 (p0 : List Enm) (pf1 : Enm → Option Bool) : PT 0 (Enm × Bool) := vz (eqL p0) <| lc (mkS [(1, .fn (.yield 1) [] []), (4, .ptr (1, 4) 0 0), (9, vL Zap p0), (10, vN p0.length), (11, vI 0)] [((1, 4), ⟨0, true, 89, 5, [vS ⟨#[]⟩, vB false, .e0, .e0, .e0]⟩)]) ((Zag (ZtT p0 pf1) big 0).bind (Sum.elim (fun _ => (Zta).m) some))
def ZtK (p0 : List Enm) (pf1 : Enm → Option Bool) : PT 0 (Enm × Bool) := lc (mkS [(0, vL Zap p0), (1, .fn (.yield 1) [] []), (4, .ptr (1, 4) 0 0)] [((1, 4), ⟨0, true, 89, 5, [vS ⟨#[]⟩, vB false, .e0, .e0, .e0]⟩)]) ((Zr9 p0 pf1).m)
def Zdp (p0 : List Enm) (pf1 : Enm → Option Bool) : Option (Enm × Bool) := (ZtK p0 pf1).m
set_option maxRecDepth 100000 in
theorem ZrX {C : Cx} (co : CO C 0) (p0 : List Enm) (pf1 : Enm → Option Bool) (hT : (ZHF pf1) C.no C.l C.H0 C.θ) : KL Tryz.prog (lkT tl) 21 C (pa [0, 0, 1, 0, 1] (Zah Tryz.f136)) [.cell 4 89, .tmp 5] 0 (ZsF p0) (Zue) ZEn (fun _ => []) (ZtT p0 pf1) := fun v1 _ hm Q Post hQ hL => ZbE co tok tmo (ZsW p0 pf1 v1) (lf2 [1, 4, 9, 10, 11] [((1, 4), false)]) (lf2 [4] [((1, 4), false)]) hQ hm hL fun r g => ⟨fun e2 => ⟨⟨fun y hy => hT _ y hy, by intro r; kernel_rfl, by intro r y; kernel_rfl⟩, fun y3 => ⟨id, id⟩⟩, id⟩
set_option maxRecDepth 100000 in
theorem ZFe (p0 : List Enm) (pf1 : Enm → Option Bool) : KO Tryz.prog 136 0 [vL Zap p0, .fn (.yield 1) [] []] [] (ZHF pf1) (Zdp p0 pf1) ZEn (fun _ => []) := ko1 Tryz.func136 Tryz.ntmps136 tok [.cell 4 89, .tmp 5] 0 (fun C co hT y hm Post hL => Zax co tok tmo 1 (ZtK p0 pf1) (lf2 [0, 1, 4] [((1, 4), false)]) nl (fun _ h => h) hm hL fun r g => fun _ hm hL => sq (Zax co tok tmo 1 (Zr9 p0 pf1) (lf2 [1, 4, 9, 10, 11] [((1, 4), false)]) nl (fun _ h => h) hm hL fun r g => fun _ hm hL => bk 0 (lo (lpF (ZrX co p0 pf1 hT) (fun _ h => h) hm hL (fun _ hm => ZaE co tok tmo (Zta) hm hL fun r g => id)))))
abbrev ZHW : Bool → AV := fun y => vB y
@[reducible] def ZHp (w0 : ByteArray) : Bool → List Blk := fun y => [⟨0, true, 9, 1, [vS w0]⟩]
def ZtN (p0 : Enm) (w0 : ByteArray) : PT 1 (Bool) := vw .go <| vw .go <| lr ZHW (ZHp w0) (decide (p0.name = w0))
def Zdw (p0 : Enm) (w0 : ByteArray) : Option (Bool) := (ZtN p0 w0).m
set_option maxRecDepth 100000 in
theorem ZFg (p0 : Enm) (w0 : ByteArray) : KO Tryz.prog 137 1 [.agg ((Zap p0).map .d), .ptr (0, 0) 0 0] [⟨0, true, 9, 1, [vS w0]⟩] (fun _ _ _ _ => True) (Zdw p0 w0) ZHW (ZHp w0) := ko1 Tryz.func137 Tryz.ntmps137 tok [.tmp 3] 1 (fun C co hT y hm Post hL => ZaE co tok tmo (ZtN p0 w0) hm hL fun r g => id) (hB := fun y => ⟨.inr (by kernel_rfl), rfl, trivial⟩)
abbrev ZG1 : Enm × Bool → AV := fun y => .tup [.agg ((Zap y.1).map .d), vB y.2]
def ZsS (p0 : Scm) (p1 : ByteArray) : PT 0 (Enm × Bool) := vw .go <| cs Tryz.prog 136 [vL Zap p0.enums, .fn (.func 137) [] [.ptr (1, 3) 1 0]] [(1, 3)] [((1, 3), ⟨1, true, 9, 1, [vS p1]⟩)] (Zdp p0.enums (fun (z0 : Enm) => Zdw z0 p1)) (fun y => .tup [.agg ((Zap y.1).map .d), vB y.2]) fun y1 => vw .go <| lr ZG1 (fun _ => []) (y1.1, y1.2)
def ZiU (p0 : Scm) (p1 : ByteArray) : Option (Enm × Bool) := (ZsS p0 p1).m
set_option maxRecDepth 100000 in
theorem ZGd (p0 : Scm) (p1 : ByteArray) : KC Tryz.prog 103 [.agg ((Zcj p0).map .d), vS p1] (ZiU p0 p1) ZG1 := kc1 Tryz.func103 Tryz.ntmps103 tok [.cell 4 89, .tmp 5] fun C co y hm Post hL => ZaE co tok tmo (ZsS p0 p1) hm hL fun r g => ⟨fun y hy => Zb3 (ZFe p0.enums (fun (z0 : Enm) => Zdw z0 p1)) hy co g [] [((1, 3), ⟨1, true, 9, 1, [vS p1]⟩)] (lkS [(1, .fn (.func 137) [] [.ptr (r.κ (1, 3)) (r.γ (1, 3) + 1) 0])]) (fun H' hg ho => (fun z0 y hz => Zer (ZFg z0 p1) hz co g [((1, 3), ⟨1, true, 9, 1, [vS p1]⟩)] [] hg (by simp) (fun _ => .top) (fun _ _ => trivial) (fun l H => ⟨fun _ => ⟨rfl, by kernel_rfl⟩, by kernel_rfl, trivial⟩))) (fun H => trivial), fun y1 => id⟩
end Go.Proofs.YtpjofefihlbppaaGreat
