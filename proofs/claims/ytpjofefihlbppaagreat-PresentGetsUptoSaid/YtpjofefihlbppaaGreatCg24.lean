import Derived.Test.YtpjofefihlbppaaGreatCg23
import Derived.Test.YtpjofefihlbppaaGreatCg00
namespace Go.Proofs.YtpjofefihlbppaaGreat
set_option linter.all false
open Go Go.Eng
abbrev E60 : Int → AV := fun y => vI y
def H60 (pf1 : Fld → Option Bool) : Cl := fun no l H θ => (∀ (z0 : Fld) y, pf1 z0 = some y → Zh9 Tryz.prog l no H (θ 1) [.agg ((ZaD z0).map .d)] (vB y))
def ZB7 (p0 : List Fld) : Nat → St := fun v1 => mkS [(0, vL ZaD p0), (1, .fn (.yield 1) [] []), (7, vN p0.length), (8, vN v1)] []
def ZB5 : Unit → Nat × St := fun _ => (0, mkS [] [])
def ZDA (p0 : List Fld) (pf1 : Fld → Option Bool) (v1 : Nat) : PT 0 (Lv (Nat) (Unit) (Int)) := br (decide ((v1 : Int) < (p0.length : Int))) (ix p0 v1 fun e2 => cf Tryz.prog 1 [.agg ((ZaD e2).map .d)] (pf1 e2) (fun y => vB y) fun y3 => br y3 (lrt E60 (fun _ => []) (v1 : Int)) (vs (wa v1 1) <| ln (ZB7 p0) (v1 + 1))) (lxe (ZB5) ())
def ZAc (p0 : List Fld) (pf1 : Fld → Option Bool) : Nat → Option (Lv (Nat) (Unit) (Int)) := fun v1 => (ZDA p0 pf1 v1).m
def ZEN : PT 0 (Int) := lr E60 (fun _ => []) (-1)
def ZDe (p0 : List Fld) (pf1 : Fld → Option Bool) : PT 0 (Int) := vz (eqL p0) <| lc (mkS [(0, vL ZaD p0), (1, .fn (.yield 1) [] []), (7, vN p0.length), (8, vI 0)] []) ((Zag (ZAc p0 pf1) big 0).bind (Sum.elim (fun _ => (ZEN).m) some))
def ZCA (p0 : List Fld) (pf1 : Fld → Option Bool) : PT 0 (Int) := lc (mkS [(0, vL ZaD p0), (1, .fn (.yield 1) [] [])] []) ((ZDe p0 pf1).m)
def Zdq (p0 : List Fld) (pf1 : Fld → Option Bool) : Option (Int) := (ZCA p0 pf1).m
set_option maxRecDepth 100000 in
theorem ZxF {C : Cx} (co : CO C 0) (p0 : List Fld) (pf1 : Fld → Option Bool) (hT : (H60 pf1) C.no C.l C.H0 C.θ) : KL Tryz.prog (lkT tl) 19 C (pa [0, 0, 1, 0, 1] (Zah Tryz.f60)) [.tmp 4] 0 (ZB7 p0) (ZB5) E60 (fun _ => []) (ZAc p0 pf1) := fun v1 _ hm Q Post hQ hL => Zbm co tok tmo (ZDA p0 pf1 v1) (lf1 [0, 1, 7, 8]) nl hQ hm hL fun r g => ⟨fun e2 => ⟨⟨fun y hy => hT _ y hy, by intro r; kernel_rfl, by intro r y; kernel_rfl⟩, fun y3 => ⟨id, id⟩⟩, id⟩
set_option maxRecDepth 100000 in
theorem ZLd (p0 : List Fld) (pf1 : Fld → Option Bool) : KO Tryz.prog 60 0 [vL ZaD p0, .fn (.yield 1) [] []] [] (H60 pf1) (Zdq p0 pf1) E60 (fun _ => []) := ko1 Tryz.func60 Tryz.ntmps60 tok [.tmp 4] 0 (fun C co hT y hm Post hL => Zat co tok tmo 1 (ZCA p0 pf1) (lf1 [0, 1]) nl (fun _ h => h) hm hL fun r g => fun _ hm hL => sq (Zat co tok tmo 1 (ZDe p0 pf1) (lf1 [0, 1, 7, 8]) nl (fun _ h => h) hm hL fun r g => fun _ hm hL => bk 0 (lo (lpF (ZxF co p0 pf1 hT) (fun _ h => h) hm hL (fun _ hm => Zay co tok tmo (ZEN) hm hL fun r g => id)))))
abbrev ZrE : Int → AV := fun y => vI y
@[reducible] def ZpP (p0 : List Fld) : Int → List Blk := fun y => [⟨0, true, 51, 16, Zab ZaD p0⟩]
def ZB1 (pf1 : Fld → Option Bool) : Cl := fun no l H θ => (∀ (z0 : Fld) y, pf1 z0 = some y → Zh9 Tryz.prog l no H (θ 1) [.agg ((ZaD z0).map .d)] (vB y))
def Zlt (p0 : List Fld) : Nat → St := fun v1 => mkS [(0, .ref (0, 0) 0 0 p0.length), (1, .fn (.yield 1) [] []), (7, vN p0.length), (8, vN v1)] [((0, 0), ⟨0, true, 51, 16, Zab ZaD p0⟩)]
def Zob (p0 : List Fld) : Unit → Nat × St := fun _ => (0, mkS [] [((0, 0), ⟨0, true, 51, 16, Zab ZaD p0⟩)])
def ZlS (p0 : List Fld) (pf1 : Fld → Option Bool) (v1 : Nat) : PT 1 (Lv (Nat) (Unit) (Int)) := br (decide ((v1 : Int) < (p0.length : Int))) (vs (ir v1 p0.length 16) <| ca p0 v1 fun e2 => cf Tryz.prog 1 [.agg ((ZaD e2).map .d)] (pf1 e2) (fun y => vB y) fun y3 => br y3 (lrt ZrE (ZpP p0) (v1 : Int)) (vs (wa v1 1) <| vz (fl p0) <| ln (Zlt p0) (v1 + 1))) (vz (fl p0) <| lxe (Zob p0) ())
def Zpl (p0 : List Fld) (pf1 : Fld → Option Bool) : Nat → Option (Lv (Nat) (Unit) (Int)) := fun v1 => (ZlS p0 pf1 v1).m
def ZoU (p0 : List Fld) : PT 1 (Int) := lr ZrE (ZpP p0) (-1)
def Zpc (p0 : List Fld) (pf1 : Fld → Option Bool) : PT 1 (Int) := vz (eqN p0.length) <| vz (fl p0) <| lc (mkS [(0, .ref (0, 0) 0 0 p0.length), (1, .fn (.yield 1) [] []), (7, vN p0.length), (8, vI 0)] [((0, 0), ⟨0, true, 51, 16, Zab ZaD p0⟩)]) ((Zag (Zpl p0 pf1) big 0).bind (Sum.elim (fun _ => (ZoU p0).m) some))
def Zok (p0 : List Fld) (pf1 : Fld → Option Bool) : PT 1 (Int) := vz (fl p0) <| lc (mkS [(0, .ref (0, 0) 0 0 p0.length), (1, .fn (.yield 1) [] [])] [((0, 0), ⟨0, true, 51, 16, Zab ZaD p0⟩)]) ((Zpc p0 pf1).m)
def ZcN (p0 : List Fld) (pf1 : Fld → Option Bool) : Option (Int) := (Zok p0 pf1).m
set_option maxRecDepth 100000 in
theorem ZlU {C : Cx} (co : CO C 1) (p0 : List Fld) (pf1 : Fld → Option Bool) (hT : (ZB1 pf1) C.no C.l C.H0 C.θ) : KL Tryz.prog (lkT tl) 19 C (pa [0, 0, 1, 0, 1] (Zah Tryz.f60)) [.tmp 4] 1 (Zlt p0) (Zob p0) ZrE (ZpP p0) (Zpl p0 pf1) := fun v1 _ hm Q Post hQ hL => Zbm co tok tmo (ZlS p0 pf1 v1) (lf2 [0, 1, 7, 8] [((0, 0), true)]) (lf2 [] [((0, 0), true)]) hQ hm hL fun r g => ⟨fun e2 => ⟨⟨fun y hy => hT _ y hy, by intro r; kernel_rfl, by intro r y; kernel_rfl⟩, fun y3 => ⟨id, id⟩⟩, id⟩
set_option maxRecDepth 100000 in
theorem ZAl (p0 : List Fld) (pf1 : Fld → Option Bool) : KO Tryz.prog 60 1 [.ref (0, 0) 0 0 p0.length, .fn (.yield 1) [] []] [⟨0, true, 51, 16, Zab ZaD p0⟩] (ZB1 pf1) (ZcN p0 pf1) ZrE (ZpP p0) := ko1 Tryz.func60 Tryz.ntmps60 tok [.tmp 4] 1 (fun C co hT y hm Post hL => Zat co tok tmo 1 (Zok p0 pf1) (lf2 [0, 1] [((0, 0), true)]) nl (fun _ h => h) hm hL fun r g => fun _ hm hL => sq (Zat co tok tmo 1 (Zpc p0 pf1) (lf2 [0, 1, 7, 8] [((0, 0), true)]) nl (fun _ h => h) hm hL fun r g => fun _ hm hL => bk 0 (lo (lpF (ZlU co p0 pf1 hT) (fun _ h => h) hm hL (fun _ hm => Zay co tok tmo (ZoU p0) hm hL fun r g => id))))) (hB := fun y => ⟨.inl (Zaf _ _), rfl, trivial⟩)
abbrev ZzH (p0 : List Fld) : Key × Blk := ((0, 0), ⟨0, true, 51, 16, Zab ZaD p0⟩)
abbrev E57 : List Fld → AV := fun y => .ref (0, 0) 0 0 y.length
@[reducible] def G57 : List Fld → List Blk := fun y => [⟨0, true, 51, 16, Zab ZaD y⟩]
def H57 (pf1 : Fld → Option Bool) : Cl := fun no l H θ => (∀ (z0 : Fld) y, pf1 z0 = some y → Zh9 Tryz.prog l no H (θ 1) [.agg ((ZaD z0).map .d)] (vB y))
def ZwQ (p0 : List Fld) : Int × Int × List Fld → St := fun (v2, v3, r4) => mkS [(0, .ref (0, 0) 0 0 p0.length), (1, .fn (.yield 1) [] []), (5, vI v2), (6, vI v3)] [((0, 0), ⟨0, true, 51, 16, Zab ZaD r4⟩)]
def ZzD (p0 : List Fld) : Int × List Fld → Nat × St := fun (v7, r8) => (0, mkS [(0, .ref (0, 0) 0 0 p0.length), (5, vI v7)] [((0, 0), ⟨0, true, 51, 16, Zab ZaD r8⟩)])
def ZCs (p0 : List Fld) (pf1 : Fld → Option Bool) (v2 : Int) (v3 : Int) (r4 : List Fld) : PT 1 (Lv (Int × Int × List Fld) (Int × List Fld) (List Fld)) := vz (eqN p0.length) <| br (decide (v3 < (p0.length : Int))) (vs (iri v3 p0.length 16) <| ca r4 v3.toNat fun e5 => vw .go <| vw .go <| cf Tryz.prog 1 [.agg ((ZaD e5).map .d)] (pf1 e5) (fun y => vB y) fun y6 => br (!y6) (vw .go <| vs (iri v2 p0.length 16) <| vs (st r4 v2.toNat e5) <| vwr 0 ((Rw.f (e5 : Fld)).map .d) (fun _ => ZjW _) <| vs (wi (v2 + 1)) <| vs (wi (v3 + 1)) <| vz (fl (r4.set v2.toNat e5)) <| ln (ZwQ p0) ((v2 + 1), (v3 + 1), r4.set v2.toNat e5)) (vs (wi (v3 + 1)) <| vz (fl r4) <| ln (ZwQ p0) (v2, (v3 + 1), r4))) (vz (fl r4) <| lxe (ZzD p0) (v2, r4))
def ZBW (p0 : List Fld) (pf1 : Fld → Option Bool) : Int × Int × List Fld → Option (Lv (Int × Int × List Fld) (Int × List Fld) (List Fld)) := fun (v2, v3, r4) => (ZCs p0 pf1 v2 v3 r4).m
def Zz9 (p0 : List Fld) (v7 : Int) (r8 : List Fld) : PT 1 (List Fld) := sR p0.length 0 (.it v7) .no <| cr r8 (0 + v7.toNat) (p0.length - v7.toNat) [vI 0, vS ⟨#[]⟩, vI 0, vI 0, vI 0, vS ⟨#[]⟩, vS ⟨#[]⟩, vB false, vI 0, .d (.int .u64 0), vS ⟨#[]⟩, .e0, .e0, .e0, .e0, .e0] <| vwr 0 ([vI 0, vS ⟨#[]⟩, vI 0, vI 0, vI 0, vS ⟨#[]⟩, vS ⟨#[]⟩, vB false, vI 0, .d (.int .u64 0), vS ⟨#[]⟩, .e0, .e0, .e0, .e0, .e0]) (fun _ => Zl5 (by kernel_rfl)) <| tro 0 r8 (0 + v7.toNat) (p0.length - v7.toNat) [vI 0, vS ⟨#[]⟩, vI 0, vI 0, vI 0, vS ⟨#[]⟩, vS ⟨#[]⟩, vB false, vI 0, .d (.int .u64 0), vS ⟨#[]⟩, .e0, .e0, .e0, .e0, .e0] <| vw .sep <| sR p0.length 0 .no (.it v7) <| lfe (v7.toNat = (r8.take (0 + v7.toNat)).length) (fun E => E.P (.ref (0, 0) 0 0 v7.toNat) ([⟨0, true, 51, 16, Zab ZaD (r8.take (0 + v7.toNat))⟩])) (r8.take (0 + v7.toNat))
def ZBP (p0 : List Fld) (pf1 : Fld → Option Bool) (y1 : Int) : PT 1 (List Fld) := vs (wi (y1 + 1)) <| vz (fl p0) <| lc (mkS [(0, .ref (0, 0) 0 0 p0.length), (1, .fn (.yield 1) [] []), (5, vI y1), (6, vI (y1 + 1))] [(ZzH p0)]) ((Zag (ZBW p0 pf1) big (y1, (y1 + 1), p0)).bind (Sum.elim (fun (v7, r8) => (Zz9 p0 v7 r8).m) some))
def ZDF (p0 : List Fld) (pf1 : Fld → Option Bool) : PT 1 (List Fld) := cs Tryz.prog 60 [.ref (0, 0) 0 0 p0.length, .fn (.yield 1) [] []] [(0, 0)] [(ZzH p0)] (ZcN p0 pf1) (fun y => vI y) fun y1 => br (decide (y1 = ((-1) : Int))) (lr E57 (G57) p0) (vz (fl p0) <| lc (mkS [(0, .ref (0, 0) 0 0 p0.length), (1, .fn (.yield 1) [] []), (5, vI y1)] [(ZzH p0)]) ((ZBP p0 pf1 y1).m))
def Zc9 (p0 : List Fld) (pf1 : Fld → Option Bool) : Option (List Fld) := (ZDF p0 pf1).m
set_option maxRecDepth 100000 in
theorem ZyK {C : Cx} (co : CO C 1) (p0 : List Fld) (pf1 : Fld → Option Bool) (hT : (H57 pf1) C.no C.l C.H0 C.θ) : KL Tryz.prog (lkT tl) 42 C (pa [0, 0, 1, 0, 1, 1, 1] (Zah Tryz.f57)) [.tmp 4] 1 (ZwQ p0) (ZzD p0) E57 (G57) (ZBW p0 pf1) := fun (v2, v3, r4) _ hm Q Post hQ hL => Zbm co tok tmo (ZCs p0 pf1 v2 v3 r4) (lf2 [0, 1, 5, 6] [((0, 0), true)]) (lf2 [0, 5] [((0, 0), true)]) hQ hm hL fun r g => ⟨fun e5 => ⟨⟨fun y hy => hT _ y hy, by intro r; kernel_rfl, by intro r y; kernel_rfl⟩, fun y6 => ⟨id, id⟩⟩, id⟩
set_option maxRecDepth 100000 in
theorem ZKj (p0 : List Fld) (pf1 : Fld → Option Bool) : KO Tryz.prog 57 1 [.ref (0, 0) 0 0 p0.length, .fn (.yield 1) [] []] [⟨0, true, 51, 16, Zab ZaD p0⟩] (H57 pf1) (Zc9 p0 pf1) E57 (G57) := ko1 Tryz.func57 Tryz.ntmps57 tok [.tmp 4] 1 (fun C co hT y hm Post hL => Zat co tok tmo 3 (ZDF p0 pf1) (lf2 [0, 1, 5] [((0, 0), true)]) nl (fun _ h => h) hm hL fun r g => ⟨fun y hy => Zb5 (ZAl p0 pf1) hy co g [(ZzH p0)] [] (lkS [(1, r.θ 1)]) (fun H' hg ho => (fun z0 y hz => ZoE co g [(ZzH p0)] ho (hT z0 y hz))) (fun H => ⟨fun _ => ⟨rfl, Zau (Zaf _ _) (by kernel_rfl)⟩, by kernel_rfl, trivial⟩), fun y1 => ⟨id, fun _ hm hL => sq (Zat co tok tmo 1 (ZBP p0 pf1 y1) (lf2 [0, 1, 5, 6] [((0, 0), true)]) nl (fun _ h => h) hm hL fun r g => fun _ hm hL => bk 0 (lo (lpF (ZyK co p0 pf1 hT) (fun _ h => h) hm hL (fun (v7, r8) hm => Zay co tok tmo (Zz9 p0 v7 r8) hm hL fun r g => fun h hL => lfx (congrArg (fun n => (.ref (0, 0) 0 0 n : AV)) h) hL))))⟩⟩) (hB := fun y => ⟨.inl (Zaf _ _), rfl, trivial⟩)
abbrev E58 : List Fld → AV := fun y => .ref (0, 0) 1 0 y.length
@[reducible] def G58 : List Fld → List Blk := fun y => [⟨1, true, 51, 16, Zab ZaD y⟩]
def ZEg (p0 : List Fld) : PT 1 (List Fld) := al ZaD p0 false fun b1 => br b1 (vw .sep <| vw (.ads 2 2 51 16) <| mv 2 0 ([] : List Fld) <| lr E58 (G58) ([] : List Fld)) (a0 p0 <| mv 7 0 p0 <| lr E58 (G58) p0)
def ZeG (p0 : List Fld) : Option (List Fld) := (ZEg p0).m
set_option maxRecDepth 100000 in
theorem ZJ0 (p0 : List Fld) : KO Tryz.prog 58 1 [vL ZaD p0] [⟨0, false, 0, 0, []⟩] (fun _ _ _ _ => True) (ZeG p0) E58 (G58) := ko1 Tryz.func58 Tryz.ntmps58 tok [.tmp 2] 1 (fun C co hT y hm Post hL => Zay co tok tmo (ZEg p0) hm hL fun r g => ⟨fun b1 => ⟨id, id⟩, by intro b h; subst h; cases b <;> rfl⟩) (hB := fun y => ⟨.inl (Zaf _ _), rfl, trivial⟩)
abbrev E59 : Bool → AV := fun y => vB y
@[reducible] def G59 (w0 : ByteArray) : Bool → List Blk := fun y => [⟨0, true, 9, 1, [vS w0]⟩]
def ZA5 (p0 : Fld) (w0 : ByteArray) : PT 1 (Bool) := vw .go <| vw .go <| lr E59 (G59 w0) (!decide (p0.union = w0))
def Zde (p0 : Fld) (w0 : ByteArray) : Option (Bool) := (ZA5 p0 w0).m
set_option maxRecDepth 100000 in
theorem ZJ1 (p0 : Fld) (w0 : ByteArray) : KO Tryz.prog 59 1 [.agg ((ZaD p0).map .d), .ptr (0, 0) 0 0] [⟨0, true, 9, 1, [vS w0]⟩] (fun _ _ _ _ => True) (Zde p0 w0) E59 (G59 w0) := ko1 Tryz.func59 Tryz.ntmps59 tok [.tmp 3] 1 (fun C co hT y hm Post hL => Zay co tok tmo (ZA5 p0 w0) hm hL fun r g => id) (hB := fun y => ⟨.inr (by kernel_rfl), rfl, trivial⟩)
abbrev Zzu (p1 : ByteArray) : Key × Blk := ((1, 3), ⟨0, true, 9, 1, [vS p1]⟩)
abbrev E29 : List Fld → AV := fun y => vL ZaD y
def ZAC (y2 : List Fld) : PT 0 (List Fld) := vz (fr y2) <| lr E29 (fun _ => []) y2
def ZAu (y2 : List Fld) : PT 0 (List Fld) := vz (fl y2) <| lc (mkS [(4, .ref (1, 9) 0 0 y2.length)] [((1, 9), ⟨0, true, 51, 16, Zab ZaD y2⟩)]) ((ZAC y2).m)
def ZCi (p1 : ByteArray) (y1 : List Fld) : PT 0 (List Fld) := vz (fl y1) <| lc (mkS [(9, .ref (1, 9) 0 0 y1.length), (10, .fn (.func 59) [] [.ptr (1, 3) 0 0])] [(Zzu p1), ((1, 9), ⟨0, true, 51, 16, Zab ZaD y1⟩)]) ((Zc9 y1 (fun (z0 : Fld) => Zde z0 p1)).bind fun y2 => (ZAu y2).m)
def ZB2 (p0 : Msg) (p1 : ByteArray) : PT 0 (List Fld) := vw .go <| lc (mkS [(3, .ptr (1, 3) 0 0), (8, vL ZaD p0.fields)] [(Zzu p1)]) ((ZeG p0.fields).bind fun y1 => (ZCi p1 y1).m)
def ZAV (p0 : Msg) (p1 : ByteArray) : PT 0 (List Fld) := vw .go <| br (decide (p1 = (⟨#[]⟩ : ByteArray))) (lr E29 (fun _ => []) ([] : List Fld)) (lc (mkS [(2, .ptr (1, 2) 0 0), (3, .ptr (1, 3) 0 0)] [((1, 2), ⟨0, true, 56, 5, [vS p0.name, vL ZaD p0.fields, vL Zcu p0.reserved, vL ZaE p0.gone, vL eNt p0.notes]⟩), (Zzu p1)]) ((ZB2 p0 p1).m))
def ZhV (p0 : Msg) (p1 : ByteArray) : Option (List Fld) := (ZAV p0 p1).m
set_option maxRecDepth 100000 in
theorem ZIy (p0 : Msg) (p1 : ByteArray) : KC Tryz.prog 29 [.agg ((Zbn p0).map .d), vS p1] (ZhV p0 p1) E29 := kc1 Tryz.func29 Tryz.ntmps29 tok [.tmp 4] fun C co y hm Post hL => Zat co tok tmo 2 (ZAV p0 p1) (lf2 [2, 3] [((1, 2), false), ((1, 3), false)]) nl (fun _ h => h) hm hL fun r g => ⟨id, fun _ hm hL => sq (rg (ZdN co tok 2 (ZB2 p0 p1) (lf2 [3, 8] [((1, 3), false)]) hm hL fun r g => fun _ hm hL => Zfr co hm 58 [vL ZaD p0.fields] [(1, 9)] ([((1, 9), ⟨0, false, 0, 0, []⟩)] ++ []) (fun z => .ref (1, 9) 1 0 z.length) (fun z => [((1, 9), ⟨1, true, 51, 16, Zab ZaD z⟩)]) [] (fun z => trivial) (trivial) (fun z hz r g => Za2 (ZJ0 p0.fields) hz co g [((1, 9), ⟨0, false, 0, 0, []⟩)] [] [((1, 9), ⟨1, true, 51, 16, Zab ZaD z⟩)] (lkS []) (fun H' hg ho => trivial) (fun H => ⟨(fun h => by cases h), by kernel_rfl, trivial⟩) (fun H => ⟨fun _ => ⟨rfl, Zau (Zaf _ _) (by kernel_rfl)⟩, by kernel_rfl, trivial⟩)) fun y1 hm => ZdN co tok 1 (ZCi p1 y1) (lf2 [9, 10] [((1, 3), false), ((1, 9), true)]) hm hL fun r g => fun _ hm hL => Zfr co hm 57 [.ref (1, 9) 0 0 y1.length, .fn (.func 59) [] [.ptr (1, 3) 0 0]] [(1, 9), (1, 3)] ([((1, 9), ⟨0, true, 51, 16, Zab ZaD y1⟩)] ++ [(Zzu p1)]) (fun z => .ref (1, 9) 0 0 z.length) (fun z => [((1, 9), ⟨0, true, 51, 16, Zab ZaD z⟩)]) [] (fun z => trivial) (trivial) (fun z hz r g => Za2 (ZKj y1 (fun (z0 : Fld) => Zde z0 p1)) hz co g [((1, 9), ⟨0, true, 51, 16, Zab ZaD y1⟩)] [(Zzu p1)] [((1, 9), ⟨0, true, 51, 16, Zab ZaD z⟩)] (lkS [(1, .fn (.func 59) [] [.ptr (r.κ (1, 3)) (r.γ (1, 3) + 0) 0])]) (fun H' hg ho => (fun z0 y hz => Zev (ZJ1 z0 p1) hz co g [(Zzu p1)] [((1, 9), ⟨0, true, 51, 16, Zab ZaD y1⟩)] hg (by simp) (fun _ => .top) (fun _ _ => trivial) (fun l H => ⟨fun _ => ⟨rfl, by kernel_rfl⟩, by kernel_rfl, trivial⟩))) (fun H => ⟨fun _ => ⟨rfl, Zau (Zaf _ _) (by kernel_rfl)⟩, by kernel_rfl, trivial⟩) (fun H => ⟨fun _ => ⟨rfl, Zau (Zaf _ _) (by kernel_rfl)⟩, by kernel_rfl, trivial⟩)) fun y2 hm => ZcF co tok (ZAu y2) (lf2 [4] [((1, 9), true)]) hm hL fun r g => fun _ hm hL => Zay co tok tmo (ZAC y2) hm hL fun r g => id))⟩
abbrev E30 : Bool → AV := fun y => vB y
def H30 (pf1 : Fld → Option Bool) : Cl := fun no l H θ => (∀ (z0 : Fld) y, pf1 z0 = some y → Zh9 Tryz.prog l no H (θ 1) [.agg ((ZaD z0).map .d)] (vB y))
def ZCL (p0 : List Fld) (pf1 : Fld → Option Bool) : PT 0 (Bool) := cs Tryz.prog 60 [vL ZaD p0, .fn (.yield 1) [] []] [] [] (Zdq p0 pf1) (fun y => vI y) fun y1 => lr E30 (fun _ => []) (decide ((0 : Int) ≤ y1))
def ZcC (p0 : List Fld) (pf1 : Fld → Option Bool) : Option (Bool) := (ZCL p0 pf1).m
set_option maxRecDepth 100000 in
theorem ZKr (p0 : List Fld) (pf1 : Fld → Option Bool) : KO Tryz.prog 30 0 [vL ZaD p0, .fn (.yield 1) [] []] [] (H30 pf1) (ZcC p0 pf1) E30 (fun _ => []) := ko1 Tryz.func30 Tryz.ntmps30 tok [.tmp 4] 0 (fun C co hT y hm Post hL => Zay co tok tmo (ZCL p0 pf1) hm hL fun r g => ⟨fun y hy => Zb5 (ZLd p0 pf1) hy co g [] [] (lkS [(1, r.θ 1)]) (fun H' hg ho => (fun z0 y hz => ZoE co g [] ho (hT z0 y hz))) (fun H => trivial), fun y1 => id⟩)
abbrev E31 : Bool → AV := fun y => vB y
@[reducible] def G31 (w0 : Slt) : Bool → List Blk := fun y => [⟨0, true, 62, 8, [vI w0.num, vI w0.val.kind, .d (.int .u64 w0.val.bits), vS w0.val.text, vL ZaK w0.val.list, vL rPr w0.val.pairs, vL Zar w0.val.slots, vL ZaS w0.val.raws]⟩]
def ZEr (p0 : Fld) (w0 : Slt) : PT 1 (Bool) := vw .go <| vw .go <| lr E31 (G31 w0) (decide (p0.num = w0.num))
def Zcl (p0 : Fld) (w0 : Slt) : Option (Bool) := (ZEr p0 w0).m
set_option maxRecDepth 100000 in
theorem ZJ9 (p0 : Fld) (w0 : Slt) : KO Tryz.prog 31 1 [.agg ((ZaD p0).map .d), .ptr (0, 0) 0 0] [⟨0, true, 62, 8, [vI w0.num, vI w0.val.kind, .d (.int .u64 w0.val.bits), vS w0.val.text, vL ZaK w0.val.list, vL rPr w0.val.pairs, vL Zar w0.val.slots, vL ZaS w0.val.raws]⟩] (fun _ _ _ _ => True) (Zcl p0 w0) E31 (G31 w0) := ko1 Tryz.func31 Tryz.ntmps31 tok [.tmp 3] 1 (fun C co hT y hm Post hL => Zay co tok tmo (ZEr p0 w0) hm hL fun r g => id) (hB := fun y => ⟨.inr (by kernel_rfl), rfl, trivial⟩)
abbrev E13 : Int × Int → AV := fun y => .tup [vI y.1, vI y.2]
def ZDZ (p2 : Val) (y2 : List Fld) : Nat → St := fun v3 => mkS [(12, vL ZaD y2), (31, vL Zar p2.slots), (32, vN p2.slots.length), (33, vN v3)] []
def ZzN : Unit → Nat × St := fun _ => (0, mkS [] [])
def ZA1 (p2 : Val) (y2 : List Fld) (v3 : Nat) : PT 0 (Lv (Nat) (Unit) (Int × Int)) := br (decide ((v3 : Int) < (p2.slots.length : Int))) (ix p2.slots v3 fun e4 => vw .go <| cs Tryz.prog 30 [vL ZaD y2, .fn (.func 31) [] [.ptr (1, 14) 1 0]] [(1, 14)] [((1, 14), ⟨1, true, 62, 8, [vI e4.num, vI e4.val.kind, .d (.int .u64 e4.val.bits), vS e4.val.text, vL ZaK e4.val.list, vL rPr e4.val.pairs, vL Zar e4.val.slots, vL ZaS e4.val.raws]⟩)] (ZcC y2 (fun (z0 : Fld) => Zcl z0 e4)) (fun y => vB y) fun y5 => br y5 (vw .go <| lrt E13 (fun _ => []) (e4.num, 0)) (vs (wa v3 1) <| ln (ZDZ p2 y2) (v3 + 1))) (lxe (ZzN) ())
def ZBh (p2 : Val) (y2 : List Fld) : Nat → Option (Lv (Nat) (Unit) (Int × Int)) := fun v3 => (ZA1 p2 y2 v3).m
def ZA3 : PT 0 (Int × Int) := lr E13 (fun _ => []) (0, 0)
def ZzU (p2 : Val) (y2 : List Fld) : PT 0 (Int × Int) := vw .go <| vz (eqL p2.slots) <| lc (mkS [(12, vL ZaD y2), (31, vL Zar p2.slots), (32, vN p2.slots.length), (33, vI 0)] []) ((Zag (ZBh p2 y2) big 0).bind (Sum.elim (fun _ => (ZA3).m) some))
def ZBe (p0 : Scm) (p1 : ByteArray) (p2 : Val) (p3 : ByteArray) : PT 0 (Int × Int) := vw .go <| cl (ZEP p0 p1) fun y1 => vw .go <| br (!y1.2) (lr E13 (fun _ => []) (0, 10)) (vw .go <| cl (ZIy y1.1.m p3) fun y2 => vz (eqL y2) <| br (decide ((y2.length : Int) = (0 : Int))) (lr E13 (fun _ => []) (0, 8)) (lc (mkS [(6, .ptr (1, 6) 0 0), (12, vL ZaD y2)] [((1, 6), ⟨0, true, 33, 7, [vI p2.kind, .d (.int .u64 p2.bits), vS p2.text, vL ZaK p2.list, vL rPr p2.pairs, vL Zar p2.slots, vL ZaS p2.raws]⟩)]) ((ZzU p2 y2).m)))
def ZfV (p0 : Scm) (p1 : ByteArray) (p2 : Val) (p3 : ByteArray) : Option (Int × Int) := (ZBe p0 p1 p2 p3).m
set_option maxRecDepth 100000 in
theorem ZuL {C : Cx} (co : CO C 0) (p2 : Val) (y2 : List Fld) : KL Tryz.prog (lkT tl) 43 C (pa [0, 0, 1, 0, 1, 1, 1, 1, 1] (Zah Tryz.f13)) [.tmp 8, .tmp 9] 0 (ZDZ p2 y2) (ZzN) E13 (fun _ => []) (ZBh p2 y2) := fun v3 _ hm Q Post hQ hL => Zbm co tok tmo (ZA1 p2 y2 v3) (lf1 [12, 31, 32, 33]) nl hQ hm hL fun r g => ⟨fun e4 => ⟨fun y hy => Zb5 (ZKr y2 (fun (z0 : Fld) => Zcl z0 e4)) hy co g [] [((1, 14), ⟨1, true, 62, 8, [vI e4.num, vI e4.val.kind, .d (.int .u64 e4.val.bits), vS e4.val.text, vL ZaK e4.val.list, vL rPr e4.val.pairs, vL Zar e4.val.slots, vL ZaS e4.val.raws]⟩)] (lkS [(1, .fn (.func 31) [] [.ptr (r.κ (1, 14)) (r.γ (1, 14) + 1) 0])]) (fun H' hg ho => (fun z0 y hz => Zev (ZJ9 z0 e4) hz co g [((1, 14), ⟨1, true, 62, 8, [vI e4.num, vI e4.val.kind, .d (.int .u64 e4.val.bits), vS e4.val.text, vL ZaK e4.val.list, vL rPr e4.val.pairs, vL Zar e4.val.slots, vL ZaS e4.val.raws]⟩)] [] hg (by simp) (fun _ => .top) (fun _ _ => trivial) (fun l H => ⟨fun _ => ⟨rfl, by kernel_rfl⟩, by kernel_rfl, trivial⟩))) (fun H => trivial), fun y5 => ⟨id, id⟩⟩, id⟩
set_option maxRecDepth 100000 in
theorem ZKd (p0 : Scm) (p1 : ByteArray) (p2 : Val) (p3 : ByteArray) : KC Tryz.prog 13 [.agg ((Zcc p0).map .d), vS p1, .agg ((Zaz p2).map .d), vS p3] (ZfV p0 p1 p2 p3) E13 := kc1 Tryz.func13 Tryz.ntmps13 tok [.tmp 8, .tmp 9] fun C co y hm Post hL => Zat co tok tmo 5 (ZBe p0 p1 p2 p3) (lf2 [6, 12] [((1, 6), false)]) nl (fun _ h => h) hm hL fun r g => fun y1 => ⟨id, fun y2 => ⟨id, fun _ hm hL => sq (Zat co tok tmo 1 (ZzU p2 y2) (lf1 [12, 31, 32, 33]) nl (fun _ h => h) hm hL fun r g => fun _ hm hL => bk 0 (lo (lpF (ZuL co p2 y2) (fun _ h => h) hm hL (fun _ hm => Zay co tok tmo (ZA3) hm hL fun r g => id))))⟩⟩
abbrev Zq7 : Int → AV := fun y => vI y
@[reducible] def ZqE (p0 : List Slt) : Int → List Blk := fun y => [⟨0, true, 62, 8, Zab Zar p0⟩]
def ZEC (pf1 : Slt → Option Bool) : Cl := fun no l H θ => (∀ (z0 : Slt) y, pf1 z0 = some y → Zh9 Tryz.prog l no H (θ 1) [.agg ((Zhu z0).map .d)] (vB y))
def ZoW (p0 : List Slt) : Nat → St := fun v1 => mkS [(0, .ref (0, 0) 0 0 p0.length), (1, .fn (.yield 1) [] []), (7, vN p0.length), (8, vN v1)] [((0, 0), ⟨0, true, 62, 8, Zab Zar p0⟩)]
def ZmJ (p0 : List Slt) : Unit → Nat × St := fun _ => (0, mkS [] [((0, 0), ⟨0, true, 62, 8, Zab Zar p0⟩)])
def ZmQ (p0 : List Slt) (pf1 : Slt → Option Bool) (v1 : Nat) : PT 1 (Lv (Nat) (Unit) (Int)) := br (decide ((v1 : Int) < (p0.length : Int))) (vs (ir v1 p0.length 8) <| ca p0 v1 fun e2 => cf Tryz.prog 1 [.agg ((Zhu e2).map .d)] (pf1 e2) (fun y => vB y) fun y3 => br y3 (lrt Zq7 (ZqE p0) (v1 : Int)) (vs (wa v1 1) <| vz (fl p0) <| ln (ZoW p0) (v1 + 1))) (vz (fl p0) <| lxe (ZmJ p0) ())
def Zou (p0 : List Slt) (pf1 : Slt → Option Bool) : Nat → Option (Lv (Nat) (Unit) (Int)) := fun v1 => (ZmQ p0 pf1 v1).m
def ZlK (p0 : List Slt) : PT 1 (Int) := lr Zq7 (ZqE p0) (-1)
def Znx (p0 : List Slt) (pf1 : Slt → Option Bool) : PT 1 (Int) := vz (eqN p0.length) <| vz (fl p0) <| lc (mkS [(0, .ref (0, 0) 0 0 p0.length), (1, .fn (.yield 1) [] []), (7, vN p0.length), (8, vI 0)] [((0, 0), ⟨0, true, 62, 8, Zab Zar p0⟩)]) ((Zag (Zou p0 pf1) big 0).bind (Sum.elim (fun _ => (ZlK p0).m) some))
def Zpq (p0 : List Slt) (pf1 : Slt → Option Bool) : PT 1 (Int) := vz (fl p0) <| lc (mkS [(0, .ref (0, 0) 0 0 p0.length), (1, .fn (.yield 1) [] [])] [((0, 0), ⟨0, true, 62, 8, Zab Zar p0⟩)]) ((Znx p0 pf1).m)
def Zc7 (p0 : List Slt) (pf1 : Slt → Option Bool) : Option (Int) := (Zpq p0 pf1).m
set_option maxRecDepth 100000 in
theorem Zmk {C : Cx} (co : CO C 1) (p0 : List Slt) (pf1 : Slt → Option Bool) (hT : (ZEC pf1) C.no C.l C.H0 C.θ) : KL Tryz.prog (lkT tl) 19 C (pa [0, 0, 1, 0, 1] (Zah Tryz.f52)) [.tmp 4] 1 (ZoW p0) (ZmJ p0) Zq7 (ZqE p0) (Zou p0 pf1) := fun v1 _ hm Q Post hQ hL => Zbm co tok tmo (ZmQ p0 pf1 v1) (lf2 [0, 1, 7, 8] [((0, 0), true)]) (lf2 [] [((0, 0), true)]) hQ hm hL fun r g => ⟨fun e2 => ⟨⟨fun y hy => hT _ y hy, by intro r; kernel_rfl, by intro r y; kernel_rfl⟩, fun y3 => ⟨id, id⟩⟩, id⟩
set_option maxRecDepth 100000 in
theorem ZEe (p0 : List Slt) (pf1 : Slt → Option Bool) : KO Tryz.prog 52 1 [.ref (0, 0) 0 0 p0.length, .fn (.yield 1) [] []] [⟨0, true, 62, 8, Zab Zar p0⟩] (ZEC pf1) (Zc7 p0 pf1) Zq7 (ZqE p0) := ko1 Tryz.func52 Tryz.ntmps52 tok [.tmp 4] 1 (fun C co hT y hm Post hL => Zat co tok tmo 1 (Zpq p0 pf1) (lf2 [0, 1] [((0, 0), true)]) nl (fun _ h => h) hm hL fun r g => fun _ hm hL => sq (Zat co tok tmo 1 (Znx p0 pf1) (lf2 [0, 1, 7, 8] [((0, 0), true)]) nl (fun _ h => h) hm hL fun r g => fun _ hm hL => bk 0 (lo (lpF (Zmk co p0 pf1 hT) (fun _ h => h) hm hL (fun _ hm => Zay co tok tmo (ZlK p0) hm hL fun r g => id))))) (hB := fun y => ⟨.inl (Zaf _ _), rfl, trivial⟩)
abbrev ZAO (p0 : List Slt) : Key × Blk := ((0, 0), ⟨0, true, 62, 8, Zab Zar p0⟩)
abbrev E46 : List Slt → AV := fun y => .ref (0, 0) 0 0 y.length
@[reducible] def G46 : List Slt → List Blk := fun y => [⟨0, true, 62, 8, Zab Zar y⟩]
def H46 (pf1 : Slt → Option Bool) : Cl := fun no l H θ => (∀ (z0 : Slt) y, pf1 z0 = some y → Zh9 Tryz.prog l no H (θ 1) [.agg ((Zhu z0).map .d)] (vB y))
def Zy6 (p0 : List Slt) : Int × Int × List Slt → St := fun (v2, v3, r4) => mkS [(0, .ref (0, 0) 0 0 p0.length), (1, .fn (.yield 1) [] []), (5, vI v2), (6, vI v3)] [((0, 0), ⟨0, true, 62, 8, Zab Zar r4⟩)]
def ZDq (p0 : List Slt) : Int × List Slt → Nat × St := fun (v7, r8) => (0, mkS [(0, .ref (0, 0) 0 0 p0.length), (5, vI v7)] [((0, 0), ⟨0, true, 62, 8, Zab Zar r8⟩)])
def ZDT (p0 : List Slt) (pf1 : Slt → Option Bool) (v2 : Int) (v3 : Int) (r4 : List Slt) : PT 1 (Lv (Int × Int × List Slt) (Int × List Slt) (List Slt)) := vz (eqN p0.length) <| br (decide (v3 < (p0.length : Int))) (vs (iri v3 p0.length 8) <| ca r4 v3.toNat fun e5 => vw .go <| vw .go <| cf Tryz.prog 1 [.agg ((Zhu e5).map .d)] (pf1 e5) (fun y => vB y) fun y6 => br (!y6) (vw .go <| vs (iri v2 p0.length 8) <| vs (st r4 v2.toNat e5) <| vwr 0 ((Rw.f (e5 : Slt)).map .d) (fun _ => ZjW _) <| vs (wi (v2 + 1)) <| vs (wi (v3 + 1)) <| vz (fl (r4.set v2.toNat e5)) <| ln (Zy6 p0) ((v2 + 1), (v3 + 1), r4.set v2.toNat e5)) (vs (wi (v3 + 1)) <| vz (fl r4) <| ln (Zy6 p0) (v2, (v3 + 1), r4))) (vz (fl r4) <| lxe (ZDq p0) (v2, r4))
def ZD7 (p0 : List Slt) (pf1 : Slt → Option Bool) : Int × Int × List Slt → Option (Lv (Int × Int × List Slt) (Int × List Slt) (List Slt)) := fun (v2, v3, r4) => (ZDT p0 pf1 v2 v3 r4).m
def ZCe (p0 : List Slt) (v7 : Int) (r8 : List Slt) : PT 1 (List Slt) := sR p0.length 0 (.it v7) .no <| cr r8 (0 + v7.toNat) (p0.length - v7.toNat) [vI 0, vI 0, .d (.int .u64 0), vS ⟨#[]⟩, .e0, .e0, .e0, .e0] <| vwr 0 ([vI 0, vI 0, .d (.int .u64 0), vS ⟨#[]⟩, .e0, .e0, .e0, .e0]) (fun _ => Zl5 (by kernel_rfl)) <| tro 0 r8 (0 + v7.toNat) (p0.length - v7.toNat) [vI 0, vI 0, .d (.int .u64 0), vS ⟨#[]⟩, .e0, .e0, .e0, .e0] <| vw .sep <| sR p0.length 0 .no (.it v7) <| lfe (v7.toNat = (r8.take (0 + v7.toNat)).length) (fun E => E.P (.ref (0, 0) 0 0 v7.toNat) ([⟨0, true, 62, 8, Zab Zar (r8.take (0 + v7.toNat))⟩])) (r8.take (0 + v7.toNat))
def ZBu (p0 : List Slt) (pf1 : Slt → Option Bool) (y1 : Int) : PT 1 (List Slt) := vs (wi (y1 + 1)) <| vz (fl p0) <| lc (mkS [(0, .ref (0, 0) 0 0 p0.length), (1, .fn (.yield 1) [] []), (5, vI y1), (6, vI (y1 + 1))] [(ZAO p0)]) ((Zag (ZD7 p0 pf1) big (y1, (y1 + 1), p0)).bind (Sum.elim (fun (v7, r8) => (ZCe p0 v7 r8).m) some))
def Zz8 (p0 : List Slt) (pf1 : Slt → Option Bool) : PT 1 (List Slt) := cs Tryz.prog 52 [.ref (0, 0) 0 0 p0.length, .fn (.yield 1) [] []] [(0, 0)] [(ZAO p0)] (Zc7 p0 pf1) (fun y => vI y) fun y1 => br (decide (y1 = ((-1) : Int))) (lr E46 (G46) p0) (vz (fl p0) <| lc (mkS [(0, .ref (0, 0) 0 0 p0.length), (1, .fn (.yield 1) [] []), (5, vI y1)] [(ZAO p0)]) ((ZBu p0 pf1 y1).m))
def Zcm (p0 : List Slt) (pf1 : Slt → Option Bool) : Option (List Slt) := (Zz8 p0 pf1).m
set_option maxRecDepth 100000 in
theorem ZuD {C : Cx} (co : CO C 1) (p0 : List Slt) (pf1 : Slt → Option Bool) (hT : (H46 pf1) C.no C.l C.H0 C.θ) : KL Tryz.prog (lkT tl) 42 C (pa [0, 0, 1, 0, 1, 1, 1] (Zah Tryz.f46)) [.tmp 4] 1 (Zy6 p0) (ZDq p0) E46 (G46) (ZD7 p0 pf1) := fun (v2, v3, r4) _ hm Q Post hQ hL => Zbm co tok tmo (ZDT p0 pf1 v2 v3 r4) (lf2 [0, 1, 5, 6] [((0, 0), true)]) (lf2 [0, 5] [((0, 0), true)]) hQ hm hL fun r g => ⟨fun e5 => ⟨⟨fun y hy => hT _ y hy, by intro r; kernel_rfl, by intro r y; kernel_rfl⟩, fun y6 => ⟨id, id⟩⟩, id⟩
set_option maxRecDepth 100000 in
theorem ZH2 (p0 : List Slt) (pf1 : Slt → Option Bool) : KO Tryz.prog 46 1 [.ref (0, 0) 0 0 p0.length, .fn (.yield 1) [] []] [⟨0, true, 62, 8, Zab Zar p0⟩] (H46 pf1) (Zcm p0 pf1) E46 (G46) := ko1 Tryz.func46 Tryz.ntmps46 tok [.tmp 4] 1 (fun C co hT y hm Post hL => Zat co tok tmo 3 (Zz8 p0 pf1) (lf2 [0, 1, 5] [((0, 0), true)]) nl (fun _ h => h) hm hL fun r g => ⟨fun y hy => Zb5 (ZEe p0 pf1) hy co g [(ZAO p0)] [] (lkS [(1, r.θ 1)]) (fun H' hg ho => (fun z0 y hz => ZoE co g [(ZAO p0)] ho (hT z0 y hz))) (fun H => ⟨fun _ => ⟨rfl, Zau (Zaf _ _) (by kernel_rfl)⟩, by kernel_rfl, trivial⟩), fun y1 => ⟨id, fun _ hm hL => sq (Zat co tok tmo 1 (ZBu p0 pf1 y1) (lf2 [0, 1, 5, 6] [((0, 0), true)]) nl (fun _ h => h) hm hL fun r g => fun _ hm hL => bk 0 (lo (lpF (ZuD co p0 pf1 hT) (fun _ h => h) hm hL (fun (v7, r8) hm => Zay co tok tmo (ZCe p0 v7 r8) hm hL fun r g => fun h hL => lfx (congrArg (fun n => (.ref (0, 0) 0 0 n : AV)) h) hL))))⟩⟩) (hB := fun y => ⟨.inl (Zaf _ _), rfl, trivial⟩)
abbrev E50 : List Slt → AV := fun y => .ref (0, 0) 1 0 y.length
@[reducible] def G50 : List Slt → List Blk := fun y => [⟨1, true, 62, 8, Zab Zar y⟩]
def ZCC (p0 : List Slt) : PT 1 (List Slt) := al Zar p0 false fun b1 => br b1 (vw .sep <| vw (.ads 2 2 62 8) <| mv 2 0 ([] : List Slt) <| lr E50 (G50) ([] : List Slt)) (a0 p0 <| mv 7 0 p0 <| lr E50 (G50) p0)
def Zct (p0 : List Slt) : Option (List Slt) := (ZCC p0).m
set_option maxRecDepth 100000 in
theorem ZEY (p0 : List Slt) : KO Tryz.prog 50 1 [vL Zar p0] [⟨0, false, 0, 0, []⟩] (fun _ _ _ _ => True) (Zct p0) E50 (G50) := ko1 Tryz.func50 Tryz.ntmps50 tok [.tmp 2] 1 (fun C co hT y hm Post hL => Zay co tok tmo (ZCC p0) hm hL fun r g => ⟨fun b1 => ⟨id, id⟩, by intro b h; subst h; cases b <;> rfl⟩) (hB := fun y => ⟨.inl (Zaf _ _), rfl, trivial⟩)
abbrev E51 : Bool → AV := fun y => vB y
@[reducible] def G51 (w0 : Int) : Bool → List Blk := fun y => [⟨0, true, 3, 1, [vI w0]⟩]
def ZDl (p0 : Slt) (w0 : Int) : PT 1 (Bool) := vw .go <| vw .go <| lr E51 (G51 w0) (decide (p0.num = w0))
def Zcp (p0 : Slt) (w0 : Int) : Option (Bool) := (ZDl p0 w0).m
set_option maxRecDepth 100000 in
theorem ZKH (p0 : Slt) (w0 : Int) : KO Tryz.prog 51 1 [.agg ((Zhu p0).map .d), .ptr (0, 0) 0 0] [⟨0, true, 3, 1, [vI w0]⟩] (fun _ _ _ _ => True) (Zcp p0 w0) E51 (G51 w0) := ko1 Tryz.func51 Tryz.ntmps51 tok [.tmp 3] 1 (fun C co hT y hm Post hL => Zay co tok tmo (ZDl p0 w0) hm hL fun r g => id) (hB := fun y => ⟨.inr (by kernel_rfl), rfl, trivial⟩)
abbrev Zzj (p1 : Int) : Key × Blk := ((1, 3), ⟨0, true, 3, 1, [vI p1]⟩)
abbrev ZFp : Key × Blk := ((1, 4), ⟨0, true, 33, 7, [vI 0, .d (.int .u64 0), vS ⟨#[]⟩, .e0, .e0, .e0, .e0]⟩)
abbrev ZHJ (p0 : Val) : Key × Blk := ((1, 2), ⟨0, true, 33, 7, [vI p0.kind, .d (.int .u64 p0.bits), vS p0.text, vL ZaK p0.list, vL rPr p0.pairs, vL Zar p0.slots, vL ZaS p0.raws]⟩)
abbrev E22 : Val → AV := fun y => .agg ((Zaz y).map .d)
def ZBv (p0 : Val) (y2 : List Slt) : PT 0 (Val) := vw .go <| vw .go <| vz (fr y2) <| lr E22 (fun _ => []) (.mk p0.kind p0.bits p0.text p0.list p0.pairs y2 p0.raws : Val)
def ZAH (p0 : Val) (y2 : List Slt) : PT 0 (Val) := vw .go <| vz (fl y2) <| lc (mkS [(2, .ptr (1, 2) 0 0), (4, .ptr (1, 4) 0 0)] [((1, 2), ⟨0, true, 33, 7, [vI p0.kind, .d (.int .u64 p0.bits), vS p0.text, vL ZaK p0.list, vL rPr p0.pairs, .ref (1, 7) 0 0 y2.length, vL ZaS p0.raws]⟩), ZFp, ((1, 7), ⟨0, true, 62, 8, Zab Zar y2⟩)]) ((ZBv p0 y2).m)
def ZDH (p0 : Val) (p1 : Int) (y1 : List Slt) : PT 0 (Val) := vz (fl y1) <| lc (mkS [(2, .ptr (1, 2) 0 0), (4, .ptr (1, 4) 0 0), (7, .ref (1, 7) 0 0 y1.length), (8, .fn (.func 51) [] [.ptr (1, 3) 0 0])] [(ZHJ p0), (Zzj p1), ZFp, ((1, 7), ⟨0, true, 62, 8, Zab Zar y1⟩)]) ((Zcm y1 (fun (z0 : Slt) => Zcp z0 p1)).bind fun y2 => (ZAH p0 y2).m)
def ZBz (p0 : Val) (p1 : Int) : PT 0 (Val) := vw .go <| lc (mkS [(2, .ptr (1, 2) 0 0), (3, .ptr (1, 3) 0 0), (4, .ptr (1, 4) 0 0), (6, vL Zar p0.slots)] [(ZHJ p0), (Zzj p1), ZFp]) ((Zct p0.slots).bind fun y1 => (ZDH p0 p1 y1).m)
def ZBw (p0 : Val) (p1 : Int) : PT 0 (Val) := lc (mkS [(2, .ptr (1, 2) 0 0), (3, .ptr (1, 3) 0 0), (4, .ptr (1, 4) 0 0)] [(ZHJ p0), (Zzj p1), ZFp]) ((ZBz p0 p1).m)
def ZfG (p0 : Val) (p1 : Int) : Option (Val) := (ZBw p0 p1).m
set_option maxRecDepth 100000 in
theorem ZFJ (p0 : Val) (p1 : Int) : KC Tryz.prog 22 [.agg ((Zaz p0).map .d), vI p1] (ZfG p0 p1) E22 := kc1 Tryz.func22 Tryz.ntmps22 tok [.cell 4 33] fun C co y hm Post hL => Zat co tok tmo 1 (ZBw p0 p1) (lf2 [2, 3, 4] [((1, 2), false), ((1, 3), false), ((1, 4), false)]) nl (fun _ h => h) hm hL fun r g => fun _ hm hL => sq (rg (ZdN co tok 2 (ZBz p0 p1) (lf2 [2, 3, 4, 6] [((1, 2), false), ((1, 3), false), ((1, 4), false)]) hm hL fun r g => fun _ hm hL => Zfr co hm 50 [vL Zar p0.slots] [(1, 7)] ([((1, 7), ⟨0, false, 0, 0, []⟩)] ++ []) (fun z => .ref (1, 7) 1 0 z.length) (fun z => [((1, 7), ⟨1, true, 62, 8, Zab Zar z⟩)]) [] (fun z => trivial) (trivial) (fun z hz r g => Za2 (ZEY p0.slots) hz co g [((1, 7), ⟨0, false, 0, 0, []⟩)] [] [((1, 7), ⟨1, true, 62, 8, Zab Zar z⟩)] (lkS []) (fun H' hg ho => trivial) (fun H => ⟨(fun h => by cases h), by kernel_rfl, trivial⟩) (fun H => ⟨fun _ => ⟨rfl, Zau (Zaf _ _) (by kernel_rfl)⟩, by kernel_rfl, trivial⟩)) fun y1 hm => ZdN co tok 1 (ZDH p0 p1 y1) (lf2 [2, 4, 7, 8] [((1, 2), false), ((1, 3), false), ((1, 4), false), ((1, 7), true)]) hm hL fun r g => fun _ hm hL => Zfr co hm 46 [.ref (1, 7) 0 0 y1.length, .fn (.func 51) [] [.ptr (1, 3) 0 0]] [(1, 7), (1, 3)] ([((1, 7), ⟨0, true, 62, 8, Zab Zar y1⟩)] ++ [(Zzj p1)]) (fun z => .ref (1, 7) 0 0 z.length) (fun z => [((1, 7), ⟨0, true, 62, 8, Zab Zar z⟩)]) [] (fun z => trivial) (trivial) (fun z hz r g => Za2 (ZH2 y1 (fun (z0 : Slt) => Zcp z0 p1)) hz co g [((1, 7), ⟨0, true, 62, 8, Zab Zar y1⟩)] [(Zzj p1)] [((1, 7), ⟨0, true, 62, 8, Zab Zar z⟩)] (lkS [(1, .fn (.func 51) [] [.ptr (r.κ (1, 3)) (r.γ (1, 3) + 0) 0])]) (fun H' hg ho => (fun z0 y hz => Zev (ZKH z0 p1) hz co g [(Zzj p1)] [((1, 7), ⟨0, true, 62, 8, Zab Zar y1⟩)] hg (by simp) (fun _ => .top) (fun _ _ => trivial) (fun l H => ⟨fun _ => ⟨rfl, by kernel_rfl⟩, by kernel_rfl, trivial⟩))) (fun H => ⟨fun _ => ⟨rfl, Zau (Zaf _ _) (by kernel_rfl)⟩, by kernel_rfl, trivial⟩) (fun H => ⟨fun _ => ⟨rfl, Zau (Zaf _ _) (by kernel_rfl)⟩, by kernel_rfl, trivial⟩)) fun y2 hm => ZcF co tok (ZAH p0 y2) (lf2 [2, 4] [((1, 2), false), ((1, 4), false), ((1, 7), true)]) hm hL fun r g => fun _ hm hL => Zay co tok tmo (ZBv p0 y2) hm hL fun r g => id))
abbrev ZJd : Bool → AV := fun y => vB y
def ZsA (p0 : Int) : PT 0 (Bool) := lr ZJd (fun _ => []) (decide (p0 = (7 : Int)) || decide (p0 = (8 : Int)))
def Zgg (p0 : Int) : Option (Bool) := (ZsA p0).m
set_option maxRecDepth 100000 in
theorem ZCY (p0 : Int) : KC Tryz.prog 141 [vI p0] (Zgg p0) ZJd := kc1 Tryz.func141 Tryz.ntmps141 tok [.tmp 2] fun C co y hm Post hL => Zay co tok tmo (ZsA p0) hm hL fun r g => id
abbrev ZIJ : Bool → AV := fun y => vB y
def Zsj (p0 : Val) : PT 0 (Bool) := vw .go <| vz (eqL p0.list) <| vw .go <| vz (eqL p0.pairs) <| vs (wa p0.list.length p0.pairs.length) <| vw .go <| vz (eqL p0.slots) <| vs (wa (p0.list.length + p0.pairs.length) p0.slots.length) <| vw .go <| vz (eqL p0.raws) <| vs (wa ((p0.list.length + p0.pairs.length) + p0.slots.length) p0.raws.length) <| bF (decide ((0 : Int) < ((((p0.list.length + p0.pairs.length) + p0.slots.length) + p0.raws.length : Nat) : Int))) <| vw .go <| cl (ZCY p0.kind) fun y1 => bT y1 <| vw .go <| lr ZIJ (fun _ => []) (decide (p0.bits = (0 : Int)))
def Zhf (p0 : Val) : Option (Bool) := (Zsj p0).m
set_option maxRecDepth 100000 in
theorem ZGo (p0 : Val) : KC Tryz.prog 107 [.agg ((Zaz p0).map .d)] (Zhf p0) ZIJ := kc1 Tryz.func107 Tryz.ntmps107 tok [.tmp 2] fun C co y hm Post hL => Zay co tok tmo (Zsj p0) hm hL fun r g => fun y1 => id
abbrev ZJl : Bool → AV := fun y => vB y
def ZsB (p0 : Int) : PT 0 (Bool) := bF (decide (p0 = (1 : Int))) <| bF (decide (p0 = (2 : Int))) <| bF (decide (p0 = (9 : Int))) <| bF (decide (p0 = (4 : Int))) <| lr ZJl (fun _ => []) true
def Zfq (p0 : Int) (p1 : Int) : Option (Bool) := (ZsB p0).m
set_option maxRecDepth 100000 in
theorem ZF5 (p0 : Int) (p1 : Int) : KC Tryz.prog 133 [vI p0, .d (.int .u64 p1)] (Zfq p0 p1) ZJl := kc1 Tryz.func133 Tryz.ntmps133 tok [.tmp 4] fun C co y hm Post hL => Zay co tok tmo (ZsB p0) hm hL fun r g => id
abbrev ZH7 : Bool → AV := fun y => vB y
def ZtO (p0 : ByteArray) (p1 : ByteArray) : PT 0 (Bool) := vz (eqN p0.size) <| vz (eqN p1.size) <| vy (decide ((p1.size : Int) ≤ (p0.size : Int))) (eqN p1.size) <| ssg (decide ((p1.size : Int) ≤ (p0.size : Int))) p0 .no (.nt p1.size) fun s1 => lr ZH7 (fun _ => []) (decide ((p1.size : Int) ≤ (p0.size : Int)) && decide (s1 = p1))
def ZdA (p0 : ByteArray) (p1 : ByteArray) : Option (Bool) := (ZtO p0 p1).m
set_option maxRecDepth 100000 in
theorem ZGC (p0 : ByteArray) (p1 : ByteArray) : KC Tryz.prog 202 [vS p0, vS p1] (ZdA p0 p1) ZH7 := kc1 Tryz.func202 Tryz.ntmps202 tok [.tmp 4] fun C co y hm Post hL => Zay co tok tmo (ZtO p0 p1) hm hL fun r g => fun s1 => id
abbrev ZIZ : Bool → AV := fun y => vB y
def ZsI (p0 : ByteArray) (p1 : ByteArray) : PT 0 (Bool) := cl (ZGC p0 p1) fun y1 => lr ZIZ (fun _ => []) y1
def Zen (p0 : ByteArray) (p1 : ByteArray) : Option (Bool) := (ZsI p0 p1).m
set_option maxRecDepth 100000 in
theorem ZHD (p0 : ByteArray) (p1 : ByteArray) : KC Tryz.prog 189 [vS p0, vS p1] (Zen p0 p1) ZIZ := kc1 Tryz.func189 Tryz.ntmps189 tok [.tmp 4] fun C co y hm Post hL => Zay co tok tmo (ZsI p0 p1) hm hL fun r g => fun y1 => id
abbrev ZJk : Bool → AV := fun y => vB y
def Zt1 (p0 : ByteArray) (p1 : Int) (p2 : Int) : PT 0 (Bool) := ssg (decide (p2 = (65533 : Int))) p0 (.it p1) .no fun s1 => clg (decide (p2 = (65533 : Int))) (ZHD s1 (⟨#[239, 191, 189]⟩)) fun y2 => lr ZJk (fun _ => []) (decide (p2 = (65533 : Int)) && (!y2))
def Zjh (p0 : ByteArray) (p1 : Int) (p2 : Int) : Option (Bool) := (Zt1 p0 p1 p2).m
set_option maxRecDepth 100000 in
theorem ZHk (p0 : ByteArray) (p1 : Int) (p2 : Int) : KC Tryz.prog 171 [vS p0, vI p1, .d (.int .i32 p2)] (Zjh p0 p1 p2) ZJk := kc1 Tryz.func171 Tryz.ntmps171 tok [.tmp 6] fun C co y hm Post hL => Zay co tok tmo (Zt1 p0 p1 p2) hm hL fun r g => fun s1 => fun y2 => id
abbrev ZGK : Int → AV := fun y => vI y
def Zsq (p0 : ByteArray) : Nat → St := fun v1 => mkS [(0, vS p0), (6, .ptr (1, 6) 0 0)] [((1, 6), ⟨0, true, .s p0 v1, 0, []⟩)]
def Ztk : Unit → Nat × St := fun _ => (0, mkS [] [])
def ZtQ (p0 : ByteArray) (v1 : Nat) : PT 0 (Lv (Nat) (Unit) (Int)) := br (decide (v1 < p0.size)) (vw .go <| cl (ZHk p0 (v1 : Int) (dcC p0 v1)) fun y2 => bF y2 <| ln (Zsq p0) (v1 + dcW p0 v1)) (vw .go <| lxe (Ztk) ())
def ZtC (p0 : ByteArray) : Nat → Option (Lv (Nat) (Unit) (Int)) := fun v1 => (ZtQ p0 v1).m
def Zs7 : PT 0 (Int) := lr ZGK (fun _ => []) (-1)
def ZtN (p0 : ByteArray) : PT 0 (Int) := lc (mkS [(0, vS p0), (6, .ptr (1, 6) 0 0)] [((1, 6), ⟨0, true, .s p0 0, 0, []⟩)]) ((Zag (ZtC p0) big 0).bind (Sum.elim (fun _ => (Zs7).m) some))
def ZtZ (p0 : ByteArray) : PT 0 (Int) := lc (mkS [(0, vS p0)] []) ((ZtN p0).m)
def ZmN (p0 : ByteArray) : Option (Int) := (ZtZ p0).m
set_option maxRecDepth 100000 in
theorem ZqI {C : Cx} (co : CO C 0) (p0 : ByteArray) : KL Tryz.prog (lkT tl) 16 C (pa [0, 0, 1, 0, 1] (Zah Tryz.f158)) [.tmp 2] 0 (Zsq p0) (Ztk) ZGK (fun _ => []) (ZtC p0) := fun v1 _ hm Q Post hQ hL => Zbm co tok tmo (ZtQ p0 v1) (lf2 [0, 6] [((1, 6), false)]) nl hQ hm hL fun r g => ⟨fun y2 => id, id⟩
set_option maxRecDepth 100000 in
theorem ZHd (p0 : ByteArray) : KC Tryz.prog 158 [vS p0] (ZmN p0) ZGK := kc1 Tryz.func158 Tryz.ntmps158 tok [.tmp 2] fun C co y hm Post hL => Zat co tok tmo 1 (ZtZ p0) (lf1 [0]) nl (fun _ h => h) hm hL fun r g => fun _ hm hL => sq (Zat co tok tmo 1 (ZtN p0) (lf2 [0, 6] [((1, 6), false)]) nl (fun _ h => h) hm hL fun r g => fun _ hm hL => bk 0 (lo (lpF (ZqI co p0) (fun _ h => h) hm hL (fun _ hm => Zay co tok tmo (Zs7) hm hL fun r g => id))))
abbrev ZJw : Bool → AV := fun y => vB y
def Ztu (p0 : ByteArray) : PT 0 (Bool) := cl (ZHd p0) fun y1 => lr ZJw (fun _ => []) (decide (y1 < (0 : Int)))
def ZiZ (p0 : ByteArray) : Option (Bool) := (Ztu p0).m
set_option maxRecDepth 100000 in
theorem ZBl (p0 : ByteArray) : KC Tryz.prog 134 [vS p0] (ZiZ p0) ZJw := kc1 Tryz.func134 Tryz.ntmps134 tok [.tmp 2] fun C co y hm Post hL => Zay co tok tmo (Ztu p0) hm hL fun r g => fun y1 => id
abbrev ZI7 : Bool → AV := fun y => vB y
def Zs1 (p0 : Int) (p1 : Val) : PT 0 (Bool) := cl (ZCI p0) fun y1 => vw .go <| vw .go <| clg (!((!y1) || (!decide (p1.kind = p0)))) (ZGo p1) fun y2 => vw .go <| clg (!(((!y1) || (!decide (p1.kind = p0))) || (!y2))) (ZF5 p0 p1.bits) fun y3 => vw .go <| vy (!((((!y1) || (!decide (p1.kind = p0))) || (!y2)) || (!y3))) (eqN p1.text.size) <| bF (((((!y1) || (!decide (p1.kind = p0))) || (!y2)) || (!y3)) || decide ((4096 : Int) < (p1.text.size : Int))) <| vw .go <| clg (!(!decide (p0 = (7 : Int)))) (ZBl p1.text) fun y4 => lr ZI7 (fun _ => []) ((!decide (p0 = (7 : Int))) || y4)
def Zhh (p0 : Int) (p1 : Val) : Option (Bool) := (Zs1 p0 p1).m
set_option maxRecDepth 100000 in
theorem ZC7 (p0 : Int) (p1 : Val) : KC Tryz.prog 100 [vI p0, .agg ((Zaz p1).map .d)] (Zhh p0 p1) ZI7 := kc1 Tryz.func100 Tryz.ntmps100 tok [.tmp 4] fun C co y hm Post hL => Zay co tok tmo (Zs1 p0 p1) hm hL fun r g => fun y1 => fun y2 => fun y3 => fun y4 => id
abbrev ZET : Key × Blk := ((1, 4), ⟨0, true, 89, 5, [vS ⟨#[]⟩, vB false, .e0, .e0, .e0]⟩)
abbrev ZEV : Enm × Bool → AV := fun y => .tup [.agg ((Zcd y.1).map .d), vB y.2]
def ZIj (pf1 : Enm → Option Bool) : Cl := fun no l H θ => (∀ (z0 : Enm) y, pf1 z0 = some y → Zh9 Tryz.prog l no H (θ 1) [.agg ((Zcd z0).map .d)] (vB y))
def ZsW (p0 : List Enm) : Nat → St := fun v1 => mkS [(1, .fn (.yield 1) [] []), (4, .ptr (1, 4) 0 0), (9, vL Zcd p0), (10, vN p0.length), (11, vN v1)] [ZET]
def ZtV : Unit → Nat × St := fun _ => (0, mkS [(4, .ptr (1, 4) 0 0)] [ZET])
def ZsK (p0 : List Enm) (pf1 : Enm → Option Bool) (v1 : Nat) : PT 0 (Lv (Nat) (Unit) (Enm × Bool)) := br (decide ((v1 : Int) < (p0.length : Int))) (ix p0 v1 fun e2 => vw .go <| vw .go <| cf Tryz.prog 1 [.agg ((Zcd e2).map .d)] (pf1 e2) (fun y => vB y) fun y3 => br y3 (vw .go <| vw .go <| lrt ZEV (fun _ => []) (e2, true)) (vs (wa v1 1) <| ln (ZsW p0) (v1 + 1))) (lxe (ZtV) ())
def ZsU (p0 : List Enm) (pf1 : Enm → Option Bool) : Nat → Option (Lv (Nat) (Unit) (Enm × Bool)) := fun v1 => (ZsK p0 pf1 v1).m
def Zsp : PT 0 (Enm × Bool) := vw .go <| vw .go <| lr ZEV (fun _ => []) ((.mk ⟨#[]⟩ false [] [] [] : Enm), false)
def ZsQ (p0 : List Enm) (pf1 : Enm → Option Bool) : PT 0 (Enm × Bool) := vz (eqL p0) <| lc (mkS [(1, .fn (.yield 1) [] []), (4, .ptr (1, 4) 0 0), (9, vL Zcd p0), (10, vN p0.length), (11, vI 0)] [ZET]) ((Zag (ZsU p0 pf1) big 0).bind (Sum.elim (fun _ => (Zsp).m) some))
def Ztd (p0 : List Enm) (pf1 : Enm → Option Bool) : PT 0 (Enm × Bool) := lc (mkS [(0, vL Zcd p0), (1, .fn (.yield 1) [] []), (4, .ptr (1, 4) 0 0)] [ZET]) ((ZsQ p0 pf1).m)
def Zdo (p0 : List Enm) (pf1 : Enm → Option Bool) : Option (Enm × Bool) := (Ztd p0 pf1).m
set_option maxRecDepth 100000 in
theorem Zrh {C : Cx} (co : CO C 0) (p0 : List Enm) (pf1 : Enm → Option Bool) (hT : (ZIj pf1) C.no C.l C.H0 C.θ) : KL Tryz.prog (lkT tl) 21 C (pa [0, 0, 1, 0, 1] (Zah Tryz.f136)) [.cell 4 89, .tmp 5] 0 (ZsW p0) (ZtV) ZEV (fun _ => []) (ZsU p0 pf1) := fun v1 _ hm Q Post hQ hL => Zbm co tok tmo (ZsK p0 pf1 v1) (lf2 [1, 4, 9, 10, 11] [((1, 4), false)]) (lf2 [4] [((1, 4), false)]) hQ hm hL fun r g => ⟨fun e2 => ⟨⟨fun y hy => hT _ y hy, by intro r; kernel_rfl, by intro r y; kernel_rfl⟩, fun y3 => ⟨id, id⟩⟩, id⟩
set_option maxRecDepth 100000 in
theorem ZG9 (p0 : List Enm) (pf1 : Enm → Option Bool) : KO Tryz.prog 136 0 [vL Zcd p0, .fn (.yield 1) [] []] [] (ZIj pf1) (Zdo p0 pf1) ZEV (fun _ => []) := ko1 Tryz.func136 Tryz.ntmps136 tok [.cell 4 89, .tmp 5] 0 (fun C co hT y hm Post hL => Zat co tok tmo 1 (Ztd p0 pf1) (lf2 [0, 1, 4] [((1, 4), false)]) nl (fun _ h => h) hm hL fun r g => fun _ hm hL => sq (Zat co tok tmo 1 (ZsQ p0 pf1) (lf2 [1, 4, 9, 10, 11] [((1, 4), false)]) nl (fun _ h => h) hm hL fun r g => fun _ hm hL => bk 0 (lo (lpF (Zrh co p0 pf1 hT) (fun _ h => h) hm hL (fun _ hm => Zay co tok tmo (Zsp) hm hL fun r g => id)))))
abbrev ZJb : Bool → AV := fun y => vB y
@[reducible] def ZJq (w0 : ByteArray) : Bool → List Blk := fun y => [⟨0, true, 9, 1, [vS w0]⟩]
def Zta (p0 : Enm) (w0 : ByteArray) : PT 1 (Bool) := vw .go <| vw .go <| lr ZJb (ZJq w0) (decide (p0.name = w0))
def ZdC (p0 : Enm) (w0 : ByteArray) : Option (Bool) := (Zta p0 w0).m
set_option maxRecDepth 100000 in
theorem ZFW (p0 : Enm) (w0 : ByteArray) : KO Tryz.prog 137 1 [.agg ((Zcd p0).map .d), .ptr (0, 0) 0 0] [⟨0, true, 9, 1, [vS w0]⟩] (fun _ _ _ _ => True) (ZdC p0 w0) ZJb (ZJq w0) := ko1 Tryz.func137 Tryz.ntmps137 tok [.tmp 3] 1 (fun C co hT y hm Post hL => Zay co tok tmo (Zta p0 w0) hm hL fun r g => id) (hB := fun y => ⟨.inr (by kernel_rfl), rfl, trivial⟩)
abbrev ZIx : Enm × Bool → AV := fun y => .tup [.agg ((Zcd y.1).map .d), vB y.2]
def Zr7 (p0 : Scm) (p1 : ByteArray) : PT 0 (Enm × Bool) := vw .go <| cs Tryz.prog 136 [vL Zcd p0.enums, .fn (.func 137) [] [.ptr (1, 3) 1 0]] [(1, 3)] [((1, 3), ⟨1, true, 9, 1, [vS p1]⟩)] (Zdo p0.enums (fun (z0 : Enm) => ZdC z0 p1)) (fun y => .tup [.agg ((Zcd y.1).map .d), vB y.2]) fun y1 => vw .go <| lr ZIx (fun _ => []) (y1.1, y1.2)
def Zi3 (p0 : Scm) (p1 : ByteArray) : Option (Enm × Bool) := (Zr7 p0 p1).m
set_option maxRecDepth 100000 in
theorem ZGe (p0 : Scm) (p1 : ByteArray) : KC Tryz.prog 103 [.agg ((Zcc p0).map .d), vS p1] (Zi3 p0 p1) ZIx := kc1 Tryz.func103 Tryz.ntmps103 tok [.cell 4 89, .tmp 5] fun C co y hm Post hL => Zay co tok tmo (Zr7 p0 p1) hm hL fun r g => ⟨fun y hy => Zb5 (ZG9 p0.enums (fun (z0 : Enm) => ZdC z0 p1)) hy co g [] [((1, 3), ⟨1, true, 9, 1, [vS p1]⟩)] (lkS [(1, .fn (.func 137) [] [.ptr (r.κ (1, 3)) (r.γ (1, 3) + 1) 0])]) (fun H' hg ho => (fun z0 y hz => Zev (ZFW z0 p1) hz co g [((1, 3), ⟨1, true, 9, 1, [vS p1]⟩)] [] hg (by simp) (fun _ => .top) (fun _ _ => trivial) (fun l H => ⟨fun _ => ⟨rfl, by kernel_rfl⟩, by kernel_rfl, trivial⟩))) (fun H => trivial), fun y1 => id⟩
abbrev ZH1 : Bool → AV := fun y => vB y
def Zsg (p0 : Val) : PT 0 (Bool) := vw .go <| vw .go <| vw .go <| vw .go <| vy (!decide (p0.kind = (11 : Int))) (eqL p0.list) <| vw .go <| vw .go <| vy ((!((!decide (p0.kind = (11 : Int))) && decide ((0 : Int) < (p0.list.length : Int)))) && (!decide (p0.kind = (12 : Int)))) (eqL p0.pairs) <| vw .go <| vw .go <| vy ((!(((!decide (p0.kind = (11 : Int))) && decide ((0 : Int) < (p0.list.length : Int))) || ((!decide (p0.kind = (12 : Int))) && decide ((0 : Int) < (p0.pairs.length : Int))))) && (!decide (p0.kind = (10 : Int)))) (eqL p0.slots) <| vw .go <| vy ((!(((!decide (p0.kind = (11 : Int))) && decide ((0 : Int) < (p0.list.length : Int))) || ((!decide (p0.kind = (12 : Int))) && decide ((0 : Int) < (p0.pairs.length : Int))))) && (!decide (p0.kind = (10 : Int)))) (eqL p0.raws) <| vg ((!(((!decide (p0.kind = (11 : Int))) && decide ((0 : Int) < (p0.list.length : Int))) || ((!decide (p0.kind = (12 : Int))) && decide ((0 : Int) < (p0.pairs.length : Int))))) && (!decide (p0.kind = (10 : Int)))) (wa p0.slots.length p0.raws.length) <| vw .go <| vw .go <| vw .go <| vw .go <| lr ZH1 (fun _ => []) ((((((!decide (p0.kind = (11 : Int))) && decide ((0 : Int) < (p0.list.length : Int))) || ((!decide (p0.kind = (12 : Int))) && decide ((0 : Int) < (p0.pairs.length : Int)))) || ((!decide (p0.kind = (10 : Int))) && decide ((0 : Int) < ((p0.slots.length + p0.raws.length : Nat) : Int)))) || ((!decide (p0.bits = (0 : Int))) && ((decide (p0.kind = (7 : Int)) || decide (p0.kind = (8 : Int))) || (decide ((10 : Int) ≤ p0.kind) && decide (p0.kind ≤ (12 : Int)))))) || ((!decide (p0.text = (⟨#[]⟩ : ByteArray))) && (!(decide (p0.kind = (7 : Int)) || decide (p0.kind = (8 : Int))))))
def ZgV (p0 : Val) : Option (Bool) := (Zsg p0).m
set_option maxRecDepth 100000 in
theorem ZFT (p0 : Val) : KC Tryz.prog 161 [.agg ((Zaz p0).map .d)] (ZgV p0) ZH1 := kc1 Tryz.func161 Tryz.ntmps161 tok [.tmp 2] fun C co y hm Post hL => Zay co tok tmo (Zsg p0) hm hL fun r g => id
abbrev ZKs : Bool → AV := fun y => vB y
def ZfE (p0 : Enm) (p1 : Int) : Option (Bool) := none
set_option maxRecDepth 100000 in
theorem ZHv (p0 : Enm) (p1 : Int) : KC Tryz.prog 162 [.agg ((Zcd p0).map .d), .d (.int .u64 p1)] (ZfE p0 p1) ZKs := ⟨fun _ _ _ h => (by cases h), by intro r; kernel_rfl, by intro r y; kernel_rfl⟩
end Go.Proofs.YtpjofefihlbppaaGreat
