import Derived.Test.YthagpbkmakocjaaCu16
import Derived.Test.YthagpbkmakocjaaCu11
namespace Go.Proofs.Ythagpbkmakocjaa
set_option linter.all false
set_option maxRecDepth 100000
open Go Go.Eng
noncomputable section
abbrev E71 : Bool → AV := fun y => vB y
section
variable {C : Cx} (p0 p1 : List Spn)
def ZBC : Nat → St := fun v1 => mkS [(0, vL Zfv p0), (1, vL Zfv p1), (5, vN v1)] []
def ZIE : Unit → Nat × St := fun _ => (0, mkS [] [])
def ZvO (v1 : Nat) : PT 0 (Lv (Nat) (Unit) (Bool)) := vz (eqL p0) <| br (decide ((v1 : Int) < (p0.length : Int))) (ix p0 v1 fun e2 => ix p1 v1 fun e3 => br (!(decide (e2.lo = e3.lo) && (decide (e2.hi = e3.hi) && true))) (lrt E71 (fun _ => []) false) (vs (wa v1 1) <| ln (ZBC p0 p1) (v1 + 1))) (lxe (ZIE) ())
def Zru := fun (v1 : Nat) => (ZvO p0 p1 v1).m
def ZE4 : PT 0 (Bool) := lr E71 (fun _ => []) true
def ZAV : PT 0 (Bool) := lc (ZBC p0 p1 0) ((Zab (Zru p0 p1) big 0).bind (Sum.elim (fun _ => (ZE4).m) some))
def ZCA : PT 0 (Bool) := vz (eqL p0) <| vz (eqL p1) <| br (!decide ((p0.length : Int) = (p1.length : Int))) (lr E71 (fun _ => []) false) (lc (mkS [(0, vL Zfv p0), (1, vL Zfv p1)] []) ((ZAV p0 p1).m))
def Zbv (p0 : List Spn) (p1 : List Spn) : Option (Bool) := (ZCA p0 p1).m
theorem ZCs (co : CO C 0) : Kl 26 C (pa [0, 0, 1, 0, 1, 1] (Zac Try.f71)) [.tmp 4] 0 (ZBC p0 p1) (ZIE) E71 (fun _ => []) (Zru p0 p1) := fun v1 _ m Q Post hQ L => en co (ZvO p0 p1 v1) (lf1 [0, 1, 5]) nl hQ m L fun r g => ⟨fun e2 e3 => ⟨id, id⟩, id⟩
end
theorem ZNw (p0 : List Spn) (p1 : List Spn) : KC tp 71 [vL Zfv p0, vL Zfv p1] (Zbv p0 p1) E71 := kc1 Try.func71 Try.ntmps71 tok [.tmp 4] fun C co y m Post L => mi co 2 (ZCA p0 p1) (lf1 [0, 1]) nl ii m L fun r g => ⟨id, fun _ m L => sq (mi co 1 (ZAV p0 p1) (lf1 [0, 1, 5]) nl ii m L fun r g _ m L => bk 0 (lo (lpF (ZCs p0 p1 co) ii m L (fun _ m => fo co (ZE4) m L fun r g => id))))⟩
abbrev E72 : Bool → AV := fun y => vB y
section
variable {C : Cx} (p0 p1 : List Nt)
def ZFv : Nat → St := fun v1 => mkS [(0, vL eNt p0), (1, vL eNt p1), (5, vN v1)] []
def ZIj : Unit → Nat × St := fun _ => (0, mkS [] [])
def Zxv (v1 : Nat) : PT 0 (Lv (Nat) (Unit) (Bool)) := vz (eqL p0) <| br (decide ((v1 : Int) < (p0.length : Int))) (ix p0 v1 fun e2 => ix p1 v1 fun e3 => ixg (!(!decide (e2.name = e3.name))) p0 (v1 : Int) fun e4 => ixg (!(!decide (e2.name = e3.name))) p1 (v1 : Int) fun e5 => ixg (!((!decide (e2.name = e3.name)) || (!decide (e4.val.kind = e5.val.kind)))) p0 (v1 : Int) fun e6 => ixg (!((!decide (e2.name = e3.name)) || (!decide (e4.val.kind = e5.val.kind)))) p1 (v1 : Int) fun e7 => ixg (!(((!decide (e2.name = e3.name)) || (!decide (e4.val.kind = e5.val.kind))) || (!decide (e6.val.bits = e7.val.bits)))) p0 (v1 : Int) fun e8 => ixg (!(((!decide (e2.name = e3.name)) || (!decide (e4.val.kind = e5.val.kind))) || (!decide (e6.val.bits = e7.val.bits)))) p1 (v1 : Int) fun e9 => br ((((!decide (e2.name = e3.name)) || (!decide (e4.val.kind = e5.val.kind))) || (!decide (e6.val.bits = e7.val.bits))) || (!decide (e8.val.text = e9.val.text))) (lrt E72 (fun _ => []) false) (vs (wa v1 1) <| ln (ZFv p0 p1) (v1 + 1))) (lxe (ZIj) ())
def ZrW := fun (v1 : Nat) => (Zxv p0 p1 v1).m
def ZEc : PT 0 (Bool) := lr E72 (fun _ => []) true
def ZBA : PT 0 (Bool) := lc (ZFv p0 p1 0) ((Zab (ZrW p0 p1) big 0).bind (Sum.elim (fun _ => (ZEc).m) some))
def ZDw : PT 0 (Bool) := vz (eqL p0) <| vz (eqL p1) <| br (!decide ((p0.length : Int) = (p1.length : Int))) (lr E72 (fun _ => []) false) (lc (mkS [(0, vL eNt p0), (1, vL eNt p1)] []) ((ZBA p0 p1).m))
def Zb6 (p0 : List Nt) (p1 : List Nt) : Option (Bool) := (ZDw p0 p1).m
theorem ZAt (co : CO C 0) : Kl 73 C (pa [0, 0, 1, 0, 1, 1] (Zac Try.f72)) [.tmp 4] 0 (ZFv p0 p1) (ZIj) E72 (fun _ => []) (ZrW p0 p1) := fun v1 _ m Q Post hQ L => en co (Zxv p0 p1 v1) (lf1 [0, 1, 5]) nl hQ m L fun r g => ⟨fun e2 e3 e4 e5 e6 e7 e8 e9 => ⟨id, id⟩, id⟩
end
theorem ZGG (p0 : List Nt) (p1 : List Nt) : KC tp 72 [vL eNt p0, vL eNt p1] (Zb6 p0 p1) E72 := kc1 Try.func72 Try.ntmps72 tok [.tmp 4] fun C co y m Post L => mi co 2 (ZDw p0 p1) (lf1 [0, 1]) nl ii m L fun r g => ⟨id, fun _ m L => sq (mi co 1 (ZBA p0 p1) (lf1 [0, 1, 5]) nl ii m L fun r g _ m L => bk 0 (lo (lpF (ZAt p0 p1 co) ii m L (fun _ m => fo co (ZEc) m L fun r g => id))))⟩
abbrev E73 : Bool → AV := fun y => vB y
def ZFM (p0 : Fld) (p1 : Fld) : PT 0 (Bool) := vw .go <| vw .go <| vw .go <| vw .go <| vw .go <| vw .go <| vw .go <| vw .go <| vw .go <| vw .go <| vw .go <| vw .go <| vw .go <| vw .go <| br (((((((!decide (p0.num = p1.num)) || (!decide (p0.name = p1.name))) || (!decide (p0.card = p1.card))) || (!decide (p0.key = p1.key))) || (!(decide (p0.type.kind = p1.type.kind) && (decide (p0.type.name = p1.type.name) && true)))) || (!decide (p0.union = p1.union))) || (!(p0.hasDefault == p1.hasDefault))) (lr E73 (fun _ => []) false) (vw .go <| vw .go <| vw .go <| vw .go <| vw .go <| vw .go <| vw .go <| vw .go <| clg ((decide (p0.dflt.kind = p1.dflt.kind) && decide (p0.dflt.bits = p1.dflt.bits)) && decide (p0.dflt.text = p1.dflt.text)) (ZGG p0.notes p1.notes) fun y1 => lr E73 (fun _ => []) (((decide (p0.dflt.kind = p1.dflt.kind) && decide (p0.dflt.bits = p1.dflt.bits)) && decide (p0.dflt.text = p1.dflt.text)) && y1))
def Zbs (p0 : Fld) (p1 : Fld) : Option (Bool) := (ZFM p0 p1).m
theorem ZOj (p0 : Fld) (p1 : Fld) : KC tp 73 [.agg ((ZdA p0).map .d), .agg ((ZdA p1).map .d)] (Zbs p0 p1) E73 := kc1 Try.func73 Try.ntmps73 tok [.tmp 4] fun C co y m Post L => fo co (ZFM p0 p1) m L fun r g => ⟨id, fun y1 => id⟩
abbrev E37 : Bool → AV := fun y => vB y
section
variable {C : Cx} (co : CO C 0) (p0 p1 : List Msg) (v1 : Nat) (e2 e3 : Msg)
abbrev Zlc := PT 0 (Lv (Nat) (Unit) (Bool))
abbrev Zyr : List (Key × Blk) := [((1, 6), ⟨0, true, 39, 5, [vS e2.name, vL ZdA e2.fields, vL Zfv e2.reserved, vL Zah e2.gone, vL eNt e2.notes]⟩), ((1, 7), ⟨0, true, 39, 5, [vS e3.name, vL ZdA e3.fields, vL Zfv e3.reserved, vL Zah e3.gone, vL eNt e3.notes]⟩)]
abbrev Zps : List (Key × Bool) := [((1, 6), false), ((1, 7), false)]
abbrev ZJU : List (Nat × AV) := [(0, vL Zal p0), (1, vL Zal p1), (5, vN v1), (6, .ptr (1, 6) 0 0), (7, .ptr (1, 7) 0 0)]
def ZAT : Nat → St := fun v1 => mkS [(0, vL Zal p0), (1, vL Zal p1), (5, vN v1)] []
def ZHE : Unit → Nat × St := fun _ => (0, mkS [] [])
def ZEp : Nat → St := fun v6 => mkS [(0, vL Zal p0), (1, vL Zal p1), (5, vN v1), (6, .ptr (1, 6) 0 0), (7, .ptr (1, 7) 0 0), (8, vN v6)] (Zyr e2 e3)
def ZHA : Unit → Nat × St := fun _ => (2, mkS (ZJU p0 p1 v1) (Zyr e2 e3))
def Zu5 (v6 : Nat) : Zlc := vw .go <| vz (eqL e2.fields) <| br (decide ((v6 : Int) < (e2.fields.length : Int))) (vw .go <| ix e2.fields v6 fun e7 => vw .go <| ix e3.fields v6 fun e8 => cl (ZOj e7 e8) fun y9 => br (!y9) (lrt E37 (fun _ => []) false) (vs (wa v6 1) <| ln (ZEp p0 p1 v1 e2 e3) (v6 + 1))) (lxe (ZHA p0 p1 v1 e2 e3) ())
def Zs7 := fun (v6 : Nat) => (Zu5 p0 p1 v1 e2 e3 v6).m
def ZBo : Nat → St := fun v10 => mkS [(0, vL Zal p0), (1, vL Zal p1), (5, vN v1), (6, .ptr (1, 6) 0 0), (7, .ptr (1, 7) 0 0), (9, vN v10)] (Zyr e2 e3)
def ZJw : Unit → Nat × St := fun _ => (4, mkS [(0, vL Zal p0), (1, vL Zal p1), (5, vN v1)] [])
def Zvg (v10 : Nat) : Zlc := vw .go <| vz (eqL e2.gone) <| br (decide ((v10 : Int) < (e2.gone.length : Int))) (vw .go <| ix e2.gone v10 fun e11 => vw .go <| ix e3.gone v10 fun e12 => br (!decide (e11 = e12)) (lrt E37 (fun _ => []) false) (vs (wa v10 1) <| ln (ZBo p0 p1 v1 e2 e3) (v10 + 1))) (lxe (ZJw p0 p1 v1) ())
def Zq9 := fun (v10 : Nat) => (Zvg p0 p1 v1 e2 e3 v10).m
def Zv2 : Zlc := vs (wa v1 1) <| ln (ZAT p0 p1) (v1 + 1)
def ZyK : Zlc := lc (ZBo p0 p1 v1 e2 e3 0) ((Zab (Zq9 p0 p1 v1 e2 e3) big 0).bind (Sum.elim (fun _ => (Zv2 p0 p1 v1).m) (fun z => some (.rt z))))
def Zws : Zlc := lc (ZEp p0 p1 v1 e2 e3 0) ((Zab (Zs7 p0 p1 v1 e2 e3) big 0).bind (Sum.elim (fun _ => (ZyK p0 p1 v1 e2 e3).m) (fun z => some (.rt z))))
def ZvQ : Zlc := ix p0 v1 fun e2 => vw .go <| ix p1 v1 fun e3 => vw .go <| vw .go <| vw .go <| vw .go <| vy (!(!decide (e2.name = e3.name))) (eqL e2.fields) <| vw .go <| vy (!(!decide (e2.name = e3.name))) (eqL e3.fields) <| vw .go <| vw .go <| clg (!((!decide (e2.name = e3.name)) || (!decide ((e2.fields.length : Int) = (e3.fields.length : Int))))) (ZNw e2.reserved e3.reserved) fun y4 => vw .go <| vy (!(((!decide (e2.name = e3.name)) || (!decide ((e2.fields.length : Int) = (e3.fields.length : Int)))) || (!y4))) (eqL e2.gone) <| vw .go <| vy (!(((!decide (e2.name = e3.name)) || (!decide ((e2.fields.length : Int) = (e3.fields.length : Int)))) || (!y4))) (eqL e3.gone) <| vw .go <| vw .go <| clg (!((((!decide (e2.name = e3.name)) || (!decide ((e2.fields.length : Int) = (e3.fields.length : Int)))) || (!y4)) || (!decide ((e2.gone.length : Int) = (e3.gone.length : Int))))) (ZGG e2.notes e3.notes) fun y5 => br (((((!decide (e2.name = e3.name)) || (!decide ((e2.fields.length : Int) = (e3.fields.length : Int)))) || (!y4)) || (!decide ((e2.gone.length : Int) = (e3.gone.length : Int)))) || (!y5)) (lrt E37 (fun _ => []) false) (lc (mkS (ZJU p0 p1 v1) (Zyr e2 e3)) ((Zws p0 p1 v1 e2 e3).m))
def ZyC : Zlc := vz (eqL p0) <| br (decide ((v1 : Int) < (p0.length : Int))) (lc (mkS [(0, vL Zal p0), (1, vL Zal p1), (5, vN v1)] []) ((ZvQ p0 p1 v1).m)) (lxe (ZHE) ())
def Zrg := fun (v1 : Nat) => (ZyC p0 p1 v1).m
def ZDO : PT 0 (Bool) := lr E37 (fun _ => []) true
def ZC6 : PT 0 (Bool) := lc (ZAT p0 p1 0) ((Zab (Zrg p0 p1) big 0).bind (Sum.elim (fun _ => (ZDO).m) some))
def ZsD : PT 0 (Bool) := vz (eqL p0) <| vz (eqL p1) <| br (!decide ((p0.length : Int) = (p1.length : Int))) (lr E37 (fun _ => []) false) (lc (mkS [(0, vL Zal p0), (1, vL Zal p1)] []) ((ZC6 p0 p1).m))
def Zbd (p0 : List Msg) (p1 : List Msg) : Option (Bool) := (ZsD p0 p1).m
section
include co
theorem ZCH : Kl 105 C (pa [0, 0, 1, 0, 1, 1, 1, 0, 0, 1, 0, 0, 1, 0, 1, 1] (Zac Try.f37)) [.tmp 4] 0 (ZEp p0 p1 v1 e2 e3) (ZHA p0 p1 v1 e2 e3) E37 (fun _ => []) (Zs7 p0 p1 v1 e2 e3) := fun v6 _ m Q Post hQ L => en co (Zu5 p0 p1 v1 e2 e3 v6) (lf2 [0, 1, 5, 6, 7, 8] Zps) (lf2 [0, 1, 5, 6, 7] Zps) hQ m L fun r g => ⟨fun e7 e8 y9 => ⟨id, id⟩, id⟩
theorem ZBa : Kl 105 C (pa [0, 0, 1, 1, 1, 1, 1, 0, 0, 1, 0, 0, 1, 0, 1, 1] (Zac Try.f37)) [.tmp 4] 0 (ZBo p0 p1 v1 e2 e3) (ZJw p0 p1 v1) E37 (fun _ => []) (Zq9 p0 p1 v1 e2 e3) := fun v10 _ m Q Post hQ L => en co (Zvg p0 p1 v1 e2 e3 v10) (lf2 [0, 1, 5, 6, 7, 9] Zps) (lf1 [0, 1, 5]) hQ m L fun r g => ⟨fun e11 e12 => ⟨id, id⟩, id⟩
theorem ZBe : Kl 105 C (pa [0, 0, 1, 0, 1, 1] (Zac Try.f37)) [.tmp 4] 0 (ZAT p0 p1) (ZHE) E37 (fun _ => []) (Zrg p0 p1) := fun v1 _ m Q Post hQ L => mi co 1 (ZyC p0 p1 v1) (lf1 [0, 1, 5]) nl hQ m L fun r g => ⟨fun _ m L => sq (bk 1 (mi co 3 (ZvQ p0 p1 v1) (lf2 [0, 1, 5, 6, 7] Zps) nl hQ m L fun r g e2 e3 y4 y5 => ⟨id, fun _ m L => sq (mi co 1 (Zws p0 p1 v1 e2 e3) (lf2 [0, 1, 5, 6, 7, 8] Zps) nl hQ m L fun r g _ m L => bk 2 (lo (lpL (ZCH co p0 p1 v1 e2 e3) hQ m L (fun _ m => mi co 1 (ZyK p0 p1 v1 e2 e3) (lf2 [0, 1, 5, 6, 7, 9] Zps) nl hQ m L fun r g _ m L => bk 4 (lo (lpL (ZBa co p0 p1 v1 e2 e3) hQ m L (fun _ m => en co (Zv2 p0 p1 v1) (lf1 [0, 1, 5]) nl hQ m L fun r g => id)))))))⟩)), id⟩
end
end
theorem ZOT (p0 : List Msg) (p1 : List Msg) : KC tp 37 [vL Zal p0, vL Zal p1] (Zbd p0 p1) E37 := kc1 Try.func37 Try.ntmps37 tok [.tmp 4] fun C co y m Post L => mi co 2 (ZsD p0 p1) (lf1 [0, 1]) nl ii m L fun r g => ⟨id, fun _ m L => sq (mi co 1 (ZC6 p0 p1) (lf1 [0, 1, 5]) nl ii m L fun r g _ m L => bk 0 (lo (lpF (ZBe co p0 p1) ii m L (fun _ m => fo co (ZDO) m L fun r g => id))))⟩
abbrev E38 : Bool → AV := fun y => vB y
section
variable {C : Cx} (co : CO C 0) (p0 p1 : List Enm) (v1 : Nat) (e2 e3 : Enm)
abbrev ZwM := PT 0 (Lv (Nat) (Unit) (Bool))
def ZDu : Nat → St := fun v1 => mkS [(0, vL Zag p0), (1, vL Zag p1), (5, vN v1)] []
def ZJI : Unit → Nat × St := fun _ => (0, mkS [] [])
def ZFe : Nat → St := fun v6 => mkS [(0, vL Zag p0), (1, vL Zag p1), (5, vN v1), (6, .ptr (1, 6) 0 0), (7, .ptr (1, 7) 0 0), (8, vN v6)] [((1, 6), ⟨0, true, 42, 5, [vS e2.name, vB e2.opn, vL ZkV e2.items, vL Zfv e2.reserved, vL eNt e2.notes]⟩), ((1, 7), ⟨0, true, 42, 5, [vS e3.name, vB e3.opn, vL ZkV e3.items, vL Zfv e3.reserved, vL eNt e3.notes]⟩)]
def ZKd : Unit → Nat × St := fun _ => (2, mkS [(0, vL Zag p0), (1, vL Zag p1), (5, vN v1)] [])
def ZwE (v6 : Nat) : ZwM := vw .go <| vz (eqL e2.items) <| br (decide ((v6 : Int) < (e2.items.length : Int))) (vw .go <| ix e2.items v6 fun e7 => vw .go <| ix e3.items v6 fun e8 => vw .go <| ixg (!(!decide (e7.name = e8.name))) e2.items (v6 : Int) fun e9 => vw .go <| ixg (!(!decide (e7.name = e8.name))) e3.items (v6 : Int) fun e10 => vw .go <| ixg (!((!decide (e7.name = e8.name)) || (!decide (e9.num = e10.num)))) e2.items (v6 : Int) fun e11 => vw .go <| ixg (!((!decide (e7.name = e8.name)) || (!decide (e9.num = e10.num)))) e3.items (v6 : Int) fun e12 => clg (!((!decide (e7.name = e8.name)) || (!decide (e9.num = e10.num)))) (ZGG e11.notes e12.notes) fun y13 => br (((!decide (e7.name = e8.name)) || (!decide (e9.num = e10.num))) || (!y13)) (lrt E38 (fun _ => []) false) (vs (wa v6 1) <| ln (ZFe p0 p1 v1 e2 e3) (v6 + 1))) (lxe (ZKd p0 p1 v1) ())
def Zr7 := fun (v6 : Nat) => (ZwE p0 p1 v1 e2 e3 v6).m
def Zu8 : ZwM := vs (wa v1 1) <| ln (ZDu p0 p1) (v1 + 1)
def ZxN : ZwM := ix p0 v1 fun e2 => vw .go <| ix p1 v1 fun e3 => vw .go <| vw .go <| vw .go <| vw .go <| vw .go <| vw .go <| vy (!((!decide (e2.name = e3.name)) || (!(e2.opn == e3.opn)))) (eqL e2.items) <| vw .go <| vy (!((!decide (e2.name = e3.name)) || (!(e2.opn == e3.opn)))) (eqL e3.items) <| vw .go <| vw .go <| clg (!(((!decide (e2.name = e3.name)) || (!(e2.opn == e3.opn))) || (!decide ((e2.items.length : Int) = (e3.items.length : Int))))) (ZNw e2.reserved e3.reserved) fun y4 => vw .go <| vw .go <| clg (!((((!decide (e2.name = e3.name)) || (!(e2.opn == e3.opn))) || (!decide ((e2.items.length : Int) = (e3.items.length : Int)))) || (!y4))) (ZGG e2.notes e3.notes) fun y5 => br (((((!decide (e2.name = e3.name)) || (!(e2.opn == e3.opn))) || (!decide ((e2.items.length : Int) = (e3.items.length : Int)))) || (!y4)) || (!y5)) (lrt E38 (fun _ => []) false) (lc (ZFe p0 p1 v1 e2 e3 0) ((Zab (Zr7 p0 p1 v1 e2 e3) big 0).bind (Sum.elim (fun _ => (Zu8 p0 p1 v1).m) (fun z => some (.rt z)))))
def Zvy : ZwM := vz (eqL p0) <| br (decide ((v1 : Int) < (p0.length : Int))) (lc (mkS [(0, vL Zag p0), (1, vL Zag p1), (5, vN v1)] []) ((ZxN p0 p1 v1).m)) (lxe (ZJI) ())
def Zta := fun (v1 : Nat) => (Zvy p0 p1 v1).m
def ZDi : PT 0 (Bool) := lr E38 (fun _ => []) true
def ZGm : PT 0 (Bool) := lc (ZDu p0 p1 0) ((Zab (Zta p0 p1) big 0).bind (Sum.elim (fun _ => (ZDi).m) some))
def ZBD : PT 0 (Bool) := vz (eqL p0) <| vz (eqL p1) <| br (!decide ((p0.length : Int) = (p1.length : Int))) (lr E38 (fun _ => []) false) (lc (mkS [(0, vL Zag p0), (1, vL Zag p1)] []) ((ZGm p0 p1).m))
def Zbt (p0 : List Enm) (p1 : List Enm) : Option (Bool) := (ZBD p0 p1).m
section
include co
theorem ZFW : Kl 116 C (pa [0, 0, 1, 1, 1, 1, 0, 0, 1, 0, 0, 1, 0, 1, 1] (Zac Try.f38)) [.tmp 4] 0 (ZFe p0 p1 v1 e2 e3) (ZKd p0 p1 v1) E38 (fun _ => []) (Zr7 p0 p1 v1 e2 e3) := fun v6 _ m Q Post hQ L => en co (ZwE p0 p1 v1 e2 e3 v6) (lf2 [0, 1, 5, 6, 7, 8] [((1, 6), false), ((1, 7), false)]) (lf1 [0, 1, 5]) hQ m L fun r g => ⟨fun e7 e8 e9 e10 e11 e12 y13 => ⟨id, id⟩, id⟩
theorem ZD5 : Kl 116 C (pa [0, 0, 1, 0, 1, 1] (Zac Try.f38)) [.tmp 4] 0 (ZDu p0 p1) (ZJI) E38 (fun _ => []) (Zta p0 p1) := fun v1 _ m Q Post hQ L => mi co 1 (Zvy p0 p1 v1) (lf1 [0, 1, 5]) nl hQ m L fun r g => ⟨fun _ m L => sq (bk 1 (mi co 4 (ZxN p0 p1 v1) (lf2 [0, 1, 5, 6, 7, 8] [((1, 6), false), ((1, 7), false)]) nl hQ m L fun r g e2 e3 y4 y5 => ⟨id, fun _ m L => bk 2 (lo (lpL (ZFW co p0 p1 v1 e2 e3) hQ m L (fun _ m => en co (Zu8 p0 p1 v1) (lf1 [0, 1, 5]) nl hQ m L fun r g => id)))⟩)), id⟩
end
end
theorem ZPp (p0 : List Enm) (p1 : List Enm) : KC tp 38 [vL Zag p0, vL Zag p1] (Zbt p0 p1) E38 := kc1 Try.func38 Try.ntmps38 tok [.tmp 4] fun C co y m Post L => mi co 2 (ZBD p0 p1) (lf1 [0, 1]) nl ii m L fun r g => ⟨id, fun _ m L => sq (mi co 1 (ZGm p0 p1) (lf1 [0, 1, 5]) nl ii m L fun r g _ m L => bk 0 (lo (lpF (ZD5 co p0 p1) ii m L (fun _ m => fo co (ZDi) m L fun r g => id))))⟩
abbrev E39 : Bool → AV := fun y => vB y
section
variable {C : Cx} (co : CO C 0) (p0 p1 : List Svc) (v1 : Nat) (e2 e3 : Svc)
abbrev ZuV := PT 0 (Lv (Nat) (Unit) (Bool))
def ZB9 : Nat → St := fun v1 => mkS [(0, vL Zao p0), (1, vL Zao p1), (5, vN v1)] []
def ZKu : Unit → Nat × St := fun _ => (0, mkS [] [])
def ZCh : Nat → St := fun v5 => mkS [(0, vL Zao p0), (1, vL Zao p1), (5, vN v1), (6, .ptr (1, 6) 0 0), (7, .ptr (1, 7) 0 0), (8, vN v5)] [((1, 6), ⟨0, true, 57, 3, [vS e2.name, vL Zey e2.methods, vL eNt e2.notes]⟩), ((1, 7), ⟨0, true, 57, 3, [vS e3.name, vL Zey e3.methods, vL eNt e3.notes]⟩)]
def ZJc : Unit → Nat × St := fun _ => (2, mkS [(0, vL Zao p0), (1, vL Zao p1), (5, vN v1)] [])
def Zuw (v5 : Nat) : ZuV := vw .go <| vz (eqL e2.methods) <| br (decide ((v5 : Int) < (e2.methods.length : Int))) (vw .go <| ix e2.methods v5 fun e6 => vw .go <| vw .go <| ix e3.methods v5 fun e7 => vw .go <| vw .go <| vw .go <| vw .go <| vw .go <| vw .go <| vw .go <| vw .go <| vw .go <| vw .go <| vw .go <| clg (!((((!decide (e6.name = e7.name)) || (!decide (e6.inn = e7.inn))) || (!decide (e6.out = e7.out))) || (!decide (e6.shape = e7.shape)))) (ZGG e6.notes e7.notes) fun y8 => br (((((!decide (e6.name = e7.name)) || (!decide (e6.inn = e7.inn))) || (!decide (e6.out = e7.out))) || (!decide (e6.shape = e7.shape))) || (!y8)) (lrt E39 (fun _ => []) false) (vs (wa v5 1) <| ln (ZCh p0 p1 v1 e2 e3) (v5 + 1))) (lxe (ZJc p0 p1 v1) ())
def ZqT := fun (v5 : Nat) => (Zuw p0 p1 v1 e2 e3 v5).m
def ZxH : ZuV := vs (wa v1 1) <| ln (ZB9 p0 p1) (v1 + 1)
def ZyM : ZuV := ix p0 v1 fun e2 => vw .go <| ix p1 v1 fun e3 => vw .go <| vw .go <| vw .go <| vw .go <| vy (!(!decide (e2.name = e3.name))) (eqL e2.methods) <| vw .go <| vy (!(!decide (e2.name = e3.name))) (eqL e3.methods) <| vw .go <| vw .go <| clg (!((!decide (e2.name = e3.name)) || (!decide ((e2.methods.length : Int) = (e3.methods.length : Int))))) (ZGG e2.notes e3.notes) fun y4 => br (((!decide (e2.name = e3.name)) || (!decide ((e2.methods.length : Int) = (e3.methods.length : Int)))) || (!y4)) (lrt E39 (fun _ => []) false) (lc (ZCh p0 p1 v1 e2 e3 0) ((Zab (ZqT p0 p1 v1 e2 e3) big 0).bind (Sum.elim (fun _ => (ZxH p0 p1 v1).m) (fun z => some (.rt z)))))
def Zy2 : ZuV := vz (eqL p0) <| br (decide ((v1 : Int) < (p0.length : Int))) (lc (mkS [(0, vL Zao p0), (1, vL Zao p1), (5, vN v1)] []) ((ZyM p0 p1 v1).m)) (lxe (ZKu) ())
def Zqy := fun (v1 : Nat) => (Zy2 p0 p1 v1).m
def ZFQ : PT 0 (Bool) := lr E39 (fun _ => []) true
def ZFd : PT 0 (Bool) := lc (ZB9 p0 p1 0) ((Zab (Zqy p0 p1) big 0).bind (Sum.elim (fun _ => (ZFQ).m) some))
def ZBV : PT 0 (Bool) := vz (eqL p0) <| vz (eqL p1) <| br (!decide ((p0.length : Int) = (p1.length : Int))) (lr E39 (fun _ => []) false) (lc (mkS [(0, vL Zao p0), (1, vL Zao p1)] []) ((ZFd p0 p1).m))
def Za7 (p0 : List Svc) (p1 : List Svc) : Option (Bool) := (ZBV p0 p1).m
section
include co
theorem ZCz : Kl 103 C (pa [0, 0, 1, 1, 1, 1, 0, 0, 1, 0, 0, 1, 0, 1, 1] (Zac Try.f39)) [.tmp 4] 0 (ZCh p0 p1 v1 e2 e3) (ZJc p0 p1 v1) E39 (fun _ => []) (ZqT p0 p1 v1 e2 e3) := fun v5 _ m Q Post hQ L => en co (Zuw p0 p1 v1 e2 e3 v5) (lf2 [0, 1, 5, 6, 7, 8] [((1, 6), false), ((1, 7), false)]) (lf1 [0, 1, 5]) hQ m L fun r g => ⟨fun e6 e7 y8 => ⟨id, id⟩, id⟩
theorem ZDf : Kl 103 C (pa [0, 0, 1, 0, 1, 1] (Zac Try.f39)) [.tmp 4] 0 (ZB9 p0 p1) (ZKu) E39 (fun _ => []) (Zqy p0 p1) := fun v1 _ m Q Post hQ L => mi co 1 (Zy2 p0 p1 v1) (lf1 [0, 1, 5]) nl hQ m L fun r g => ⟨fun _ m L => sq (bk 1 (mi co 4 (ZyM p0 p1 v1) (lf2 [0, 1, 5, 6, 7, 8] [((1, 6), false), ((1, 7), false)]) nl hQ m L fun r g e2 e3 y4 => ⟨id, fun _ m L => bk 2 (lo (lpL (ZCz co p0 p1 v1 e2 e3) hQ m L (fun _ m => en co (ZxH p0 p1 v1) (lf1 [0, 1, 5]) nl hQ m L fun r g => id)))⟩)), id⟩
end
end
theorem ZPk (p0 : List Svc) (p1 : List Svc) : KC tp 39 [vL Zao p0, vL Zao p1] (Za7 p0 p1) E39 := kc1 Try.func39 Try.ntmps39 tok [.tmp 4] fun C co y m Post L => mi co 2 (ZBV p0 p1) (lf1 [0, 1]) nl ii m L fun r g => ⟨id, fun _ m L => sq (mi co 1 (ZFd p0 p1) (lf1 [0, 1, 5]) nl ii m L fun r g _ m L => bk 0 (lo (lpF (ZDf co p0 p1) ii m L (fun _ m => fo co (ZFQ) m L fun r g => id))))⟩
abbrev E11 : Bool → AV := fun y => vB y
def ZBj (p0 : Scm) (p1 : Scm) : PT 0 (Bool) := vw .go <| vw .go <| cl (ZOT p0.messages p1.messages) fun y1 => vw .go <| vw .go <| clg y1 (ZPp p0.enums p1.enums) fun y2 => vw .go <| vw .go <| clg (y1 && y2) (ZPk p0.services p1.services) fun y3 => lr E11 (fun _ => []) ((y1 && y2) && y3)
def Zb7 (p0 : Scm) (p1 : Scm) : Option (Bool) := (ZBj p0 p1).m
theorem ZOx (p0 : Scm) (p1 : Scm) : KC tp 11 [.agg ((ZGP p0).map .d), .agg ((ZGP p1).map .d)] (Zb7 p0 p1) E11 := kc1 Try.func11 Try.ntmps11 tok [.tmp 4] fun C co y m Post L => fo co (ZBj p0 p1) m L fun r g y1 y2 y3 => id
abbrev E12 : Bool → AV := fun y => vB y
def ZIP : PT 0 (Bool) := vw .sep <| vw .sep <| vw .sep <| vw .sep <| vw .go <| vw .go <| vw .sep <| cl (K_9 ([(.mk ⟨#[120]⟩ ⟨#[97]⟩ ([] : List Bt) ([(.mk ⟨#[77]⟩ ([(.mk 1 ⟨#[102]⟩ 2 0 (.mk 0 ⟨#[78]⟩ : Typ) ⟨#[]⟩ false (.mk 0 0 ⟨#[]⟩ ([] : List Val) ([] : List Pr) ([] : List Slt) ([] : List Raw) : Val) ([] : List Nt) : Fld)] : List Fld) ([] : List Spn) ([] : List Bt) ([] : List Nt) : Msg), (.mk (⟨#[77, 46, 78]⟩) ([] : List Fld) ([] : List Spn) ([] : List Bt) ([] : List Nt) : Msg)] : List Msg) ([] : List Enm) ([] : List Svc) : Fil)] : List Fil)) fun y1 => vw .go <| vw .go <| vy (decide (y1.2.2 = (0 : Int)) && decide (y1.2.1 = (⟨#[]⟩ : Bt))) (eqL y1.1.messages) <| vw .go <| ixg ((decide (y1.2.2 = (0 : Int)) && decide (y1.2.1 = (⟨#[]⟩ : Bt))) && decide ((y1.1.messages.length : Int) = (2 : Int))) y1.1.messages 0 fun e2 => vw .go <| ixg (((decide (y1.2.2 = (0 : Int)) && decide (y1.2.1 = (⟨#[]⟩ : Bt))) && decide ((y1.1.messages.length : Int) = (2 : Int))) && decide (e2.name = (⟨#[97, 46, 77]⟩ : Bt))) y1.1.messages 1 fun e3 => vw .go <| ixg ((((decide (y1.2.2 = (0 : Int)) && decide (y1.2.1 = (⟨#[]⟩ : Bt))) && decide ((y1.1.messages.length : Int) = (2 : Int))) && decide (e2.name = (⟨#[97, 46, 77]⟩ : Bt))) && decide (e3.name = (⟨#[97, 46, 77, 46, 78]⟩ : Bt))) y1.1.messages 0 fun e4 => vy ((((decide (y1.2.2 = (0 : Int)) && decide (y1.2.1 = (⟨#[]⟩ : Bt))) && decide ((y1.1.messages.length : Int) = (2 : Int))) && decide (e2.name = (⟨#[97, 46, 77]⟩ : Bt))) && decide (e3.name = (⟨#[97, 46, 77, 46, 78]⟩ : Bt))) (eqL e4.fields) <| vw .go <| ixg (((((decide (y1.2.2 = (0 : Int)) && decide (y1.2.1 = (⟨#[]⟩ : Bt))) && decide ((y1.1.messages.length : Int) = (2 : Int))) && decide (e2.name = (⟨#[97, 46, 77]⟩ : Bt))) && decide (e3.name = (⟨#[97, 46, 77, 46, 78]⟩ : Bt))) && decide ((e4.fields.length : Int) = (1 : Int))) y1.1.messages 0 fun e5 => ixg (((((decide (y1.2.2 = (0 : Int)) && decide (y1.2.1 = (⟨#[]⟩ : Bt))) && decide ((y1.1.messages.length : Int) = (2 : Int))) && decide (e2.name = (⟨#[97, 46, 77]⟩ : Bt))) && decide (e3.name = (⟨#[97, 46, 77, 46, 78]⟩ : Bt))) && decide ((e4.fields.length : Int) = (1 : Int))) e5.fields 0 fun e6 => lr E12 (fun _ => []) ((((((decide (y1.2.2 = (0 : Int)) && decide (y1.2.1 = (⟨#[]⟩ : Bt))) && decide ((y1.1.messages.length : Int) = (2 : Int))) && decide (e2.name = (⟨#[97, 46, 77]⟩ : Bt))) && decide (e3.name = (⟨#[97, 46, 77, 46, 78]⟩ : Bt))) && decide ((e4.fields.length : Int) = (1 : Int))) && (decide (e6.type.kind = 10) && (decide (e6.type.name = (⟨#[97, 46, 77, 46, 78]⟩)) && true)))
def ZcB : Option (Bool) := (ZIP).m
theorem ZO4 : KC tp 12 [] (ZcB) E12 := kc1 Try.func12 Try.ntmps12 tok [.tmp 0] fun C co y m Post L => fo co (ZIP) m L fun r g y1 e2 e3 e4 e5 e6 => id
abbrev E3 : Bool → AV := fun y => vB y
def ZMD (p0 : List Fil) : PT 0 (Bool) := cl (K_9 p0) fun y1 => vw .go <| cl (ZOd p0) fun y2 => vw .go <| vw .go <| vw .go <| cl (ZOx y1.1 y2.1) fun y3 => clg ((y3 && decide (y1.2.1 = y2.2.1)) && decide (y1.2.2 = y2.2.2)) (ZO4) fun y4 => lr E3 (fun _ => []) (((y3 && decide (y1.2.1 = y2.2.1)) && decide (y1.2.2 = y2.2.2)) && y4)
def ZbD (p0 : List Fil) : Option (Bool) := (ZMD p0).m
theorem K_3 (p0 : List Fil) : KC tp 3 [vL Zar p0] (ZbD p0) E3 := kc1 Try.func3 Try.ntmps3 tok [.tmp 2] fun C co y m Post L => fo co (ZMD p0) m L fun r g y1 y2 y3 y4 => id
end
end Go.Proofs.Ythagpbkmakocjaa
namespace Go.Eng
set_option linter.all false
open Go Go.RowKit
section
variable {σ ξ ρ α β γ : Type}
def ZeE (g : β → α → β ⊕ ρ) : β → List α → β ⊕ ρ
 | b, [] => .inl b
 | b, x :: l => match g b x with
  | .inl b' => ZeE g b' l
  | .inr r => .inr r
theorem ZkO {B : σ → Option (Lv σ ξ ρ)} {N : Nat} (l : List α) (mk : Nat → β → σ) (I : Nat → β → Prop) (g : β → α → β ⊕ ρ) (e : β → ξ)
  (hs : ∀ i b x, l[i]? = some x → I i b → B (mk i b) = some (Sum.elim (fun b' => Lv.nx (mk (i + 1) b')) Lv.rt (g b x)) ∧ ∀ b', g b x = .inl b' → I (i + 1) b')
  (he : ∀ b, I l.length b → B (mk l.length b) = some (.ex (e b))) (b0 : β) (h0 : I 0 b0) (hN : l.length < N) : Zab B N (mk 0 b0) = some (Sum.map e id (ZeE g b0 l)) := by
 suffices H : ∀ k i b N, i + k = l.length → I i b → k < N → Zab B N (mk i b) = some (Sum.map e id (ZeE g b (l.drop i))) by
  have := H l.length 0 b0 N (by omega) h0 hN
  simpa using this
 intro k
 induction k with
 | zero =>
  intro i b N hi hI hN
  obtain ⟨N, rfl⟩ : ∃ m, N = m + 1 := ⟨N - 1, by omega⟩
  have : i = l.length := by omega
  subst this
  rw [Zab, he b hI, List.drop_length]
  rfl
 | succ k ih =>
  intro i b N hi hI hN
  obtain ⟨N, rfl⟩ : ∃ m, N = m + 1 := ⟨N - 1, by omega⟩
  have hlt : i < l.length := by omega
  obtain ⟨h1, h2⟩ := hs i b l[i] (List.getElem?_eq_getElem hlt) hI
  rw [Zab, h1, List.drop_eq_getElem_cons hlt, ZeE]
  cases hg : g b l[i] with
  | inl b' => exact ih (i + 1) b' N (by omega) (h2 b' hg) (by omega)
  | inr r => rfl
theorem Zbu {B : Nat → Option (Lv Nat ξ ρ)} {N : Nat} (l : List α) (p : α → Bool) (f : Nat → ρ) (e : ξ)
  (hs : ∀ i x, l[i]? = some x → B i = some (if p x = true then .rt (f i) else .nx (i + 1))) (he : B l.length = some (.ex e)) (hN : l.length < N) :
  Zab B N 0 = some (match l.findIdx? p with | some i => .inr (f i) | none => .inl e) := by
 suffices H : ∀ k i N, i + k = l.length → k < N → Zab B N i = some (match (l.drop i).findIdx? p with | some j => .inr (f (i + j)) | none => .inl e) by
  have := H l.length 0 N (by omega) hN
  simpa using this
 intro k
 induction k with
 | zero =>
  intro i N hi hN
  obtain ⟨N, rfl⟩ : ∃ m, N = m + 1 := ⟨N - 1, by omega⟩
  have : i = l.length := by omega
  subst this
  rw [Zab, he, List.drop_length]
  rfl
 | succ k ih =>
  intro i N hi hN
  obtain ⟨N, rfl⟩ : ∃ m, N = m + 1 := ⟨N - 1, by omega⟩
  have hlt : i < l.length := by omega
  rw [Zab, hs i l[i] (List.getElem?_eq_getElem hlt), List.drop_eq_getElem_cons hlt, List.findIdx?_cons]
  cases hp : p l[i] with
  | true => simp
  | false =>
   simp only [Bool.false_eq_true, if_false]
   rw [ih (i + 1) N (by omega) (by omega)]
   cases (List.drop (i + 1) l).findIdx? p with
   | none => rfl
   | some j => simp [Nat.add_assoc, Nat.add_comm 1 j]
theorem ZjQ {g : β → α → β ⊕ ρ} (h : β → α → β) (hg : ∀ b x, g b x = .inl (h b x)) : ∀ (l : List α) (b : β), ZeE g b l = .inl (l.foldl h b)
 | [], b => rfl
 | x :: l, b => by rw [ZeE, hg]; exact ZjQ h hg l _
theorem Zh8 (f : α → γ) : ∀ (l : List α) (b : List γ), l.foldl (fun b x => b ++ [f x]) b = b ++ l.map f
 | [], b => by simp
 | x :: l, b => by rw [List.foldl_cons, Zh8 f l]; simp
theorem ZcO {B : List γ × Nat → Option (Lv (List γ × Nat) (List γ) ρ)} {N : Nat} (l : List α) (f : α → γ) (b0 : List γ)
  (hs : ∀ i b x, l[i]? = some x → b.length = b0.length + i → B (b, i) = some (.nx (b ++ [f x], i + 1))) (he : ∀ b, B (b, l.length) = some (.ex b)) (hN : l.length < N) :
  Zab B N (b0, 0) = some (.inl (b0 ++ l.map f)) := by
 have := ZkO (B := B) (N := N) l (fun i b => (b, i)) (fun i b => b.length = b0.length + i) (fun b x => (.inl (b ++ [f x]) : List γ ⊕ ρ)) id (fun i b x hx hb => ⟨hs i b x hx hb, fun b' e => by cases e; rw [List.length_append, hb]; rfl⟩) (fun b _ => he b) b0 rfl hN
 rw [this, ZjQ (fun b x => b ++ [f x]) (fun _ _ => rfl), Zh8]
 rfl
def Zaw (R : List α → α → Option ρ) : List α → List α → Option ρ
 | _, [] => none
 | p, x :: l => match R p x with
  | some r => some r
  | none => Zaw R (p ++ [x]) l
theorem ZaO {B : σ → Option (Lv σ ξ ρ)} {N : Nat} (l : List α) (S : List α → β) (R : List α → α → Option ρ) (mk : Nat → β → σ) (e : β → ξ)
  (hs : ∀ i x, l[i]? = some x → B (mk i (S (l.take i))) = some (match R (l.take i) x with | some r => .rt r | none => .nx (mk (i + 1) (S (l.take i ++ [x])))))
  (he : B (mk l.length (S l)) = some (.ex (e (S l)))) (hN : l.length < N) : Zab B N (mk 0 (S [])) = some ((Zaw R [] l).elim (.inl (e (S l))) .inr) := by
 suffices H : ∀ k i N, i + k = l.length → k < N → Zab B N (mk i (S (l.take i))) = some ((Zaw R (l.take i) (l.drop i)).elim (.inl (e (S l))) .inr) by
  have := H l.length 0 N (by omega) hN
  simpa using this
 intro k
 induction k with
 | zero =>
  intro i N hi hN
  obtain ⟨N, rfl⟩ : ∃ m, N = m + 1 := ⟨N - 1, by omega⟩
  have : i = l.length := by omega
  subst this
  rw [Zab, List.take_length, he, List.drop_length]
  rfl
 | succ k ih =>
  intro i N hi hN
  obtain ⟨N, rfl⟩ : ∃ m, N = m + 1 := ⟨N - 1, by omega⟩
  have hlt : i < l.length := by omega
  rw [Zab, hs i l[i] (List.getElem?_eq_getElem hlt), List.drop_eq_getElem_cons hlt, Zaw]
  cases R (l.take i) l[i] with
  | some r => rfl
  | none =>
   have := ih (i + 1) N (by omega) (by omega)
   rw [List.take_succ_eq_append_getElem hlt] at this
   exact this
theorem Zht {R : List α → α → Option ρ} (h : ∀ p x, R p x = none) : ∀ (l p : List α), Zaw R p l = none
 | [], p => rfl
 | x :: l, p => by rw [Zaw, h]; exact Zht h l _
theorem Zbb {B : σ → Option (Lv σ ξ ρ)} {N : Nat} (l : List α) (S : List α → β) (mk : Nat → β → σ) (e : β → ξ)
  (hs : ∀ i x, l[i]? = some x → B (mk i (S (l.take i))) = some (.nx (mk (i + 1) (S (l.take i ++ [x])))))
  (he : B (mk l.length (S l)) = some (.ex (e (S l)))) (hN : l.length < N) : Zab B N (mk 0 (S [])) = some (.inl (e (S l))) := by
 rw [ZaO l S (fun _ _ => none) mk e hs he hN, Zht fun _ _ => rfl]
 rfl
theorem Zev {B : σ → Option (Lv σ ξ ρ)} (I : Nat → σ → Prop) (Q : ξ ⊕ ρ → Prop)
  (h : ∀ k v, I k v → ∃ o, B v = some o ∧ match o with | .nx v' => ∃ k', k' < k ∧ I k' v' | .ex b => Q (.inl b) | .rt y => Q (.inr y)) :
  ∀ N k v, k < N → I k v → ∃ o, Zab B N v = some o ∧ Q o
 | 0, k, v, hk, _ => absurd hk (Nat.not_lt_zero _)
 | N + 1, k, v, hk, hI => by
  obtain ⟨o, h1, h2⟩ := h k v hI
  rw [Zab, h1]
  cases o with
  | nx v' => obtain ⟨k', h3, h4⟩ := h2; exact Zev I Q h N k' v' (by omega) h4
  | ex b => exact ⟨_, rfl, h2⟩
  | rt y => exact ⟨_, rfl, h2⟩
theorem Zaf {n : Nat} (h : n < 4611686018427387904) : n < big := h
end
end Go.Eng
namespace Go.Proofs.Ythagpbkmakocjaa
set_option linter.all false
open Go Go.Eng
def ixP {α : Type} (l : List α) (p : α → Bool) : Int := match l.findIdx? p with
 | some i => (i : Int)
 | none => -1
theorem Zig {α : Type} {l : List α} {p : α → Bool} : decide (0 ≤ ixP l p) = l.any p := by
 unfold ixP
 rw [← List.findIdx?_isSome]
 cases l.findIdx? p <;> simp
theorem ZPy (l : List Int) (x : Int) (h : l.length < 4611686018427387904) : ZeP l x = some (ixP l (fun y => decide (x = y))) := by
 unfold ZeP
 simp only [ZtQ, Zq4, ZrG, vz, lr, lc, lf]
 rw [Zbu l (fun y => decide (x = y)) (fun i => (i : Int)) () (hN := Zaf h) (he := by simp [Zmp, Znh, br]) (hs := by
  intro i y hy
  obtain ⟨h1, rfl⟩ := List.getElem?_eq_some_iff.1 hy
  have h2 : i + 1 < 9223372036854775808 := by omega
  simp [Zmp, Znh, br, h1, h2]
  split <;> rfl)]
 unfold ixP
 cases l.findIdx? _ <;> rfl
theorem ZJ4 (l : List Int) (x : Int) (h : l.length < 4611686018427387904) : ZcZ l x = some (ixP l (fun y => decide (x = y))) := by
 unfold ZcZ
 simp only [ZiY, ZiI, ZiO, vz, lr, lf]
 rw [Zbu l (fun y => decide (x = y)) (fun i => (i : Int)) () (hN := Zaf h) (he := by simp [Zgg, Zgd, br]) (hs := by
  intro i y hy
  obtain ⟨h1, rfl⟩ := List.getElem?_eq_some_iff.1 hy
  have h2 : i + 1 < 9223372036854775808 := by omega
  simp [Zgg, Zgd, br, h1, h2]
  split <;> rfl)]
 unfold ixP
 cases l.findIdx? _ <;> rfl
theorem m91 (l : List ByteArray) (x : ByteArray) (h : l.length < 4611686018427387904) : Zdq l x = some (ixP l (fun y => decide (x = y))) := by
 unfold Zdq
 simp only [ZGr, ZFu, ZEX, vz, lr, lc, lf]
 rw [Zbu l (fun y => decide (x = y)) (fun i => (i : Int)) () (hN := Zaf h) (he := by simp [ZvR, Zy5, br]) (hs := by
  intro i y hy
  obtain ⟨h1, rfl⟩ := List.getElem?_eq_some_iff.1 hy
  have h2 : i + 1 < 9223372036854775808 := by omega
  simp [ZvR, Zy5, br, h1, h2]
  split <;> rfl)]
 unfold ixP
 cases l.findIdx? _ <;> rfl
theorem m66 (l : List Fil) (x : ByteArray) (h : l.length < 4611686018427387904) : Zca l x = some (ixP l (fun y => decide (y.name = x))) := by
 unfold Zca
 simp only [ZA5, ZAz, ZEt, lr, lc, lf]
 rw [Zbu l (fun y => decide (y.name = x)) (fun i => (i : Int)) () (hN := Zaf h) (he := by simp [Zxz, Zx5, vz]) (hs := by
  intro i y hy
  obtain ⟨h1, rfl⟩ := List.getElem?_eq_some_iff.1 hy
  have h2 : i + 1 < 9223372036854775808 := by omega
  simp [Zxz, Zx5, vz, h1, h2]
  split <;> rfl)]
 unfold ixP
 cases l.findIdx? _ <;> rfl
theorem ZLE (l : List ByteArray) (x : ByteArray) (h : l.length < 4611686018427387904) : Zbn l x = some (l.any fun y => decide (y = x)) := by
 unfold Zbn
 simp only [Zlk, ZlK, Zls, vz, lr, lf]
 rw [Zbu l (fun y => decide (y = x)) (fun _ => true) () (hN := Zaf h) (he := by simp [ZiV, Zi6, vz]) (hs := by
  intro i y hy
  obtain ⟨h1, rfl⟩ := List.getElem?_eq_some_iff.1 hy
  have h2 : i + 1 < 9223372036854775808 := by omega
  simp [ZiV, Zi6, vz, h1, h2]
  split <;> rfl)]
 rw [← List.findIdx?_isSome]
 cases l.findIdx? _ <;> rfl
theorem ZPu (l : List ByteArray) (x : ByteArray) (h : l.length < 4611686018427387904) : ZbG l x = some (l.any fun y => decide (y = x)) := by
 unfold ZbG
 simp only [Ztp, ZtE, Ztd, lr, lc, lf]
 rw [Zbu l (fun y => decide (y = x)) (fun _ => true) () (hN := Zaf h) (he := by simp [ZmR, ZmG, vz]) (hs := by
  intro i y hy
  obtain ⟨h1, rfl⟩ := List.getElem?_eq_some_iff.1 hy
  have h2 : i + 1 < 9223372036854775808 := by omega
  simp [ZmR, ZmG, vz, h1, h2]
  split <;> rfl)]
 rw [← List.findIdx?_isSome]
 cases l.findIdx? _ <;> rfl
theorem m85 (l : List Fil) (f : Fil → Option Bool) (p : Fil → Bool) (hf : ∀ x ∈ l, f x = some (p x)) (h : l.length < 4611686018427387904) : Zb4 l f = some (ixP l (p)) := by
 unfold Zb4
 simp only [ZA9, ZFO, ZDP, vz, lr, lc, lf]
 rw [Zbu l (p) (fun i => (i : Int)) () (hN := Zaf h) (he := by simp [ZuH, ZyX, br]) (hs := by
  intro i y hy
  obtain ⟨h1, rfl⟩ := List.getElem?_eq_some_iff.1 hy
  have h2 : i + 1 < 9223372036854775808 := by omega
  have h3 := hf l[i] (List.mem_of_getElem? hy)
  simp [ZuH, ZyX, br, h1, h2, h3]
  cases p l[i] <;> rfl)]
 unfold ixP
 cases l.findIdx? _ <;> rfl
theorem ZOp (l : List ByteArray) (f : ByteArray → Option Bool) (p : ByteArray → Bool) (hf : ∀ x ∈ l, f x = some (p x)) (h : l.length < 4611686018427387904) : Zcd l f = some (ixP l (p)) := by
 unfold Zcd
 simp only [Zqs, Zqf, Zq8, vz, lr, lc, lf]
 rw [Zbu l (p) (fun i => (i : Int)) () (hN := Zaf h) (he := by simp [Zl9, Znt, br]) (hs := by
  intro i y hy
  obtain ⟨h1, rfl⟩ := List.getElem?_eq_some_iff.1 hy
  have h2 : i + 1 < 9223372036854775808 := by omega
  have h3 := hf l[i] (List.mem_of_getElem? hy)
  simp [Zl9, Znt, br, h1, h2, h3]
  cases p l[i] <;> rfl)]
 unfold ixP
 cases l.findIdx? _ <;> rfl
theorem ZPe (l : List Enm) (f : Enm → Option Bool) (p : Enm → Bool) (hf : ∀ x ∈ l, f x = some (p x)) (h : l.length < 4611686018427387904) : Zcm l f = some (ixP l (p)) := by
 unfold Zcm
 simp only [Zrl, Zsd, Zqd, vz, lr, lc, lf]
 rw [Zbu l (p) (fun i => (i : Int)) () (hN := Zaf h) (he := by simp [Znv, ZnE, br]) (hs := by
  intro i y hy
  obtain ⟨h1, rfl⟩ := List.getElem?_eq_some_iff.1 hy
  have h2 : i + 1 < 9223372036854775808 := by omega
  have h3 := hf l[i] (List.mem_of_getElem? hy)
  simp [Znv, ZnE, br, h1, h2, h3]
  cases p l[i] <;> rfl)]
 unfold ixP
 cases l.findIdx? _ <;> rfl
theorem m88 (l : List Int) (x : Int) (h : l.length < 4611686018427387904) : ZcQ l x = some (l.any fun y => decide (x = y)) := by
 unfold ZcQ
 simp only [ZAF, cl, ZPy l x h, Option.bind_some, Zig]
theorem ZMO (l : List Int) (x : Int) (h : l.length < 4611686018427387904) : Zbk l x = some (l.any fun y => decide (x = y)) := by
 unfold Zbk
 simp only [ZlE, cs, ZJ4 l x h, Option.bind_some, Zig]
theorem m54 (l : List ByteArray) (x : ByteArray) (h : l.length < 4611686018427387904) : Za4 l x = some (l.any fun y => decide (x = y)) := by
 unfold Za4
 simp only [ZCV, cl, m91 l x h, Option.bind_some, Zig]
theorem m89 (l : List ByteArray) (f : ByteArray → Option Bool) (p : ByteArray → Bool) (hf : ∀ x ∈ l, f x = some (p x)) (h : l.length < 4611686018427387904) : ZbE l f = some (l.any p) := by
 unfold ZbE
 simp only [ZGu, cs, ZOp l f p hf h, Option.bind_some, Zig]
theorem ZNX (l : List Enm) (f : Enm → Option Bool) (p : Enm → Bool) (hf : ∀ x ∈ l, f x = some (p x)) (h : l.length < 4611686018427387904) : ZbS l f = some (l.any p) := by
 unfold ZbS
 simp only [ZsK, cs, ZPe l f p hf h, Option.bind_some, Zig]
theorem m51 (l : List Fil) (x : ByteArray) (h : l.length < 4611686018427387904) : ZdL l x = some (ixP l fun y => decide (y.name = x)) := by
 unfold ZdL
 simp only [ZFD, cs]
 rw [m85 l _ (fun y => decide (y.name = x)) (fun y _ => (by simp only [Zcf, ZEE, vw] : Zcf y x = _)) h]
 rfl
def Zaq (a b : ByteArray) : ByteArray := if a = ⟨#[]⟩ then b else a ++ ⟨#[46]⟩ ++ b
theorem Zfy (a b : ByteArray) : (Zaq a b).size ≤ a.size + 1 + b.size := by
 unfold Zaq
 split
 ·omega
 ·rw [ByteArray.size_append, ByteArray.size_append]; exact Nat.le_refl _
theorem m25 (a b : ByteArray) (ha : a.size < 4611686018427387904) (hb : b.size < 4611686018427387903) : Zei a b = some (Zaq a b) := by
 unfold Zei Zaq
 simp only [ZD9, br]
 by_cases e : a = ⟨#[]⟩
 ·simp [e]
 ·have hd : (⟨#[46]⟩ : ByteArray).size = 1 := rfl
  have h1 : a.size + 1 ≤ 9223372036854775807 := by omega
  have h2 : a.size + 1 + b.size ≤ 9223372036854775807 := by omega
  simp [e, hd, h1, h2]
theorem m35 (a b : ByteArray) (ha : a.size < 4611686018427387904) (hb : b.size < 4611686018427387903) : Zb9 a b = some (Zaq a b) := by
 unfold Zb9 Zaq
 simp only [ZGk, br]
 by_cases e : a = ⟨#[]⟩
 ·simp [e]
 ·have hd : (⟨#[46]⟩ : ByteArray).size = 1 := rfl
  have h1 : a.size + 1 ≤ 9223372036854775807 := by omega
  have h2 : a.size + 1 + b.size ≤ 9223372036854775807 := by omega
  simp [e, hd, h1, h2]
structure SzF (f : Fil) : Prop where
 sp : f.space.size < 2147483648
 nm : f.name.size < 2147483648
 ms : f.messages.length < 2147483648
 es : f.enums.length < 2147483648
 vs : f.services.length < 2147483648
 is : f.imports.length < 2147483648
 nm1 : ∀ x ∈ f.messages, x.name.size < 2147483648
 nm2 : ∀ x ∈ f.enums, x.name.size < 2147483648
 nm3 : ∀ x ∈ f.services, x.name.size < 2147483648
def ZdJ (f : Fil) : List ByteArray := f.messages.map fun x => Zaq f.space x.name
def Zfj (f : Fil) : List ByteArray := f.enums.map fun x => Zaq f.space x.name
def Znr (f : Fil) : List ByteArray := f.services.map fun x => Zaq f.space x.name
theorem m24 (f : Fil) (hf : SzF f) : ZfD f = some (ZdJ f, Zfj f, Znr f) := by
 have g1 := hf.sp
 have g2 := hf.ms
 have g3 := hf.es
 have g4 := hf.vs
 have q1 : Zab (ZsZ f) big ([], 0) = some (.inl ([] ++ f.messages.map fun x => Zaq f.space x.name)) := ZcO f.messages (fun x => Zaq f.space x.name) [] (hN := Zaf (by omega)) (he := by intro b; simp [ZsZ, Zyf, br]) (hs := by
  intro i b x hx hb
  obtain ⟨h1, rfl⟩ := List.getElem?_eq_some_iff.1 hx
  have h2 : i + 1 < 9223372036854775808 := by omega
  have h3 := m25 f.space (f.messages[i]).name (by omega) (by have := hf.nm1 _ (List.mem_of_getElem? hx); omega)
  have h4 : b.length < 549755813887 := by simp only [List.length_nil] at hb; omega
  simp [ZsZ, Zyf, br, h1, h2, h3, h4])
 have q2 : ∀ r5 : List ByteArray, Zab (ZqR f r5) big ([], 0) = some (.inl ([] ++ f.enums.map fun x => Zaq f.space x.name)) := fun r5 => ZcO f.enums (fun x => Zaq f.space x.name) [] (hN := Zaf (by omega)) (he := by intro b; simp [ZqR, Zx4, br]) (hs := by
  intro i b x hx hb
  obtain ⟨h1, rfl⟩ := List.getElem?_eq_some_iff.1 hx
  have h2 : i + 1 < 9223372036854775808 := by omega
  have h3 := m25 f.space (f.enums[i]).name (by omega) (by have := hf.nm2 _ (List.mem_of_getElem? hx); omega)
  have h4 : b.length < 549755813887 := by simp only [List.length_nil] at hb; omega
  simp [ZqR, Zx4, br, h1, h2, h3, h4])
 have q3 : ∀ r5 r10 : List ByteArray, Zab (Zth f r5 r10) big ([], 0) = some (.inl ([] ++ f.services.map fun x => Zaq f.space x.name)) := fun r5 r10 => ZcO f.services (fun x => Zaq f.space x.name) [] (hN := Zaf (by omega)) (he := by intro b; simp [Zth, ZuP, br]) (hs := by
  intro i b x hx hb
  obtain ⟨h1, rfl⟩ := List.getElem?_eq_some_iff.1 hx
  have h2 : i + 1 < 9223372036854775808 := by omega
  have h3 := m25 f.space (f.services[i]).name (by omega) (by have := hf.nm3 _ (List.mem_of_getElem? hx); omega)
  have h4 : b.length < 549755813887 := by simp only [List.length_nil] at hb; omega
  simp [Zth, ZuP, br, h1, h2, h3, h4])
 unfold ZfD ZdJ Zfj Znr
 simp only [ZEu, ZE0, ZGg, ZBn, ZF4, ZE1, ZtS, Zr5, vz, vw, lc, q1, q2, q3, Option.bind_some, Sum.elim_inl, List.nil_append]
theorem ZPx (f : Fil) (hf : SzF f) : Za2 f = some (ZdJ f ++ Zfj f ++ Znr f) := by
 have g1 := hf.sp
 have g2 := hf.ms
 have g3 := hf.es
 have g4 := hf.vs
 have q1 : Zab (ZjF f) big ([], 0) = some (.inl ([] ++ f.messages.map fun x => Zaq f.space x.name)) := ZcO f.messages (fun x => Zaq f.space x.name) [] (hN := Zaf (by omega)) (he := by intro b; simp [ZjF, ZnB, br]) (hs := by
  intro i b x hx hb
  obtain ⟨h1, rfl⟩ := List.getElem?_eq_some_iff.1 hx
  have h2 : i + 1 < 9223372036854775808 := by omega
  have h3 := m35 f.space (f.messages[i]).name (by omega) (by have := hf.nm1 _ (List.mem_of_getElem? hx); omega)
  have h4 : b.length < 549755813887 := by simp only [List.length_nil] at hb; omega
  simp [ZjF, ZnB, br, h1, h2, h3, h4])
 have q2 : Zab (Zkj f) big ((ZdJ f), 0) = some (.inl ((ZdJ f) ++ f.enums.map fun x => Zaq f.space x.name)) := ZcO f.enums (fun x => Zaq f.space x.name) (ZdJ f) (hN := Zaf (by omega)) (he := by intro b; simp [Zkj, ZnR, br]) (hs := by
  intro i b x hx hb
  obtain ⟨h1, rfl⟩ := List.getElem?_eq_some_iff.1 hx
  have h2 : i + 1 < 9223372036854775808 := by omega
  have h3 := m35 f.space (f.enums[i]).name (by omega) (by have := hf.nm2 _ (List.mem_of_getElem? hx); omega)
  have h4 : b.length < 549755813887 := by simp only [List.length_map, ZdJ] at hb; omega
  simp [Zkj, ZnR, br, h1, h2, h3, h4])
 have q3 : Zab (Zjx f) big ((ZdJ f ++ Zfj f), 0) = some (.inl ((ZdJ f ++ Zfj f) ++ f.services.map fun x => Zaq f.space x.name)) := ZcO f.services (fun x => Zaq f.space x.name) (ZdJ f ++ Zfj f) (hN := Zaf (by omega)) (he := by intro b; simp [Zjx, ZnF, br]) (hs := by
  intro i b x hx hb
  obtain ⟨h1, rfl⟩ := List.getElem?_eq_some_iff.1 hx
  have h2 : i + 1 < 9223372036854775808 := by omega
  have h3 := m35 f.space (f.services[i]).name (by omega) (by have := hf.nm3 _ (List.mem_of_getElem? hx); omega)
  have h4 : b.length < 549755813887 := by simp only [List.length_append, List.length_map, ZdJ, Zfj] at hb; omega
  simp [Zjx, ZnF, br, h1, h2, h3, h4])
 unfold Za2
 have e1 : ZdJ f = f.messages.map fun x => Zaq f.space x.name := rfl
 have e2 : Zfj f = f.enums.map fun x => Zaq f.space x.name := rfl
 have e3 : Znr f = f.services.map fun x => Zaq f.space x.name := rfl
 rw [← e1] at q1
 rw [← e2] at q2
 rw [← e3] at q3
 simp only [Zr4, ZqZ, ZtA, Zuj, Ztc, ZrN, vw, lc, q1, q2, q3, Option.bind_some, Sum.elim_inl, List.nil_append]
theorem m50 (f : Fil) (hf : SzF f) : Zbe f = some (ZdJ f ++ Zfj f ++ Znr f) := by
 have g1 := hf.sp
 have g2 := hf.ms
 have g3 := hf.es
 have g4 := hf.vs
 have q1 : Zab (ZrS f) big ([], 0) = some (.inl ([] ++ f.messages.map fun x => Zaq f.space x.name)) := ZcO f.messages (fun x => Zaq f.space x.name) [] (hN := Zaf (by omega)) (he := by intro b; simp [ZrS, ZvP, br]) (hs := by
  intro i b x hx hb
  obtain ⟨h1, rfl⟩ := List.getElem?_eq_some_iff.1 hx
  have h2 : i + 1 < 9223372036854775808 := by omega
  have h3 := m35 f.space (f.messages[i]).name (by omega) (by have := hf.nm1 _ (List.mem_of_getElem? hx); omega)
  have h4 : b.length < 549755813887 := by simp only [List.length_nil] at hb; omega
  simp [ZrS, ZvP, br, h1, h2, h3, h4])
 have q2 : Zab (ZrX f) big ((ZdJ f), 0) = some (.inl ((ZdJ f) ++ f.enums.map fun x => Zaq f.space x.name)) := ZcO f.enums (fun x => Zaq f.space x.name) (ZdJ f) (hN := Zaf (by omega)) (he := by intro b; simp [ZrX, ZxJ, br]) (hs := by
  intro i b x hx hb
  obtain ⟨h1, rfl⟩ := List.getElem?_eq_some_iff.1 hx
  have h2 : i + 1 < 9223372036854775808 := by omega
  have h3 := m35 f.space (f.enums[i]).name (by omega) (by have := hf.nm2 _ (List.mem_of_getElem? hx); omega)
  have h4 : b.length < 549755813887 := by simp only [List.length_map, ZdJ] at hb; omega
  simp [ZrX, ZxJ, br, h1, h2, h3, h4])
 have q3 : Zab (Zqj f) big ((ZdJ f ++ Zfj f), 0) = some (.inl ((ZdJ f ++ Zfj f) ++ f.services.map fun x => Zaq f.space x.name)) := ZcO f.services (fun x => Zaq f.space x.name) (ZdJ f ++ Zfj f) (hN := Zaf (by omega)) (he := by intro b; simp [Zqj, Zxu, br]) (hs := by
  intro i b x hx hb
  obtain ⟨h1, rfl⟩ := List.getElem?_eq_some_iff.1 hx
  have h2 : i + 1 < 9223372036854775808 := by omega
  have h3 := m35 f.space (f.services[i]).name (by omega) (by have := hf.nm3 _ (List.mem_of_getElem? hx); omega)
  have h4 : b.length < 549755813887 := by simp only [List.length_append, List.length_map, ZdJ, Zfj] at hb; omega
  simp [Zqj, Zxu, br, h1, h2, h3, h4])
 unfold Zbe
 have e1 : ZdJ f = f.messages.map fun x => Zaq f.space x.name := rfl
 have e2 : Zfj f = f.enums.map fun x => Zaq f.space x.name := rfl
 have e3 : Znr f = f.services.map fun x => Zaq f.space x.name := rfl
 rw [← e1] at q1
 rw [← e2] at q2
 rw [← e3] at q3
 simp only [ZDF, ZFY, ZCF, ZDc, ZAU, ZGy, vz, vw, lc, q1, q2, q3, Option.bind_some, Sum.elim_inl, List.nil_append]
end Go.Proofs.Ythagpbkmakocjaa
namespace Go.Proofs.Ythagpbkmakocjaa
set_option linter.all false
open Go Go.Eng
theorem ZiE {α : Type} (f : α → Nat) : ∀ (l : List α) (i : Nat), ((l.take i).map f).sum ≤ (l.map f).sum
 | [], i => by simp
 | x :: l, 0 => by simp
 | x :: l, i + 1 => by simp only [List.take_succ_cons, List.map_cons, List.sum_cons]; have := ZiE f l i; omega
theorem ZcG {α : Type} (f : α → Nat) {l : List α} {i : Nat} {x : α} (h : l[i]? = some x) : ((l.take i).map f).sum + f x ≤ (l.map f).sum := by
 obtain ⟨h1, rfl⟩ := List.getElem?_eq_some_iff.1 h
 have := ZiE f l (i + 1)
 rw [List.take_succ_eq_append_getElem h1, List.map_append, List.sum_append] at this
 simpa using this
theorem m47 (ls : List (List ByteArray)) (h : (ls.map List.length).sum < 549755813888) (hl : ls.length < 4611686018427387904) : ZaV ls = some ls.flatten := by
 have q1 : Zab (Zrq ls) big (0, 0) = some (.inl (ls.map List.length).sum) := Zbb ls (fun p => (p.map List.length).sum) (fun i b => (b, i)) id (hN := Zaf hl) (he := by simp [Zrq, ZwC, br]) (hs := by
  intro i x hx
  have h3 := ZcG List.length hx
  obtain ⟨h1, rfl⟩ := List.getElem?_eq_some_iff.1 hx
  have h2 : i + 1 < 9223372036854775808 := by omega
  have h4 : ((ls.take i).map List.length).sum + (ls[i]).length < 9223372036854775808 := by omega
  have h5 : ¬ (((ls.take i).map List.length).sum : Int) + ((ls[i]).length : Int) < 0 := by omega
  simp only [List.map_append, List.sum_append, List.map_cons, List.map_nil, List.sum_cons, List.sum_nil, Nat.add_zero]
  simp [Zrq, ZwC, br, h1, h2, h4, h5, -List.map_take])
 have q2 : Zab (ZrR ls) big ([], 0) = some (.inl ls.flatten) := Zbb ls (fun p => p.flatten) (fun i b => (b, i)) id (hN := Zaf hl) (he := by simp [ZrR, ZwO, br]) (hs := by
  intro i x hx
  have h3 := ZcG List.length hx
  obtain ⟨h1, rfl⟩ := List.getElem?_eq_some_iff.1 hx
  have h2 : i + 1 < 9223372036854775808 := by omega
  have h4 : (ls.take i).flatten.length + (ls[i]).length < 549755813888 := by rw [List.length_flatten]; omega
  simp only [List.flatten_append, List.flatten_cons, List.flatten_nil, List.append_nil]
  simp only [ZrR, ZwO, br]
  simp [h1, h2, h4, -List.length_flatten, -List.length_append])
 unfold ZaV
 simp only [ZAM, ZE7, ZGn, ZGh, ZCW, ZCU, vz, vw, lc, q1, q2, Zfw, h, if_true, Option.bind_some, Sum.elim_inl]
def tot (f : Fil) : Nat := f.messages.length + f.enums.length + f.services.length
def ZaC (f : Fil) : List ByteArray := ZdJ f ++ Zfj f ++ Znr f
theorem Zc0 (f : Fil) : (ZdJ f).length = f.messages.length := by unfold ZdJ; rw [List.length_map]
theorem ZeC (f : Fil) : (Zfj f).length = f.enums.length := by unfold Zfj; rw [List.length_map]
theorem Zer (f : Fil) : (Znr f).length = f.services.length := by unfold Znr; rw [List.length_map]
theorem Zdc (f : Fil) : (ZaC f).length = tot f := by unfold ZaC tot; rw [List.length_append, List.length_append, Zc0, ZeC, Zer]
structure SzA (fs : List Fil) : Prop where
 f : ∀ f ∈ fs, SzF f
 n : fs.length ≤ 1048576
 t : (fs.map tot).sum ≤ 1048576
 i : ∀ f ∈ fs, ∀ g ∈ fs, g.imports.length + tot f ≤ 1048576
def Zi2 (l : List Fil) : Nat := (l.map fun f => f.messages.length).sum
def Zjk (l : List Fil) : Nat := (l.map fun f => f.enums.length).sum
def Zjl (l : List Fil) : Nat := (l.map fun f => f.services.length).sum
theorem ZKO : ∀ l : List Fil, Zi2 l + Zjk l + Zjl l = (l.map tot).sum
 | [] => rfl
 | f :: l => by
  have := ZKO l
  simp only [Zi2, Zjk, Zjl, tot, List.map_cons, List.sum_cons] at *
  omega
theorem Zj9 (l : List Fil) (x : Fil) : Zi2 (l ++ [x]) = Zi2 l + x.messages.length := by simp [Zi2]
theorem Zjq (l : List Fil) (x : Fil) : Zjk (l ++ [x]) = Zjk l + x.enums.length := by simp [Zjk]
theorem Zjw (l : List Fil) (x : Fil) : Zjl (l ++ [x]) = Zjl l + x.services.length := by simp [Zjl]
theorem ZkZ {l : List Fil} {i : Nat} {x : Fil} (h : l[i]? = some x) : Zi2 (l.take i) + Zjk (l.take i) + Zjl (l.take i) + tot x ≤ (l.map tot).sum := by
 rw [ZKO]; exact ZcG tot h
theorem m32 (fs : List Fil) (h : SzA fs) : ZbA fs = some (decide (64 < Zi2 fs ∨ 64 < Zjk fs ∨ 64 < Zjl fs)) := by
 have hn := h.n
 have q1 : Zab (ZqC fs) big (0, 0, 0, 0) = some (.inl (Zi2 fs, Zjk fs, Zjl fs)) := Zbb fs (fun p => (Zi2 p, Zjk p, Zjl p)) (fun i b => (b.1, b.2.1, b.2.2, i)) id (hN := Zaf (by omega)) (he := by simp [ZqC, Zu1, br]) (hs := by
  intro i x hx
  have h3 := ZkZ hx
  have h4 := h.t
  obtain ⟨h1, rfl⟩ := List.getElem?_eq_some_iff.1 hx
  have h6 : tot (fs[i]) = (fs[i]).messages.length + (fs[i]).enums.length + (fs[i]).services.length := rfl
  have h2 : i + 1 < 9223372036854775808 := by omega
  have g1 : Zi2 (fs.take i) + (fs[i]).messages.length < 9223372036854775808 := by omega
  have g2 : Zjk (fs.take i) + (fs[i]).enums.length < 9223372036854775808 := by omega
  have g3 : Zjl (fs.take i) + (fs[i]).services.length < 9223372036854775808 := by omega
  simp only [Zj9, Zjq, Zjw, ZqC, Zu1, br]
  simp [h1, h2, g1, g2, g3])
 unfold ZbA
 simp only [ZFK, ZAE, ZBZ, vz, lr, lc, lf, q1, Option.bind_some, Sum.elim_inl]
 congr 1
 rw [Bool.eq_iff_iff]
 simp only [Bool.or_eq_true, decide_eq_true_eq]
 omega
theorem Zm4 {α : Type} {l : List α} {p : α → Bool} (h : 0 ≤ ixP l p) : ∃ (i : Nat) (x : α), ixP l p = (i : Int) ∧ l[i]? = some x ∧ p x = true ∧ ∀ j : Nat, j < i → ∀ y, l[j]? = some y → p y = false := by
 unfold ixP at h ⊢
 cases hf : l.findIdx? p with
 | none => rw [hf] at h; exact absurd h (by decide)
 | some i =>
  rw [List.findIdx?_eq_some_iff_getElem] at hf
  obtain ⟨h1, h2, h3⟩ := hf
  exact ⟨i, l[i], rfl, List.getElem?_eq_getElem h1, h2, fun j hj y hy => by
   obtain ⟨h4, rfl⟩ := List.getElem?_eq_some_iff.1 hy
   exact Bool.eq_false_iff.2 (h3 j hj)⟩
def ZhF {ρ : Type} (n : ByteArray → ρ) (p : List ByteArray) (x : ByteArray) : Option ρ := if (p.any fun y => decide (x = y)) = true then some (n x) else none
theorem ZM4 (l : List ByteArray) (x : ByteArray) : (l.any fun y => decide (y = x)) = l.any fun y => decide (x = y) := by
 congr 1; funext y; rw [Bool.eq_iff_iff]; simp only [decide_eq_true_eq]; exact eq_comm
def Zas (fs : List Fil) : List ByteArray := fs.flatMap ZaC
theorem Ze0 (l : List Fil) (x : Fil) : Zas (l ++ [x]) = Zas l ++ ZaC x := by simp [Zas]
theorem Zdk : ∀ l : List Fil, (Zas l).length = (l.map tot).sum
 | [] => rfl
 | f :: l => by
  have := Zdk l
  simp only [Zas, List.flatMap_cons, List.length_append, Zdc, List.map_cons, List.sum_cons] at *
  omega
def Zxe (fs : List Fil) : ByteArray × Int := if 64 < Zi2 fs ∨ 64 < Zjk fs ∨ 64 < Zjl fs then (⟨#[]⟩, 3) else match Zaw (ZhF fun x => (x, (9 : Int))) [] (Zas fs) with
 | some r => r
 | none => (⟨#[]⟩, 0)
theorem m23 (fs : List Fil) (h : SzA fs) : ZdM fs = some (Zxe fs) := by
 have hn := h.n
 have ht := h.t
 have q1 : Zab (ZsU fs) big ([], 0, 0, 0, 0) = some (.inl (Zi2 fs, Zjk fs, Zjl fs, Zas fs)) := Zbb fs (fun p => (Zas p, Zi2 p, Zjk p, Zjl p)) (fun i b => (b.1, b.2.1, b.2.2.1, b.2.2.2, i)) (fun b => (b.2.1, b.2.2.1, b.2.2.2, b.1)) (hN := Zaf (by omega)) (he := by simp [ZsU, Zyv, ZuL, Zy6, Zwf, ZuY, br, ix, vz, vw, vs]) (hs := by
  intro i x hx
  have h3 := ZkZ hx
  have hz := h.f x (List.mem_of_getElem? hx)
  have h7 := ZcG tot hx
  rw [← Zdk] at h7
  obtain ⟨h1, rfl⟩ := List.getElem?_eq_some_iff.1 hx
  have h6 : tot (fs[i]) = (fs[i]).messages.length + (fs[i]).enums.length + (fs[i]).services.length := rfl
  have h2 : i + 1 < 9223372036854775808 := by omega
  have g1 : Zi2 (fs.take i) + (ZdJ fs[i]).length < 9223372036854775808 := by rw [Zc0]; omega
  have g2 : Zjk (fs.take i) + (Zfj fs[i]).length < 9223372036854775808 := by rw [ZeC]; omega
  have g3 : Zjl (fs.take i) + (Znr fs[i]).length < 9223372036854775808 := by rw [Zer]; omega
  have g4 : ZaV [ZdJ fs[i], Zfj fs[i], Znr fs[i]] = some (ZaC fs[i]) := by
   rw [m47 _ (by simp only [List.map_cons, List.map_nil, List.sum_cons, List.sum_nil, Zc0, ZeC, Zer]; omega) (by simp)]
   simp [ZaC]
  have g5 : (Zas (fs.take i)).length + (ZaC fs[i]).length < 549755813888 := by rw [Zdc]; omega
  simp only [Ze0, Zj9, Zjq, Zjw, ZsU, Zyv, ZuL, Zy6, Zwf, ZuY, br, ix, vz, vw, vs]
  have h8 := m24 _ hz
  simp only [← Zc0, ← ZeC, ← Zer]
  simp [h1, h2, h8, g1, g2, g3, g4, g5])
 have hl : (Zas fs).length ≤ 1048576 := by rw [Zdk]; exact ht
 have q2 : Zab (Zpp (Zas fs)) big 0 = some ((Zaw (ZhF fun x => (x, (9 : Int))) [] (Zas fs)).elim (.inl ()) .inr) := ZaO (B := Zpp (Zas fs)) (Zas fs) (fun _ => ()) (ZhF fun x => (x, (9 : Int))) (fun i _ => i) id (hN := Zaf (by omega)) (he := by simp [Zpp, Zx7, br, Bd.vl]) (hs := by
  intro i x hx
  obtain ⟨h1, rfl⟩ := List.getElem?_eq_some_iff.1 hx
  have h2 : i + 1 < 9223372036854775808 := by omega
  have h3 : i ≤ (Zas fs).length := by omega
  have h4 := m54 ((Zas fs).take i) (Zas fs)[i] (by rw [List.length_take]; omega)
  simp only [Zpp, Zx7, br, Bd.c, Bd.vl, ZhF]
  simp only [h1, h2, h3, h4, Option.bind_some, decide_true, if_true, Int.ofNat_lt, and_self, Nat.zero_le, Nat.sub_zero, List.drop_zero, hx]
  cases ((Zas fs).take i).any fun y => decide ((Zas fs)[i] = y) <;> rfl)
 unfold ZdM
 simp only [ZBy, ZBF, ZEO, ZsX, Zr8, ZrL, Ztz, br, vz, vw, lr, lc, lf, q1, q2, Option.bind_some, Sum.elim_inl]
 unfold Zxe
 have hmm : (64 : Int) < mmI true (mmI true (Zi2 fs : Int) (Zjk fs : Int)) (Zjl fs : Int) ↔ (64 < Zi2 fs ∨ 64 < Zjk fs ∨ 64 < Zjl fs) := by
  simp only [mmI, if_true]
  omega
 simp only [decide_eq_true_eq, hmm]
 split
 ·rfl
 ·cases Zaw (ZhF fun x => (x, (9 : Int))) [] (Zas fs) <;> rfl
theorem Zh5 {α ρ : Type} {R : List α → α → Option ρ} : ∀ (l1 l2 p : List α), Zaw R p (l1 ++ l2) = (Zaw R p l1).elim (Zaw R (p ++ l1) l2) some
 | [], l2, p => by simp [Zaw]
 | x :: l1, l2, p => by
  rw [List.cons_append, Zaw, Zaw]
  cases R p x with
  | some r => rfl
  | none => simp only [Zh5 l1 l2, List.append_assoc, List.singleton_append]
theorem ZfG {α ρ : Type} {R : List α → α → Option ρ} (b : List α) : ∀ (l p : List α), Zaw (fun q x => R (b ++ q) x) p l = Zaw R (b ++ p) l
 | [], p => rfl
 | x :: l, p => by
  rw [Zaw, Zaw]
  cases R (b ++ p) x with
  | some r => rfl
  | none => simp only [ZfG b l, List.append_assoc]
theorem ZgG {α β ρ : Type} {R : List α → α → Option ρ} (f : β → List α) : ∀ (l p : List β), Zaw (fun q x => Zaw R (q.flatMap f) (f x)) p l = Zaw R (p.flatMap f) (l.flatMap f)
 | [], p => rfl
 | x :: l, p => by
  rw [Zaw, List.flatMap_cons, Zh5]
  cases Zaw R (p.flatMap f) (f x) with
  | some r => rfl
  | none => simp only [Option.elim, ZgG f l, List.flatMap_append, List.flatMap_cons, List.flatMap_nil, List.append_nil]
theorem m33 (fs : List Fil) (h : SzA fs) : ZbV fs = some ((Zaw (ZhF fun x => (x, true)) [] (Zas fs)).getD (⟨#[]⟩, false)) := by
 have hn := h.n
 have ht := h.t
 have q2 : ∀ (v : Nat) (l b : List ByteArray), b.length + l.length ≤ 1048576 → Zab (Zop fs v l) big (b, 0) = some ((Zaw (ZhF fun x => (x, true)) b l).elim (.inl (b ++ l)) .inr) := fun v l b hb => by
  have := ZaO (B := Zop fs v l) (N := big) l (fun q => b ++ q) (fun q x => ZhF (fun x => (x, true)) (b ++ q) x) (fun i c => (c, i)) id (hN := Zaf (by omega)) (he := by simp [Zop, ZuA, br]) (hs := by
   intro i x hx
   obtain ⟨h1, rfl⟩ := List.getElem?_eq_some_iff.1 hx
   have h2 : i + 1 < 9223372036854775808 := by omega
   have h5 : (b ++ l.take i).length < 549755813887 := by rw [List.length_append, List.length_take]; omega
   have h4 := ZLE (b ++ l.take i) l[i] (by omega)
   rw [ZM4] at h4
   simp only [Zop, ZuA, br, ZhF]
   simp only [h1, h2, h4, h5, Option.bind_some, decide_true, if_true, Int.ofNat_lt, hx, List.append_assoc]
   cases (b ++ l.take i).any fun y => decide (l[i] = y) <;> rfl)
  rw [List.append_nil, ZfG, List.append_nil] at this
  exact this
 have q1 : Zab (ZpI fs) big ([], 0) = some ((Zaw (ZhF fun x => (x, true)) [] (Zas fs)).elim (.inl ()) .inr) := by
  have := ZaO (B := ZpI fs) (N := big) fs Zas (fun q x => Zaw (ZhF fun x => (x, true)) (Zas q) (ZaC x)) (fun i c => (c, i)) (fun _ => ()) (hN := Zaf (by omega)) (he := by simp [ZpI, Zvk, Zx3, Zxt, br, ix, vs]) (hs := by
   intro i x hx
   have h7 := ZcG tot hx
   rw [← Zdk] at h7
   have hz := h.f x (List.mem_of_getElem? hx)
   obtain ⟨h1, rfl⟩ := List.getElem?_eq_some_iff.1 hx
   have h2 : i + 1 < 9223372036854775808 := by omega
   have h8 : Zbe fs[i] = some (ZaC fs[i]) := m50 _ hz
   have h9 := q2 i (ZaC fs[i]) (Zas (fs.take i)) (by rw [Zdc]; omega)
   simp only [ZpI, Zvk, Zx3, Zxt, br, ix, vs]
   simp only [h1, h2, h8, h9, Option.bind_some, decide_true, if_true, Int.ofNat_lt, hx, Ze0]
   cases Zaw (ZhF fun x => (x, true)) (Zas (fs.take i)) (ZaC fs[i]) <;> rfl)
  rw [show (fun q x => Zaw (ZhF fun x => (x, true)) (Zas q) (ZaC x)) = (fun (q : List Fil) x => Zaw (ZhF fun x => (x, true)) (q.flatMap ZaC) (ZaC x)) from rfl, ZgG] at this
  exact this
 unfold ZbV
 simp only [ZGl, ZBO, ZDW, ZA1, vz, vw, lr, lc, lf, q1, Option.bind_some]
 cases Zaw (ZhF fun x => (x, true)) [] (Zas fs) <;> rfl
end Go.Proofs.Ythagpbkmakocjaa
