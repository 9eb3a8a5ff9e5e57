import Derived.Test.YthagpbkmakocjaaGreatCy18
namespace Go.Proofs.YthagpbkmakocjaaGreat
set_option linter.all false
set_option maxRecDepth 100000
open Go Go.Eng
noncomputable section
abbrev E31 : Scm → AV := fun y => .agg ((Zeb y).map .d)
section
variable {C : Cx} (co : CO C 0) (p0 : Scm) (v1 : Nat) (c2 : List Msg) (e3 : Msg) (c9 : List Msg) (v10 : Nat) (c11 : List Enm) (e12 : Enm) (c18 : List Enm) (v19 : Nat) (c20 : List Svc) (e21 : Svc)
abbrev Zt2 := PT 0 (Lv (Nat × List Msg) (List Msg) (Scm))
abbrev Zuj := PT 0 (Lv (Nat × List Enm) (List Enm) (Scm))
abbrev Ztr := PT 0 (Lv (Nat × List Svc) (List Svc) (Scm))
abbrev Ze8 : Blk := ⟨0, true, 26, 3, [vL Zaj p0.messages, vL Zag p0.enums, vL Zal p0.services]⟩
abbrev Zdk : Blk := ⟨0, true, 26, 3, [.e0, .e0, .e0]⟩
abbrev ZyJ : List (Nat × AV) := [(1, .ptr (1, 1) 0 0), (2, .ptr (1, 2) 0 0), (3, .ptr (1, 3) 0 0), (17, vL Zaj p0.messages), (18, vN p0.messages.length), (19, vN v1)]
abbrev Zmw : List (Key × Bool) := [((1, 1), false), ((1, 2), false), ((1, 3), false)]
abbrev Zz2 : List (Nat × AV) := [(1, .ptr (1, 1) 0 0), (2, .ptr (1, 2) 0 0), (3, .ptr (1, 3) 0 0), (62, vL Zag p0.enums), (63, vN p0.enums.length), (64, vN v10)]
abbrev ZyG : List (Nat × AV) := [(2, .ptr (1, 2) 0 0), (3, .ptr (1, 3) 0 0), (107, vL Zal p0.services), (108, vN p0.services.length), (109, vN v19)]
abbrev ZvS : List (Key × Blk) := [((1, 1), (Ze8 p0)), ((1, 2), Zdk), ((1, 3), ⟨0, true, 26, 3, [vL Zaj c2, .e0, .e0]⟩), ((1, 5), ⟨0, true, 48, 5, [vS e3.name, vL ZcG e3.fields, vL Zdh e3.reserved, vL Zan e3.gone, vL eNt e3.notes]⟩)]
abbrev Zvk : List (Key × Blk) := [((1, 1), (Ze8 p0)), ((1, 2), Zdk), ((1, 3), ⟨0, true, 26, 3, [vL Zaj c9, vL Zag c11, .e0]⟩), ((1, 9), ⟨0, true, 55, 5, [vS e12.name, vB e12.opn, vL Zec e12.items, vL Zdh e12.reserved, vL eNt e12.notes]⟩)]
abbrev Zu0 : List (Key × Blk) := [((1, 2), Zdk), ((1, 3), ⟨0, true, 26, 3, [vL Zaj c9, vL Zag c18, vL Zal c20]⟩), ((1, 13), ⟨0, true, 62, 3, [vS e21.name, vL Zc1 e21.methods, vL eNt e21.notes]⟩)]
abbrev ZpG : List (Key × Bool) := [((1, 1), false), ((1, 2), false), ((1, 3), false), ((1, 5), false)]
abbrev ZoT : List (Key × Bool) := [((1, 1), false), ((1, 2), false), ((1, 3), false), ((1, 9), false)]
abbrev ZoW : List (Nat × AV) := [(1, .ptr (1, 1) 0 0), (2, .ptr (1, 2) 0 0), (3, .ptr (1, 3) 0 0)]
abbrev ZqX : List (Key × Bool) := [((1, 2), false), ((1, 3), false), ((1, 13), false)]
abbrev Zql : List Nat := [2, 3, 13, 14, 107, 108, 109]
abbrev ZpJ : List (Key × Bool) := [((1, 2), false), ((1, 3), false)]
abbrev ZoR : List Nat := [1, 2, 3, 9, 10, 62, 63, 64]
abbrev Znq (t : List (Nat × AV)) : List (Nat × AV) := (1, .ptr (1, 1) 0 0) :: (2, .ptr (1, 2) 0 0) :: (3, .ptr (1, 3) 0 0) :: t
def ZCc : Nat × List Msg → St := fun (v1, c2) => mkS (ZyJ p0 v1) [((1, 1), (Ze8 p0)), ((1, 2), Zdk), ((1, 3), ⟨0, true, 26, 3, [vL Zaj c2, .e0, .e0]⟩)]
def ZHs : List Msg → Nat × St := fun c9 => (0, mkS ZoW [((1, 1), (Ze8 p0)), ((1, 2), Zdk), ((1, 3), ⟨0, true, 26, 3, [vL Zaj c9, .e0, .e0]⟩)])
def ZyU : Int → St := fun v4 => mkS (Znq [(5, .ptr (1, 5) 0 0), (6, vI v4), (17, vL Zaj p0.messages), (18, vN p0.messages.length), (19, vN v1)]) (ZvS p0 c2 e3)
def ZHK : Int → Nat × St := fun v6 => (2, mkS (Znq [(5, .ptr (1, 5) 0 0), (6, vI v6), (17, vL Zaj p0.messages), (18, vN p0.messages.length), (19, vN v1)]) (ZvS p0 c2 e3))
def Zrt (v4 : Int) : PT 0 (Lv (Int) (Int) (Scm)) := vw .go <| vg (decide ((0 : Int) < v4)) (wi (v4 - 1)) <| ixg (decide ((0 : Int) < v4)) c2 (v4 - 1) fun e5 => vw .go <| br (decide ((0 : Int) < v4) && (!(sLt e5.name e3.name || decide (e5.name = e3.name)))) (vs (wi (v4 - 1)) <| ln (ZyU p0 v1 c2 e3) (v4 - 1)) (lxe (ZHK p0 v1 c2 e3) v4)
def Zp9 := fun (v4 : Int) => (Zrt p0 v1 c2 e3 v4).m
def ZrQ (l7 : List Msg) (l8 : List Msg) : Zt2 := vs (wa v1 1) <| vw (.frz 47 [] [((1, 3), 0, (((l7 ++ [e3]) ++ l8).map Zaj))]) <| vz (fz ((l7 ++ [e3]) ++ l8)) <| ln (ZCc p0) (v1 + 1, (l7 ++ [e3]) ++ l8)
def Zsi (v6 : Int) : Zt2 := vw .go <| sL c2 .no (.it v6) fun l7 => a0 l7 <| vw .go <| vw .sep <| ap l7 (e3 : Msg) <| vw .go <| sL c2 (.it v6) .no fun l8 => aq (l7 ++ [e3]) l8 <| vw .go <| vz (fl ((l7 ++ [e3]) ++ l8)) <| lc (mkS (ZyJ p0 v1) [((1, 1), (Ze8 p0)), ((1, 2), Zdk), ((1, 3), ⟨0, true, 26, 3, [.ref (1, 47) 0 0 ((l7 ++ [e3]) ++ l8).length, .e0, .e0]⟩), ((1, 47), ⟨0, true, 48, 5, Zaa Zaj ((l7 ++ [e3]) ++ l8)⟩)]) ((ZrQ p0 v1 e3 l7 l8).m)
def Zr4 : Zt2 := ix p0.messages v1 fun e3 => vw .go <| vw .go <| vz (eqL c2) <| lc (ZyU p0 v1 c2 e3 (c2.length : Int)) ((Zad (Zp9 p0 v1 c2 e3) big (c2.length : Int)).bind (Sum.elim (fun v6 => (Zsi p0 v1 c2 e3 v6).m) (fun z => some (.rt z))))
def ZuW : Zt2 := br (decide ((v1 : Int) < (p0.messages.length : Int))) (lc (mkS (ZyJ p0 v1) [((1, 1), (Ze8 p0)), ((1, 2), Zdk), ((1, 3), ⟨0, true, 26, 3, [vL Zaj c2, .e0, .e0]⟩)]) ((Zr4 p0 v1 c2).m)) (lxe (ZHs p0) c2)
def Zn9 := fun ((v1, c2) : Nat × List Msg) => (ZuW p0 v1 c2).m
def ZA9 : Nat × List Enm → St := fun (v10, c11) => mkS (Zz2 p0 v10) [((1, 1), (Ze8 p0)), ((1, 2), Zdk), ((1, 3), ⟨0, true, 26, 3, [vL Zaj c9, vL Zag c11, .e0]⟩)]
def ZE7 : List Enm → Nat × St := fun c18 => (4, mkS ZoW [((1, 1), (Ze8 p0)), ((1, 2), Zdk), ((1, 3), ⟨0, true, 26, 3, [vL Zaj c9, vL Zag c18, .e0]⟩)])
def ZAo : Int → St := fun v13 => mkS (Znq [(9, .ptr (1, 9) 0 0), (10, vI v13), (62, vL Zag p0.enums), (63, vN p0.enums.length), (64, vN v10)]) (Zvk p0 c9 c11 e12)
def ZCZ : Int → Nat × St := fun v15 => (6, mkS (Znq [(9, .ptr (1, 9) 0 0), (10, vI v15), (62, vL Zag p0.enums), (63, vN p0.enums.length), (64, vN v10)]) (Zvk p0 c9 c11 e12))
def ZsC (v13 : Int) : PT 0 (Lv (Int) (Int) (Scm)) := vw .go <| vg (decide ((0 : Int) < v13)) (wi (v13 - 1)) <| ixg (decide ((0 : Int) < v13)) c11 (v13 - 1) fun e14 => vw .go <| br (decide ((0 : Int) < v13) && (!(sLt e14.name e12.name || decide (e14.name = e12.name)))) (vs (wi (v13 - 1)) <| ln (ZAo p0 c9 v10 c11 e12) (v13 - 1)) (lxe (ZCZ p0 c9 v10 c11 e12) v13)
def Zp3 := fun (v13 : Int) => (ZsC p0 c9 v10 c11 e12 v13).m
def Zsb (l16 : List Enm) (l17 : List Enm) : Zuj := vs (wa v10 1) <| vw (.frz 92 [] [((1, 3), 1, (((l16 ++ [e12]) ++ l17).map Zag))]) <| vz (fz ((l16 ++ [e12]) ++ l17)) <| ln (ZA9 p0 c9) (v10 + 1, (l16 ++ [e12]) ++ l17)
def Zsf (v15 : Int) : Zuj := vw .go <| sL c11 .no (.it v15) fun l16 => a0 l16 <| vw .go <| vw .sep <| ap l16 (e12 : Enm) <| vw .go <| sL c11 (.it v15) .no fun l17 => aq (l16 ++ [e12]) l17 <| vw .go <| vz (fl ((l16 ++ [e12]) ++ l17)) <| lc (mkS (Zz2 p0 v10) [((1, 1), (Ze8 p0)), ((1, 2), Zdk), ((1, 3), ⟨0, true, 26, 3, [vL Zaj c9, .ref (1, 92) 0 0 ((l16 ++ [e12]) ++ l17).length, .e0]⟩), ((1, 92), ⟨0, true, 55, 5, Zaa Zag ((l16 ++ [e12]) ++ l17)⟩)]) ((Zsb p0 c9 v10 e12 l16 l17).m)
def ZuS : Zuj := ix p0.enums v10 fun e12 => vw .go <| vw .go <| vz (eqL c11) <| lc (ZAo p0 c9 v10 c11 e12 (c11.length : Int)) ((Zad (Zp3 p0 c9 v10 c11 e12) big (c11.length : Int)).bind (Sum.elim (fun v15 => (Zsf p0 c9 v10 c11 e12 v15).m) (fun z => some (.rt z))))
def Zmu : Zuj := br (decide ((v10 : Int) < (p0.enums.length : Int))) (lc (mkS (Zz2 p0 v10) [((1, 1), (Ze8 p0)), ((1, 2), Zdk), ((1, 3), ⟨0, true, 26, 3, [vL Zaj c9, vL Zag c11, .e0]⟩)]) ((ZuS p0 c9 v10 c11).m)) (lxe (ZE7 p0 c9) c11)
def ZnI := fun ((v10, c11) : Nat × List Enm) => (Zmu p0 c9 v10 c11).m
def Zxh : Nat × List Svc → St := fun (v19, c20) => mkS (ZyG p0 v19) [((1, 2), Zdk), ((1, 3), ⟨0, true, 26, 3, [vL Zaj c9, vL Zag c18, vL Zal c20]⟩)]
def ZDK : List Svc → Nat × St := fun c27 => (8, mkS [(2, .ptr (1, 2) 0 0), (3, .ptr (1, 3) 0 0)] [((1, 2), Zdk), ((1, 3), ⟨0, true, 26, 3, [vL Zaj c9, vL Zag c18, vL Zal c27]⟩)])
def Zyu : Int → St := fun v22 => mkS [(2, .ptr (1, 2) 0 0), (3, .ptr (1, 3) 0 0), (13, .ptr (1, 13) 0 0), (14, vI v22), (107, vL Zal p0.services), (108, vN p0.services.length), (109, vN v19)] (Zu0 c9 c18 c20 e21)
def ZFr : Int → Nat × St := fun v24 => (10, mkS [(2, .ptr (1, 2) 0 0), (3, .ptr (1, 3) 0 0), (13, .ptr (1, 13) 0 0), (14, vI v24), (107, vL Zal p0.services), (108, vN p0.services.length), (109, vN v19)] (Zu0 c9 c18 c20 e21))
def ZlQ (v22 : Int) : PT 0 (Lv (Int) (Int) (Scm)) := vw .go <| vg (decide ((0 : Int) < v22)) (wi (v22 - 1)) <| ixg (decide ((0 : Int) < v22)) c20 (v22 - 1) fun e23 => vw .go <| br (decide ((0 : Int) < v22) && (!(sLt e23.name e21.name || decide (e23.name = e21.name)))) (vs (wi (v22 - 1)) <| ln (Zyu p0 c9 c18 v19 c20 e21) (v22 - 1)) (lxe (ZFr p0 c9 c18 v19 c20 e21) v22)
def ZoI := fun (v22 : Int) => (ZlQ p0 c9 c18 v19 c20 e21 v22).m
def Zlo (l25 : List Svc) (l26 : List Svc) : Ztr := vs (wa v19 1) <| vw (.frz 137 [] [((1, 3), 2, (((l25 ++ [e21]) ++ l26).map Zal))]) <| vz (fz ((l25 ++ [e21]) ++ l26)) <| ln (Zxh p0 c9 c18) (v19 + 1, (l25 ++ [e21]) ++ l26)
def Zml (v24 : Int) : Ztr := vw .go <| sL c20 .no (.it v24) fun l25 => a0 l25 <| vw .go <| vw .sep <| ap l25 (e21 : Svc) <| vw .go <| sL c20 (.it v24) .no fun l26 => aq (l25 ++ [e21]) l26 <| vw .go <| vz (fl ((l25 ++ [e21]) ++ l26)) <| lc (mkS (ZyG p0 v19) [((1, 2), Zdk), ((1, 3), ⟨0, true, 26, 3, [vL Zaj c9, vL Zag c18, .ref (1, 137) 0 0 ((l25 ++ [e21]) ++ l26).length]⟩), ((1, 137), ⟨0, true, 62, 3, Zaa Zal ((l25 ++ [e21]) ++ l26)⟩)]) ((Zlo p0 c9 c18 v19 e21 l25 l26).m)
def Zlg : Ztr := ix p0.services v19 fun e21 => vw .go <| vw .go <| vz (eqL c20) <| lc (Zyu p0 c9 c18 v19 c20 e21 (c20.length : Int)) ((Zad (ZoI p0 c9 c18 v19 c20 e21) big (c20.length : Int)).bind (Sum.elim (fun v24 => (Zml p0 c9 c18 v19 c20 e21 v24).m) (fun z => some (.rt z))))
def Zlb : Ztr := br (decide ((v19 : Int) < (p0.services.length : Int))) (lc (mkS (ZyG p0 v19) [((1, 2), Zdk), ((1, 3), ⟨0, true, 26, 3, [vL Zaj c9, vL Zag c18, vL Zal c20]⟩)]) ((Zlg p0 c9 c18 v19 c20).m)) (lxe (ZDK c9 c18) c20)
def Zm9 := fun ((v19, c20) : Nat × List Svc) => (Zlb p0 c9 c18 v19 c20).m
def Zqz (c27 : List Svc) : PT 0 (Scm) := vw .go <| vw .go <| lr E31 (fun _ => []) (.mk c9 c18 c27 : Scm)
def Zov : PT 0 (Scm) := vw (.adc (1, 3) 2 1032 62 3) <| vw (.frz 1032 [] [((1, 3), 2, (([] : List Svc).map Zal))]) <| vz (fz ([] : List Svc)) <| lc (Zxh p0 c9 c18 (0, ([] : List Svc))) ((Zad (Zm9 p0 c9 c18) big (0, ([] : List Svc))).bind (Sum.elim (fun c27 => (Zqz c9 c18 c27).m) some))
def Zpk : PT 0 (Scm) := vw .go <| vz (eqL p0.services) <| lc (mkS [(2, .ptr (1, 2) 0 0), (3, .ptr (1, 3) 0 0), (107, vL Zal p0.services), (108, vN p0.services.length), (109, vI 0)] [((1, 2), Zdk), ((1, 3), ⟨0, true, 26, 3, [vL Zaj c9, vL Zag c18, .e0]⟩)]) ((Zov p0 c9 c18).m)
def ZoS : PT 0 (Scm) := vw (.adc (1, 3) 1 1031 55 5) <| vw (.frz 1031 [] [((1, 3), 1, (([] : List Enm).map Zag))]) <| vz (fz ([] : List Enm)) <| lc (ZA9 p0 c9 (0, ([] : List Enm))) ((Zad (ZnI p0 c9) big (0, ([] : List Enm))).bind (Sum.elim (fun c18 => (Zpk p0 c9 c18).m) some))
def ZoN : PT 0 (Scm) := vw .go <| vz (eqL p0.enums) <| lc (mkS (Znq [(62, vL Zag p0.enums), (63, vN p0.enums.length), (64, vI 0)]) [((1, 1), (Ze8 p0)), ((1, 2), Zdk), ((1, 3), ⟨0, true, 26, 3, [vL Zaj c9, .e0, .e0]⟩)]) ((ZoS p0 c9).m)
def Zpa : PT 0 (Scm) := vw (.adc (1, 3) 0 1030 48 5) <| vw (.frz 1030 [] [((1, 3), 0, (([] : List Msg).map Zaj))]) <| vz (fz ([] : List Msg)) <| lc (ZCc p0 (0, ([] : List Msg))) ((Zad (Zn9 p0) big (0, ([] : List Msg))).bind (Sum.elim (fun c9 => (ZoN p0 c9).m) some))
def ZpN : PT 0 (Scm) := vw .go <| vz (eqL p0.messages) <| lc (mkS (Znq [(17, vL Zaj p0.messages), (18, vN p0.messages.length), (19, vI 0)]) [((1, 1), (Ze8 p0)), ((1, 2), Zdk), ((1, 3), Zdk)]) ((Zpa p0).m)
def Zqj : PT 0 (Scm) := lc (mkS ZoW [((1, 1), (Ze8 p0)), ((1, 2), Zdk), ((1, 3), Zdk)]) ((ZpN p0).m)
def ZbM (p0 : Scm) : Option (Scm) := (Zqj p0).m
section
include co
theorem ZBh : Kl 152 C (pa [0, 0, 0, 1, 1, 0, 0, 1, 1, 0, 0, 1, 0, 1, 1] (Zaf Tryz.f31)) [.cell 2 26] 0 (ZyU p0 v1 c2 e3) (ZHK p0 v1 c2 e3) E31 (fun _ => []) (Zp9 p0 v1 c2 e3) := fun v4 _ m Q Post hQ L => en co (Zrt p0 v1 c2 e3 v4) (lf2 [1, 2, 3, 5, 6, 17, 18, 19] ZpG) (lf2 [1, 2, 3, 5, 6, 17, 18, 19] ZpG) hQ m L fun r g e5 => ⟨id, id⟩
theorem ZBP : Kl 152 C (pa [0, 0, 1, 0, 1, 1] (Zaf Tryz.f31)) [.cell 2 26] 0 (ZCc p0) (ZHs p0) E31 (fun _ => []) (Zn9 p0) := fun (v1, c2) _ m Q Post hQ L => mi co 2 (ZuW p0 v1 c2) (lf2 [1, 2, 3, 17, 18, 19] Zmw) (lf2 [1, 2, 3] Zmw) hQ m L fun r g => ⟨fun _ m L => sq (bk 1 (mi co 2 (Zr4 p0 v1 c2) (lf2 [1, 2, 3, 5, 6, 17, 18, 19] ZpG) nl hQ m L fun r g e3 _ m L => sq (bk 2 (lo (lpL (ZBh co p0 v1 c2 e3) hQ m L (fun v6 m => en co (Zsi p0 v1 c2 e3 v6) (lf2 [1, 2, 3, 17, 18, 19] [((1, 1), false), ((1, 2), false), ((1, 3), false), ((1, 47), true)]) nl hQ m L fun r g l7 l8 _ m L => en co (ZrQ p0 v1 e3 l7 l8) (lf2 [1, 2, 3, 17, 18, 19] Zmw) nl hQ m L fun r g => id)))))), id⟩
theorem ZAX : Kl 152 C (pa [0, 0, 0, 1, 1, 0, 0, 1, 1, 0, 0, 1, 0, 1, 1, 1] (Zaf Tryz.f31)) [.cell 2 26] 0 (ZAo p0 c9 v10 c11 e12) (ZCZ p0 c9 v10 c11 e12) E31 (fun _ => []) (Zp3 p0 c9 v10 c11 e12) := fun v13 _ m Q Post hQ L => en co (ZsC p0 c9 v10 c11 e12 v13) (lf2 ZoR ZoT) (lf2 ZoR ZoT) hQ m L fun r g e14 => ⟨id, id⟩
theorem ZAc : Kl 152 C (pa [0, 0, 1, 0, 1, 1, 1] (Zaf Tryz.f31)) [.cell 2 26] 0 (ZA9 p0 c9) (ZE7 p0 c9) E31 (fun _ => []) (ZnI p0 c9) := fun (v10, c11) _ m Q Post hQ L => mi co 2 (Zmu p0 c9 v10 c11) (lf2 [1, 2, 3, 62, 63, 64] Zmw) (lf2 [1, 2, 3] Zmw) hQ m L fun r g => ⟨fun _ m L => sq (bk 5 (mi co 2 (ZuS p0 c9 v10 c11) (lf2 ZoR ZoT) nl hQ m L fun r g e12 _ m L => sq (bk 6 (lo (lpL (ZAX co p0 c9 v10 c11 e12) hQ m L (fun v15 m => en co (Zsf p0 c9 v10 c11 e12 v15) (lf2 [1, 2, 3, 62, 63, 64] [((1, 1), false), ((1, 2), false), ((1, 3), false), ((1, 92), true)]) nl hQ m L fun r g l16 l17 _ m L => en co (Zsb p0 c9 v10 e12 l16 l17) (lf2 [1, 2, 3, 62, 63, 64] Zmw) nl hQ m L fun r g => id)))))), id⟩
theorem Zyt : Kl 152 C (pa [0, 0, 0, 1, 1, 0, 0, 1, 1, 0, 0, 1, 0, 1, 1, 1, 1] (Zaf Tryz.f31)) [.cell 2 26] 0 (Zyu p0 c9 c18 v19 c20 e21) (ZFr p0 c9 c18 v19 c20 e21) E31 (fun _ => []) (ZoI p0 c9 c18 v19 c20 e21) := fun v22 _ m Q Post hQ L => en co (ZlQ p0 c9 c18 v19 c20 e21 v22) (lf2 Zql ZqX) (lf2 Zql ZqX) hQ m L fun r g e23 => ⟨id, id⟩
theorem ZAq : Kl 152 C (pa [0, 0, 1, 0, 1, 1, 1, 1] (Zaf Tryz.f31)) [.cell 2 26] 0 (Zxh p0 c9 c18) (ZDK c9 c18) E31 (fun _ => []) (Zm9 p0 c9 c18) := fun (v19, c20) _ m Q Post hQ L => mi co 2 (Zlb p0 c9 c18 v19 c20) (lf2 [2, 3, 107, 108, 109] ZpJ) (lf2 [2, 3] ZpJ) hQ m L fun r g => ⟨fun _ m L => sq (bk 9 (mi co 2 (Zlg p0 c9 c18 v19 c20) (lf2 Zql ZqX) nl hQ m L fun r g e21 _ m L => sq (bk 10 (lo (lpL (Zyt co p0 c9 c18 v19 c20 e21) hQ m L (fun v24 m => en co (Zml p0 c9 c18 v19 c20 e21 v24) (lf2 [2, 3, 107, 108, 109] [((1, 2), false), ((1, 3), false), ((1, 137), true)]) nl hQ m L fun r g l25 l26 _ m L => en co (Zlo p0 c9 c18 v19 e21 l25 l26) (lf2 [2, 3, 107, 108, 109] ZpJ) nl hQ m L fun r g => id)))))), id⟩
end
end
theorem ZM8 (p0 : Scm) : KC tp 31 [.agg ((Zeb p0).map .d)] (ZbM p0) E31 := kc1 Tryz.func31 Tryz.ntmps31 tok [.cell 2 26] fun C co y m Post L => mi co 2 (Zqj p0) (lf2 [1, 2, 3] [((1, 1), false), ((1, 2), false), ((1, 3), false)]) nl ii m L fun r g _ m L => sq (mi co 1 (ZpN p0) (lf2 [1, 2, 3, 17, 18, 19] [((1, 1), false), ((1, 2), false), ((1, 3), false)]) nl ii m L fun r g _ m L => bk 0 (Znw co (Zpa p0) (lf2 [1, 2, 3, 17, 18, 19] [((1, 1), false), ((1, 2), false), ((1, 3), false)]) m L fun r g _ m L => lo (lpF (ZBP co p0) ii m L (fun c9 m => sq (mi co 1 (ZoN p0 c9) (lf2 [1, 2, 3, 62, 63, 64] [((1, 1), false), ((1, 2), false), ((1, 3), false)]) nl ii m L fun r g _ m L => bk 4 (Znw co (ZoS p0 c9) (lf2 [1, 2, 3, 62, 63, 64] [((1, 1), false), ((1, 2), false), ((1, 3), false)]) m L fun r g _ m L => lo (lpF (ZAc co p0 c9) ii m L (fun c18 m => sq (mi co 1 (Zpk p0 c9 c18) (lf2 [2, 3, 107, 108, 109] [((1, 2), false), ((1, 3), false)]) nl ii m L fun r g _ m L => bk 8 (Znw co (Zov p0 c9 c18) (lf2 [2, 3, 107, 108, 109] [((1, 2), false), ((1, 3), false)]) m L fun r g _ m L => lo (lpF (ZAq co p0 c9 c18) ii m L (fun c27 m => fo co (Zqz c9 c18 c27) m L fun r g => id))))))))))))
def Zxy : Pl := (.opt [3, 4] 3 (.fst 4 (.fst 7 (.fst 11 (.fst 12 (.fst 14 .nil))))) (.opt [3, 4] 4 (.fst 3 (.fst 7 (.fst 11 (.fst 12 (.fst 14 .nil))))) .nil))
def ZGV : Pl := (.opt [0, 4] 0 Zxy (.opt [0, 4] 4 (.fst 0 (.fst 3 (.fst 7 (.fst 11 (.fst 12 (.fst 14 .nil)))))) .nil))
def ZA4 : Pl := (.opt [7, 8] 7 (.fst 8 (.fst 11 (.fst 12 (.fst 14 .nil)))) (.opt [7, 8] 8 (.fst 7 (.fst 11 (.fst 12 (.fst 14 .nil)))) .nil))
def ZzB : Pl := (.opt [3, 8] 3 ZA4 (.opt [3, 8] 8 (.fst 3 (.fst 7 (.fst 11 (.fst 12 (.fst 14 .nil))))) .nil))
def ZDx : Pl := (.opt [0, 8] 0 ZzB (.opt [0, 8] 8 (.fst 0 (.fst 3 (.fst 7 (.fst 11 (.fst 12 (.fst 14 .nil)))))) .nil))
def ZGX : Pl := (.opt [4, 8] 4 ZA4 (.opt [4, 8] 8 (.fst 4 (.fst 7 (.fst 11 (.fst 12 (.fst 14 .nil))))) .nil))
def ZGA : Pl := (.opt [3, 4, 8] 3 ZGX (.opt [3, 4, 8] 4 ZzB (.opt [3, 4, 8] 8 Zxy .nil)))
def ZJD : Pl := (.opt [0, 4, 8] 0 ZGA (.opt [0, 4, 8] 4 ZDx (.opt [0, 4, 8] 8 ZGV .nil)))
def ZFo : Pl := (.opt [11, 13] 11 (.fst 12 (.fst 13 (.fst 14 .nil))) (.opt [11, 13] 13 (.fst 11 (.fst 12 (.fst 14 .nil))) .nil))
def ZAY : Pl := (.opt [7, 13] 7 ZFo (.opt [7, 13] 13 (.fst 7 (.fst 11 (.fst 12 (.fst 14 .nil)))) .nil))
def ZBn : Pl := (.opt [3, 13] 3 ZAY (.opt [3, 13] 13 (.fst 3 (.fst 7 (.fst 11 (.fst 12 (.fst 14 .nil))))) .nil))
def ZEO : Pl := (.opt [0, 13] 0 ZBn (.opt [0, 13] 13 (.fst 0 (.fst 3 (.fst 7 (.fst 11 (.fst 12 (.fst 14 .nil)))))) .nil))
def ZGi : Pl := (.opt [4, 13] 4 ZAY (.opt [4, 13] 13 (.fst 4 (.fst 7 (.fst 11 (.fst 12 (.fst 14 .nil))))) .nil))
def ZEs : Pl := (.opt [3, 4, 13] 3 ZGi (.opt [3, 4, 13] 4 ZBn (.opt [3, 4, 13] 13 Zxy .nil)))
def ZJx : Pl := (.opt [0, 4, 13] 0 ZEs (.opt [0, 4, 13] 4 ZEO (.opt [0, 4, 13] 13 ZGV .nil)))
def ZKN : Pl := (.opt [8, 13] 8 ZFo (.opt [8, 13] 13 (.fst 8 (.fst 11 (.fst 12 (.fst 14 .nil)))) .nil))
def ZFN : Pl := (.opt [7, 8, 13] 7 ZKN (.opt [7, 8, 13] 8 ZAY (.opt [7, 8, 13] 13 ZA4 .nil)))
def ZD2 : Pl := (.opt [3, 8, 13] 3 ZFN (.opt [3, 8, 13] 8 ZBn (.opt [3, 8, 13] 13 ZzB .nil)))
def ZKi : Pl := (.opt [0, 8, 13] 0 ZD2 (.opt [0, 8, 13] 8 ZEO (.opt [0, 8, 13] 13 ZDx .nil)))
def ZKD : Pl := (.opt [4, 8, 13] 4 ZFN (.opt [4, 8, 13] 8 ZGi (.opt [4, 8, 13] 13 ZGX .nil)))
def ZK3 : Pl := (.opt [3, 4, 8, 13] 3 ZKD (.opt [3, 4, 8, 13] 4 ZD2 (.opt [3, 4, 8, 13] 8 ZEs (.opt [3, 4, 8, 13] 13 ZGA .nil))))
def ZKV : Pl := (.opt [0, 4, 8, 13] 0 ZK3 (.opt [0, 4, 8, 13] 4 ZKi (.opt [0, 4, 8, 13] 8 ZJx (.opt [0, 4, 8, 13] 13 ZJD .nil))))
abbrev E6 : Scm × Int → AV := fun y => .tup [.agg ((Zeb y.1).map .d), vI y.2]
section
variable {C : Cx} (co : CO C 0) (p0 p1 : Scm) (y1 : List Bt) (v2 : Nat) (r3 : List Msg) (e4 : Msg) (r8 : List Msg) (v9 : Nat) (r10 : List Enm) (e11 : Enm) (r15 : List Enm) (v16 : Nat) (r17 : List Svc) (e18 : Svc)
abbrev ZCD := PT 0 (Lv (Nat × List Msg) (List Msg) (Scm × Int))
abbrev ZCm := PT 0 (Lv (Nat × List Enm) (List Enm) (Scm × Int))
abbrev ZCG := PT 0 (Lv (Nat × List Svc) (List Svc) (Scm × Int))
abbrev ZeL := PT 0 (Scm × Int)
abbrev ZCI : List (Key × Blk) := [((1, 3), ⟨0, true, 26, 3, [vL Zaj p1.messages, vL Zag p1.enums, vL Zal p1.services]⟩), ((1, 4), ⟨0, true, 26, 3, [.e0, .e0, .e0]⟩), ((1, 7), ⟨0, true, 26, 3, [.ref (1, 19) 0 0 r3.length, .ref (1, 23) 0 0 p0.enums.length, .ref (1, 27) 0 0 p0.services.length]⟩), ((1, 19), ⟨0, true, 48, 5, Zaa Zaj r3⟩), ((1, 23), ⟨0, true, 55, 5, Zaa Zag p0.enums⟩), ((1, 27), ⟨0, true, 62, 3, Zaa Zal p0.services⟩)]
abbrev Zhm : List (Key × Bool) := [((1, 3), false), ((1, 4), false), ((1, 7), false), ((1, 19), true), ((1, 23), true), ((1, 27), true)]
abbrev ZCA : List (Key × Blk) := [((1, 3), ⟨0, true, 26, 3, [vL Zaj p1.messages, vL Zag p1.enums, vL Zal p1.services]⟩), ((1, 4), ⟨0, true, 26, 3, [.e0, .e0, .e0]⟩), ((1, 7), ⟨0, true, 26, 3, [.ref (1, 19) 0 0 r8.length, .ref (1, 23) 0 0 r10.length, .ref (1, 27) 0 0 p0.services.length]⟩), ((1, 19), ⟨0, true, 48, 5, Zaa Zaj r8⟩), ((1, 23), ⟨0, true, 55, 5, Zaa Zag r10⟩), ((1, 27), ⟨0, true, 62, 3, Zaa Zal p0.services⟩)]
abbrev ZCv : List (Key × Blk) := [((1, 4), ⟨0, true, 26, 3, [.e0, .e0, .e0]⟩), ((1, 7), ⟨0, true, 26, 3, [.ref (1, 19) 0 0 r8.length, .ref (1, 23) 0 0 r15.length, .ref (1, 27) 0 0 r17.length]⟩), ((1, 19), ⟨0, true, 48, 5, Zaa Zaj r8⟩), ((1, 23), ⟨0, true, 55, 5, Zaa Zag r15⟩), ((1, 27), ⟨0, true, 62, 3, Zaa Zal r17⟩)]
abbrev ZoD : List (Key × Bool) := [((1, 4), false), ((1, 7), false), ((1, 19), true), ((1, 23), true), ((1, 27), true)]
abbrev Zjl : Blk := ⟨0, true, 26, 3, [vL Zaj p1.messages, vL Zag p1.enums, vL Zal p1.services]⟩
abbrev ZtC : List (Nat × AV) := [(2, .iptr (Zeb p0) 0), (3, .ptr (1, 3) 0 0), (4, .ptr (1, 4) 0 0), (6, vL Zan y1), (7, .ptr (1, 7) 0 0), (30, vL Zaj p1.messages), (31, vN p1.messages.length), (32, vN v2)]
abbrev Ztx : List (Nat × AV) := [(2, .iptr (Zeb p0) 0), (3, .ptr (1, 3) 0 0), (4, .ptr (1, 4) 0 0), (6, vL Zan y1), (7, .ptr (1, 7) 0 0), (58, vL Zag p1.enums), (59, vN p1.enums.length), (60, vN v9)]
abbrev ZrC : List (Nat × AV) := [(2, .iptr (Zeb p0) 0), (4, .ptr (1, 4) 0 0), (6, vL Zan y1), (7, .ptr (1, 7) 0 0), (86, vL Zal p1.services), (87, vN p1.services.length), (88, vN v16)]
abbrev Zjg : Blk := ⟨0, true, 26, 3, [.e0, .e0, .e0]⟩
abbrev Zig : List Nat := [2, 3, 4, 6, 7, 30, 31, 32]
abbrev Zh7 : List Nat := [2, 3, 4, 6, 7, 58, 59, 60]
abbrev Zyf : List (Nat × AV) := [(2, .iptr (Zeb p0) 0), (3, .ptr (1, 3) 0 0), (4, .ptr (1, 4) 0 0), (6, vL Zan y1), (7, .ptr (1, 7) 0 0)]
abbrev ZiI : List Nat := [2, 4, 6, 7, 86, 87, 88]
abbrev ZBe : Blk := ⟨0, true, 48, 5, Zaa Zaj r8⟩
abbrev Zv7 (t : List (Nat × AV)) : List (Nat × AV) := (2, .iptr (Zeb p0) 0) :: (3, .ptr (1, 3) 0 0) :: (4, .ptr (1, 4) 0 0) :: (6, vL Zan y1) :: (7, .ptr (1, 7) 0 0) :: t
abbrev ZKP (t : List (Nat × AV)) : List (Nat × AV) := (2, .iptr (Zeb p0) 0) :: (4, .ptr (1, 4) 0 0) :: (6, vL Zan y1) :: (7, .ptr (1, 7) 0 0) :: (86, vL Zal p1.services) :: (87, vN p1.services.length) :: (88, vN v16) :: t
abbrev ZJ5 : List (Key × Bool) := [((1, 19), true), ((1, 23), true), ((1, 27), true)]
def ZIO : Nat × List Msg → St := fun (v2, r3) => mkS (ZtC p0 p1 y1 v2) (ZCI p0 p1 r3)
def ZLD : List Msg → Nat × St := fun r8 => (0, mkS (Zyf p0 y1) [((1, 3), (Zjl p1)), ((1, 4), Zjg), ((1, 7), ⟨0, true, 26, 3, [.ref (1, 19) 0 0 r8.length, .ref (1, 23) 0 0 p0.enums.length, .ref (1, 27) 0 0 p0.services.length]⟩), ((1, 19), ⟨0, true, 48, 5, Zaa Zaj r8⟩), ((1, 23), ⟨0, true, 55, 5, Zaa Zag p0.enums⟩), ((1, 27), ⟨0, true, 62, 3, Zaa Zal p0.services⟩)])
def ZCB : ZCD := vs (wa v2 1) <| vz (fl r3) <| vz (fl p0.enums) <| vz (fl p0.services) <| ln (ZIO p0 p1 y1) (v2 + 1, r3)
def ZwO (y7 : Bool) : ZCD := br (!y7) (vw .go <| lrt E6 (fun _ => []) ((.mk [] [] [] : Scm), 9)) (vz (fl r3) <| vz (fl p0.enums) <| vz (fl p0.services) <| lc (mkS (ZtC p0 p1 y1 v2) (ZCI p0 p1 r3)) ((ZCB p0 p1 y1 v2 r3).m))
def ZIV : ZCD := vw .go <| tw (cl (ZKU p0 e4.name) fun y6 => vw .go <| vw .sep <| cl (ZIM y6 ([e4] : List Msg)) fun y7 => vz (fl r3) <| vz (fl p0.enums) <| vz (fl p0.services) <| lc (mkS (Zv7 p0 y1 [(30, vL Zaj p1.messages), (31, vN p1.messages.length), (32, vN v2), (54, vB (!y7))]) (ZCI p0 p1 r3)) ((ZwO p0 p1 y1 v2 r3 y7).m)) (vw .go <| tw (cl (ZKU p0 e4.name) fun y6 => vw .sep <| cl (ZIM y6 ([e4] : List Msg)) fun y7 => vz (fl r3) <| vz (fl p0.enums) <| vz (fl p0.services) <| lc (mkS (Zv7 p0 y1 [(30, vL Zaj p1.messages), (31, vN p1.messages.length), (32, vN v2), (54, vB (!y7))]) (ZCI p0 p1 r3)) ((ZwO p0 p1 y1 v2 r3 y7).m)) (vw .sep <| cl (ZKU p0 e4.name) fun y6 => cl (ZIM y6 ([e4] : List Msg)) fun y7 => vz (fl r3) <| vz (fl p0.enums) <| vz (fl p0.services) <| lc (mkS (Zv7 p0 y1 [(30, vL Zaj p1.messages), (31, vN p1.messages.length), (32, vN v2), (54, vB (!y7))]) (ZCI p0 p1 r3)) ((ZwO p0 p1 y1 v2 r3 y7).m)))
def ZI4 : ZCD := vs (wa v2 1) <| vz (fl (r3 ++ [e4])) <| vz (fl p0.enums) <| vz (fl p0.services) <| ln (ZIO p0 p1 y1) (v2 + 1, r3 ++ [e4])
def ZJb : ZCD := ix p1.messages v2 fun e4 => vw .go <| vw .go <| cl (ZJB y1 e4.name) fun y5 => br (!y5) (vw .go <| vw .go <| vw .sep <| ap r3 (e4 : Msg) <| vw .go <| vz (fl (r3 ++ [e4])) <| vz (fl p0.enums) <| vz (fl p0.services) <| lxc 1 (mkS (ZtC p0 p1 y1 v2) [((1, 3), (Zjl p1)), ((1, 4), ⟨0, true, 26, 3, [.e0, .e0, .e0]⟩), ((1, 7), ⟨0, true, 26, 3, [.ref (1, 19) 0 0 (r3 ++ [e4]).length, .ref (1, 23) 0 0 p0.enums.length, .ref (1, 27) 0 0 p0.services.length]⟩), ((1, 19), ⟨0, true, 48, 5, Zaa Zaj (r3 ++ [e4])⟩), ((1, 23), ⟨0, true, 55, 5, Zaa Zag p0.enums⟩), ((1, 27), ⟨0, true, 62, 3, Zaa Zal p0.services⟩)]) ((ZI4 p0 p1 y1 v2 r3 e4).m)) (vz (fl r3) <| vz (fl p0.enums) <| vz (fl p0.services) <| lc (mkS (Zv7 p0 y1 [(9, .ptr (1, 9) 0 0), (30, vL Zaj p1.messages), (31, vN p1.messages.length), (32, vN v2)]) [((1, 3), (Zjl p1)), ((1, 4), Zjg), ((1, 7), ⟨0, true, 26, 3, [.ref (1, 19) 0 0 r3.length, .ref (1, 23) 0 0 p0.enums.length, .ref (1, 27) 0 0 p0.services.length]⟩), ((1, 9), ⟨0, true, 48, 5, [vS e4.name, vL ZcG e4.fields, vL Zdh e4.reserved, vL Zan e4.gone, vL eNt e4.notes]⟩), ((1, 19), ⟨0, true, 48, 5, Zaa Zaj r3⟩), ((1, 23), ⟨0, true, 55, 5, Zaa Zag p0.enums⟩), ((1, 27), ⟨0, true, 62, 3, Zaa Zal p0.services⟩)]) ((ZIV p0 p1 y1 v2 r3 e4).m))
def ZIT : ZCD := br (decide ((v2 : Int) < (p1.messages.length : Int))) (vz (fl r3) <| vz (fl p0.enums) <| vz (fl p0.services) <| lc (mkS (ZtC p0 p1 y1 v2) (ZCI p0 p1 r3)) ((ZJb p0 p1 y1 v2 r3).m)) (vz (fl r3) <| vz (fl p0.enums) <| vz (fl p0.services) <| lxe (ZLD p0 p1 y1) r3)
def ZCx := fun ((v2, r3) : Nat × List Msg) => (ZIT p0 p1 y1 v2 r3).m
def ZJc : Nat × List Enm → St := fun (v9, r10) => mkS (Ztx p0 p1 y1 v9) (ZCA p0 p1 r8 r10)
def ZK7 : List Enm → Nat × St := fun r15 => (2, mkS (Zyf p0 y1) [((1, 3), (Zjl p1)), ((1, 4), Zjg), ((1, 7), ⟨0, true, 26, 3, [.ref (1, 19) 0 0 r8.length, .ref (1, 23) 0 0 r15.length, .ref (1, 27) 0 0 p0.services.length]⟩), ((1, 19), ⟨0, true, 48, 5, Zaa Zaj r8⟩), ((1, 23), ⟨0, true, 55, 5, Zaa Zag r15⟩), ((1, 27), ⟨0, true, 62, 3, Zaa Zal p0.services⟩)])
def ZCt : ZCm := vs (wa v9 1) <| vz (fl r8) <| vz (fl r10) <| vz (fl p0.services) <| ln (ZJc p0 p1 y1 r8) (v9 + 1, r10)
def ZwA (y14 : Bool) : ZCm := br (!y14) (vw .go <| lrt E6 (fun _ => []) ((.mk [] [] [] : Scm), 9)) (vz (fl r8) <| vz (fl r10) <| vz (fl p0.services) <| lc (mkS (Ztx p0 p1 y1 v9) (ZCA p0 p1 r8 r10)) ((ZCt p0 p1 y1 r8 v9 r10).m))
def ZIP : ZCm := vw .go <| tw (cl (ZJZ p0 e11.name) fun y13 => vw .go <| vw .sep <| cl (ZIZ y13 ([e11] : List Enm)) fun y14 => vz (fl r8) <| vz (fl r10) <| vz (fl p0.services) <| lc (mkS (Zv7 p0 y1 [(58, vL Zag p1.enums), (59, vN p1.enums.length), (60, vN v9), (82, vB (!y14))]) (ZCA p0 p1 r8 r10)) ((ZwA p0 p1 y1 r8 v9 r10 y14).m)) (vw .go <| tw (cl (ZJZ p0 e11.name) fun y13 => vw .sep <| cl (ZIZ y13 ([e11] : List Enm)) fun y14 => vz (fl r8) <| vz (fl r10) <| vz (fl p0.services) <| lc (mkS (Zv7 p0 y1 [(58, vL Zag p1.enums), (59, vN p1.enums.length), (60, vN v9), (82, vB (!y14))]) (ZCA p0 p1 r8 r10)) ((ZwA p0 p1 y1 r8 v9 r10 y14).m)) (vw .sep <| cl (ZJZ p0 e11.name) fun y13 => cl (ZIZ y13 ([e11] : List Enm)) fun y14 => vz (fl r8) <| vz (fl r10) <| vz (fl p0.services) <| lc (mkS (Zv7 p0 y1 [(58, vL Zag p1.enums), (59, vN p1.enums.length), (60, vN v9), (82, vB (!y14))]) (ZCA p0 p1 r8 r10)) ((ZwA p0 p1 y1 r8 v9 r10 y14).m)))
def Zr1 : ZCm := vs (wa v9 1) <| vz (fl r8) <| vz (fl (r10 ++ [e11])) <| vz (fl p0.services) <| ln (ZJc p0 p1 y1 r8) (v9 + 1, r10 ++ [e11])
def Zsa : ZCm := ix p1.enums v9 fun e11 => vw .go <| vw .go <| cl (ZJB y1 e11.name) fun y12 => br (!y12) (vw .go <| vw .go <| vw .sep <| ap r10 (e11 : Enm) <| vw .go <| vz (fl r8) <| vz (fl (r10 ++ [e11])) <| vz (fl p0.services) <| lxc 3 (mkS (Ztx p0 p1 y1 v9) [((1, 3), (Zjl p1)), ((1, 4), ⟨0, true, 26, 3, [.e0, .e0, .e0]⟩), ((1, 7), ⟨0, true, 26, 3, [.ref (1, 19) 0 0 r8.length, .ref (1, 23) 0 0 (r10 ++ [e11]).length, .ref (1, 27) 0 0 p0.services.length]⟩), ((1, 19), ⟨0, true, 48, 5, Zaa Zaj r8⟩), ((1, 23), ⟨0, true, 55, 5, Zaa Zag (r10 ++ [e11])⟩), ((1, 27), ⟨0, true, 62, 3, Zaa Zal p0.services⟩)]) ((Zr1 p0 p1 y1 r8 v9 r10 e11).m)) (vz (fl r8) <| vz (fl r10) <| vz (fl p0.services) <| lc (mkS (Zv7 p0 y1 [(11, .ptr (1, 11) 0 0), (58, vL Zag p1.enums), (59, vN p1.enums.length), (60, vN v9)]) [((1, 3), (Zjl p1)), ((1, 4), Zjg), ((1, 7), ⟨0, true, 26, 3, [.ref (1, 19) 0 0 r8.length, .ref (1, 23) 0 0 r10.length, .ref (1, 27) 0 0 p0.services.length]⟩), ((1, 11), ⟨0, true, 55, 5, [vS e11.name, vB e11.opn, vL Zec e11.items, vL Zdh e11.reserved, vL eNt e11.notes]⟩), ((1, 19), (ZBe r8)), ((1, 23), ⟨0, true, 55, 5, Zaa Zag r10⟩), ((1, 27), ⟨0, true, 62, 3, Zaa Zal p0.services⟩)]) ((ZIP p0 p1 y1 r8 v9 r10 e11).m))
def Zsu : ZCm := br (decide ((v9 : Int) < (p1.enums.length : Int))) (vz (fl r8) <| vz (fl r10) <| vz (fl p0.services) <| lc (mkS (Ztx p0 p1 y1 v9) (ZCA p0 p1 r8 r10)) ((Zsa p0 p1 y1 r8 v9 r10).m)) (vz (fl r8) <| vz (fl r10) <| vz (fl p0.services) <| lxe (ZK7 p0 p1 y1 r8) r10)
def ZCr := fun ((v9, r10) : Nat × List Enm) => (Zsu p0 p1 y1 r8 v9 r10).m
def ZJh : Nat × List Svc → St := fun (v16, r17) => mkS (ZrC p0 p1 y1 v16) (ZCv r8 r15 r17)
def ZMm : List Svc → Nat × St := fun r22 => (4, mkS [(4, .ptr (1, 4) 0 0), (7, .ptr (1, 7) 0 0)] [((1, 4), Zjg), ((1, 7), ⟨0, true, 26, 3, [.ref (1, 19) 0 0 r8.length, .ref (1, 23) 0 0 r15.length, .ref (1, 27) 0 0 r22.length]⟩), ((1, 19), (ZBe r8)), ((1, 23), ⟨0, true, 55, 5, Zaa Zag r15⟩), ((1, 27), ⟨0, true, 62, 3, Zaa Zal r22⟩)])
def ZmR : ZCG := vs (wa v16 1) <| vz (fl r8) <| vz (fl r15) <| vz (fl r17) <| ln (ZJh p0 p1 y1 r8 r15) (v16 + 1, r17)
def ZjW (y21 : Bool) : ZCG := br (!y21) (vw .go <| lrt E6 (fun _ => []) ((.mk [] [] [] : Scm), 9)) (vz (fl r8) <| vz (fl r15) <| vz (fl r17) <| lc (mkS (ZrC p0 p1 y1 v16) (ZCv r8 r15 r17)) ((ZmR p0 p1 y1 r8 r15 v16 r17).m))
def ZtH : ZCG := vw .go <| tw (cl (ZJ7 p0 e18.name) fun y20 => vw .go <| vw .sep <| cl (ZJd y20 ([e18] : List Svc)) fun y21 => vz (fl r8) <| vz (fl r15) <| vz (fl r17) <| lc (mkS (ZKP p0 p1 y1 v16 [(110, vB (!y21))]) (ZCv r8 r15 r17)) ((ZjW p0 p1 y1 r8 r15 v16 r17 y21).m)) (vw .go <| tw (cl (ZJ7 p0 e18.name) fun y20 => vw .sep <| cl (ZJd y20 ([e18] : List Svc)) fun y21 => vz (fl r8) <| vz (fl r15) <| vz (fl r17) <| lc (mkS (ZKP p0 p1 y1 v16 [(110, vB (!y21))]) (ZCv r8 r15 r17)) ((ZjW p0 p1 y1 r8 r15 v16 r17 y21).m)) (vw .sep <| cl (ZJ7 p0 e18.name) fun y20 => cl (ZJd y20 ([e18] : List Svc)) fun y21 => vz (fl r8) <| vz (fl r15) <| vz (fl r17) <| lc (mkS (ZKP p0 p1 y1 v16 [(110, vB (!y21))]) (ZCv r8 r15 r17)) ((ZjW p0 p1 y1 r8 r15 v16 r17 y21).m)))
def ZrT : ZCG := vs (wa v16 1) <| vz (fl r8) <| vz (fl r15) <| vz (fl (r17 ++ [e18])) <| ln (ZJh p0 p1 y1 r8 r15) (v16 + 1, r17 ++ [e18])
def ZuD : ZCG := ix p1.services v16 fun e18 => vw .go <| vw .go <| cl (ZJB y1 e18.name) fun y19 => br (!y19) (vw .go <| vw .go <| vw .sep <| ap r17 (e18 : Svc) <| vw .go <| vz (fl r8) <| vz (fl r15) <| vz (fl (r17 ++ [e18])) <| lxc 5 (mkS (ZrC p0 p1 y1 v16) [((1, 4), ⟨0, true, 26, 3, [.e0, .e0, .e0]⟩), ((1, 7), ⟨0, true, 26, 3, [.ref (1, 19) 0 0 r8.length, .ref (1, 23) 0 0 r15.length, .ref (1, 27) 0 0 (r17 ++ [e18]).length]⟩), ((1, 19), ⟨0, true, 48, 5, Zaa Zaj r8⟩), ((1, 23), ⟨0, true, 55, 5, Zaa Zag r15⟩), ((1, 27), ⟨0, true, 62, 3, Zaa Zal (r17 ++ [e18])⟩)]) ((ZrT p0 p1 y1 r8 r15 v16 r17 e18).m)) (vz (fl r8) <| vz (fl r15) <| vz (fl r17) <| lc (mkS [(2, .iptr (Zeb p0) 0), (4, .ptr (1, 4) 0 0), (6, vL Zan y1), (7, .ptr (1, 7) 0 0), (13, .ptr (1, 13) 0 0), (86, vL Zal p1.services), (87, vN p1.services.length), (88, vN v16)] [((1, 4), Zjg), ((1, 7), ⟨0, true, 26, 3, [.ref (1, 19) 0 0 r8.length, .ref (1, 23) 0 0 r15.length, .ref (1, 27) 0 0 r17.length]⟩), ((1, 13), ⟨0, true, 62, 3, [vS e18.name, vL Zc1 e18.methods, vL eNt e18.notes]⟩), ((1, 19), (ZBe r8)), ((1, 23), ⟨0, true, 55, 5, Zaa Zag r15⟩), ((1, 27), ⟨0, true, 62, 3, Zaa Zal r17⟩)]) ((ZtH p0 p1 y1 r8 r15 v16 r17 e18).m))
def Zr0 : ZCG := br (decide ((v16 : Int) < (p1.services.length : Int))) (vz (fl r8) <| vz (fl r15) <| vz (fl r17) <| lc (mkS (ZrC p0 p1 y1 v16) (ZCv r8 r15 r17)) ((ZuD p0 p1 y1 r8 r15 v16 r17).m)) (vz (fl r8) <| vz (fl r15) <| vz (fl r17) <| lxe (ZMm r8 r15) r17)
def ZCs := fun ((v16, r17) : Nat × List Svc) => (Zr0 p0 p1 y1 r8 r15 v16 r17).m
def ZxV (r22 : List Svc) : ZeL := vw (.frz 19 [] [((1, 7), 0, (r8.map Zaj))]) <| vz (fz r8) <| vw (.frz 23 [] [((1, 7), 1, (r15.map Zag))]) <| vz (fz r15) <| vw (.frz 27 [] [((1, 7), 2, (r22.map Zal))]) <| vz (fz r22) <| vw .sep <| vw .go <| cl (ZM8 (.mk r8 r15 r22 : Scm)) fun y23 => vw .go <| lr E6 (fun _ => []) (y23, 0)
def Zy3 : ZeL := vw .go <| vz (eqL p1.services) <| vz (fl r8) <| vz (fl r15) <| vz (fl p0.services) <| lc (ZJh p0 p1 y1 r8 r15 (0, p0.services)) ((Zad (ZCs p0 p1 y1 r8 r15) big (0, p0.services)).bind (Sum.elim (fun r22 => (ZxV r8 r15 r22).m) some))
def ZBc : ZeL := vw .go <| vz (eqL p1.enums) <| vz (fl r8) <| vz (fl p0.enums) <| vz (fl p0.services) <| lc (ZJc p0 p1 y1 r8 (0, p0.enums)) ((Zad (ZCr p0 p1 y1 r8) big (0, p0.enums)).bind (Sum.elim (fun r15 => (Zy3 p0 p1 y1 r8 r15).m) some))
def ZB9 : ZeL := vw .go <| vz (eqL p1.messages) <| vz (fl p0.messages) <| vz (fl p0.enums) <| vz (fl p0.services) <| lc (ZIO p0 p1 y1 (0, p0.messages)) ((Zad (ZCx p0 p1 y1) big (0, p0.messages)).bind (Sum.elim (fun r8 => (ZBc p0 p1 y1 r8).m) some))
def Zfg : ZeL := vz (fl p0.messages) <| vz (fl p0.enums) <| vz (fl p0.services) <| lc (mkS (Zyf p0 y1) [((1, 3), (Zjl p1)), ((1, 4), Zjg), ((1, 7), ⟨0, true, 26, 3, [.ref (1, 19) 0 0 p0.messages.length, .ref (1, 23) 0 0 p0.enums.length, .ref (1, 27) 0 0 p0.services.length]⟩), ((1, 19), ⟨0, true, 48, 5, Zaa Zaj p0.messages⟩), ((1, 23), ⟨0, true, 55, 5, Zaa Zag p0.enums⟩), ((1, 27), ⟨0, true, 62, 3, Zaa Zal p0.services⟩)]) ((ZB9 p0 p1 y1).m)
def ZzI : ZeL := du (a0 p0.services <| vw .go <| (Zfg p0 p1 y1))
def ZGQ : ZeL := tw ((ZzI p0 p1 y1)) (a0 p0.services <| vw .go <| (Zfg p0 p1 y1))
def Zup : ZeL := tw (a0 p0.enums <| (ZzI p0 p1 y1)) (a0 p0.enums <| a0 p0.services <| vw .go <| (Zfg p0 p1 y1))
def Zr3 : ZeL := du (a0 p0.enums <| a0 p0.services <| vw .go <| (Zfg p0 p1 y1))
def Zz1 : ZeL := tw (a0 p0.enums <| (ZGQ p0 p1 y1)) (tw ((Zup p0 p1 y1)) ((Zr3 p0 p1 y1)))
def ZAe : ZeL := tw ((Zup p0 p1 y1)) (a0 p0.enums <| a0 p0.services <| vw .go <| (Zfg p0 p1 y1))
def ZBL : ZeL := tw ((Zr3 p0 p1 y1)) (a0 p0.enums <| a0 p0.services <| vw .go <| (Zfg p0 p1 y1))
def ZIf : ZeL := tw ((Zz1 p0 p1 y1)) (tw ((ZAe p0 p1 y1)) ((ZBL p0 p1 y1)))
def ZrG : ZeL := tw (a0 p0.messages <| (Zup p0 p1 y1)) (a0 p0.messages <| a0 p0.enums <| a0 p0.services <| vw .go <| (Zfg p0 p1 y1))
def Zuv : ZeL := tw (a0 p0.messages <| (Zr3 p0 p1 y1)) (a0 p0.messages <| a0 p0.enums <| a0 p0.services <| vw .go <| (Zfg p0 p1 y1))
def ZAI : ZeL := tw (a0 p0.messages <| (Zz1 p0 p1 y1)) (tw ((ZrG p0 p1 y1)) ((Zuv p0 p1 y1)))
def ZrW : ZeL := du (a0 p0.messages <| a0 p0.enums <| a0 p0.services <| vw .go <| (Zfg p0 p1 y1))
def Zx0 : ZeL := tw (a0 p0.messages <| (ZAe p0 p1 y1)) (tw ((ZrG p0 p1 y1)) ((ZrW p0 p1 y1)))
def ZBJ : ZeL := tw (a0 p0.messages <| (ZBL p0 p1 y1)) (tw ((Zuv p0 p1 y1)) ((ZrW p0 p1 y1)))
def ZDa : ZeL := tw (a0 p0.messages <| (ZIf p0 p1 y1)) (tw ((ZAI p0 p1 y1)) (tw ((Zx0 p0 p1 y1)) ((ZBJ p0 p1 y1))))
def ZAD : ZeL := tw ((ZrG p0 p1 y1)) (a0 p0.messages <| a0 p0.enums <| a0 p0.services <| vw .go <| (Zfg p0 p1 y1))
def ZzS : ZeL := tw ((Zuv p0 p1 y1)) (a0 p0.messages <| a0 p0.enums <| a0 p0.services <| vw .go <| (Zfg p0 p1 y1))
def ZIa : ZeL := tw ((ZAI p0 p1 y1)) (tw ((ZAD p0 p1 y1)) ((ZzS p0 p1 y1)))
def Zzr : ZeL := tw ((ZrW p0 p1 y1)) (a0 p0.messages <| a0 p0.enums <| a0 p0.services <| vw .go <| (Zfg p0 p1 y1))
def ZDZ : ZeL := tw ((Zx0 p0 p1 y1)) (tw ((ZAD p0 p1 y1)) ((Zzr p0 p1 y1)))
def ZDY : ZeL := tw ((ZBJ p0 p1 y1)) (tw ((ZzS p0 p1 y1)) ((Zzr p0 p1 y1)))
def ZGT : ZeL := tw ((ZDa p0 p1 y1)) (tw ((ZIa p0 p1 y1)) (tw ((ZDZ p0 p1 y1)) ((ZDY p0 p1 y1))))
def ZxP : ZeL := vw (.fzb 2 [2]) <| vw .sep <| (ZGT p0 p1 y1)
def ZB2 : ZeL := vw .go <| cl (ZNZ p0) fun y1 => lc (mkS [(2, .ptr (1, 2) 0 0), (3, .ptr (1, 3) 0 0), (4, .ptr (1, 4) 0 0), (6, vL Zan y1)] [((1, 2), ⟨0, true, 26, 3, [vL Zaj p0.messages, vL Zag p0.enums, vL Zal p0.services]⟩), ((1, 3), (Zjl p1)), ((1, 4), Zjg)]) ((ZxP p0 p1 y1).m)
def ZbL (p0 : Scm) (p1 : Scm) : Option (Scm × Int) := (ZB2 p0 p1).m
section
include co
theorem ZEh : Kl 115 C (pa [0, 0, 1, 0, 1, 1, 1] (Zaf Tryz.f6)) [.cell 4 26, .tmp 5] 0 (ZIO p0 p1 y1) (ZLD p0 p1 y1) E6 (fun _ => []) (ZCx p0 p1 y1) := fun (v2, r3) _ m Q Post hQ L => mi co 2 (ZIT p0 p1 y1 v2 r3) (lf2 Zig Zhm) (lf2 [2, 3, 4, 6, 7] Zhm) hQ m L fun r g => ⟨fun _ m L => sq (bk 1 (mi co 2 (ZJb p0 p1 y1 v2 r3) (lf2 [2, 3, 4, 6, 7, 9, 30, 31, 32] (((1, 3), false) :: ((1, 4), false) :: ((1, 7), false) :: ((1, 9), false) :: ZJ5)) (lf2 Zig Zhm) hQ m L fun r g e4 y5 => ⟨fun _ m L => en co (ZI4 p0 p1 y1 v2 r3 e4) (lf2 Zig Zhm) nl hQ m L fun r g => id, fun _ m L => sq (ZBS co tok tmo (.fst 0 (.fst 1 (.fst 2 (.two 3 4 (.fst 4 (.fst 5 (.fst 6 (.fst 7 .nil)))) (.two 3 5 (.fst 5 (.fst 6 (.fst 7 .nil))) (.fst 3 (.fst 6 (.fst 7 .nil)))))))) [2] (ZIV p0 p1 y1 v2 r3 e4) (lf2 [2, 3, 4, 6, 7, 30, 31, 32, 54] Zhm) m L fun r g => ⟨fun y6 y7 _ m L => en co (ZwO p0 p1 y1 v2 r3 y7) (lf2 Zig Zhm) nl hQ m L fun r g => ⟨id, fun _ m L => en co (ZCB p0 p1 y1 v2 r3) (lf2 Zig Zhm) nl hQ m L fun r g => id⟩, ⟨fun y6 y7 _ m L => en co (ZwO p0 p1 y1 v2 r3 y7) (lf2 Zig Zhm) nl hQ m L fun r g => ⟨id, fun _ m L => en co (ZCB p0 p1 y1 v2 r3) (lf2 Zig Zhm) nl hQ m L fun r g => id⟩, fun y6 y7 _ m L => en co (ZwO p0 p1 y1 v2 r3 y7) (lf2 Zig Zhm) nl hQ m L fun r g => ⟨id, fun _ m L => en co (ZCB p0 p1 y1 v2 r3) (lf2 Zig Zhm) nl hQ m L fun r g => id⟩, fun _ h => h⟩, fun _ h => h⟩)⟩)), id⟩
theorem ZG2 : Kl 115 C (pa [0, 0, 1, 0, 1, 1, 1, 1] (Zaf Tryz.f6)) [.cell 4 26, .tmp 5] 0 (ZJc p0 p1 y1 r8) (ZK7 p0 p1 y1 r8) E6 (fun _ => []) (ZCr p0 p1 y1 r8) := fun (v9, r10) _ m Q Post hQ L => mi co 2 (Zsu p0 p1 y1 r8 v9 r10) (lf2 Zh7 Zhm) (lf2 [2, 3, 4, 6, 7] Zhm) hQ m L fun r g => ⟨fun _ m L => sq (bk 3 (mi co 2 (Zsa p0 p1 y1 r8 v9 r10) (lf2 [2, 3, 4, 6, 7, 11, 58, 59, 60] (((1, 3), false) :: ((1, 4), false) :: ((1, 7), false) :: ((1, 11), false) :: ZJ5)) (lf2 Zh7 Zhm) hQ m L fun r g e11 y12 => ⟨fun _ m L => en co (Zr1 p0 p1 y1 r8 v9 r10 e11) (lf2 Zh7 Zhm) nl hQ m L fun r g => id, fun _ m L => sq (ZBS co tok tmo (.fst 0 (.fst 1 (.fst 2 (.two 3 4 (.fst 4 (.fst 5 (.fst 6 (.fst 7 .nil)))) (.two 3 5 (.fst 5 (.fst 6 (.fst 7 .nil))) (.fst 3 (.fst 6 (.fst 7 .nil)))))))) [2] (ZIP p0 p1 y1 r8 v9 r10 e11) (lf2 [2, 3, 4, 6, 7, 58, 59, 60, 82] Zhm) m L fun r g => ⟨fun y13 y14 _ m L => en co (ZwA p0 p1 y1 r8 v9 r10 y14) (lf2 Zh7 Zhm) nl hQ m L fun r g => ⟨id, fun _ m L => en co (ZCt p0 p1 y1 r8 v9 r10) (lf2 Zh7 Zhm) nl hQ m L fun r g => id⟩, ⟨fun y13 y14 _ m L => en co (ZwA p0 p1 y1 r8 v9 r10 y14) (lf2 Zh7 Zhm) nl hQ m L fun r g => ⟨id, fun _ m L => en co (ZCt p0 p1 y1 r8 v9 r10) (lf2 Zh7 Zhm) nl hQ m L fun r g => id⟩, fun y13 y14 _ m L => en co (ZwA p0 p1 y1 r8 v9 r10 y14) (lf2 Zh7 Zhm) nl hQ m L fun r g => ⟨id, fun _ m L => en co (ZCt p0 p1 y1 r8 v9 r10) (lf2 Zh7 Zhm) nl hQ m L fun r g => id⟩, fun _ h => h⟩, fun _ h => h⟩)⟩)), id⟩
theorem ZF9 : Kl 115 C (pa [0, 0, 1, 0, 1, 1, 1, 1, 1] (Zaf Tryz.f6)) [.cell 4 26, .tmp 5] 0 (ZJh p0 p1 y1 r8 r15) (ZMm r8 r15) E6 (fun _ => []) (ZCs p0 p1 y1 r8 r15) := fun (v16, r17) _ m Q Post hQ L => mi co 2 (Zr0 p0 p1 y1 r8 r15 v16 r17) (lf2 ZiI ZoD) (lf2 [4, 7] ZoD) hQ m L fun r g => ⟨fun _ m L => sq (bk 5 (mi co 2 (ZuD p0 p1 y1 r8 r15 v16 r17) (lf2 [2, 4, 6, 7, 13, 86, 87, 88] (((1, 4), false) :: ((1, 7), false) :: ((1, 13), false) :: ZJ5)) (lf2 ZiI ZoD) hQ m L fun r g e18 y19 => ⟨fun _ m L => en co (ZrT p0 p1 y1 r8 r15 v16 r17 e18) (lf2 ZiI ZoD) nl hQ m L fun r g => id, fun _ m L => sq (ZBS co tok tmo (.fst 0 (.fst 1 (.fst 2 (.two 3 4 (.fst 4 (.fst 5 (.fst 6 (.fst 7 .nil)))) (.two 3 5 (.fst 5 (.fst 6 (.fst 7 .nil))) (.fst 3 (.fst 6 (.fst 7 .nil)))))))) [2] (ZtH p0 p1 y1 r8 r15 v16 r17 e18) (lf2 [2, 4, 6, 7, 86, 87, 88, 110] ZoD) m L fun r g => ⟨fun y20 y21 _ m L => en co (ZjW p0 p1 y1 r8 r15 v16 r17 y21) (lf2 ZiI ZoD) nl hQ m L fun r g => ⟨id, fun _ m L => en co (ZmR p0 p1 y1 r8 r15 v16 r17) (lf2 ZiI ZoD) nl hQ m L fun r g => id⟩, ⟨fun y20 y21 _ m L => en co (ZjW p0 p1 y1 r8 r15 v16 r17 y21) (lf2 ZiI ZoD) nl hQ m L fun r g => ⟨id, fun _ m L => en co (ZmR p0 p1 y1 r8 r15 v16 r17) (lf2 ZiI ZoD) nl hQ m L fun r g => id⟩, fun y20 y21 _ m L => en co (ZjW p0 p1 y1 r8 r15 v16 r17 y21) (lf2 ZiI ZoD) nl hQ m L fun r g => ⟨id, fun _ m L => en co (ZmR p0 p1 y1 r8 r15 v16 r17) (lf2 ZiI ZoD) nl hQ m L fun r g => id⟩, fun _ h => h⟩, fun _ h => h⟩)⟩)), id⟩
end
end
theorem K_6 (p0 : Scm) (p1 : Scm) : KC tp 6 [.agg ((Zeb p0).map .d), .agg ((Zeb p1).map .d)] (ZbL p0 p1) E6 := kc1 Tryz.func6 Tryz.ntmps6 tok [.cell 4 26, .tmp 5] fun C co y m Post L => mi co 2 (ZB2 p0 p1) (lf2 [2, 3, 4, 6] [((1, 2), false), ((1, 3), false), ((1, 4), false)]) nl ii m L fun r g y1 _ m L => sq (ZBS co tok tmo (.fst 1 (.fst 2 (.fst 5 (.fst 6 (.fst 9 (.fst 10 ZKV)))))) [2] (ZxP p0 p1 y1) (lf2 [2, 3, 4, 6, 7] [((1, 3), false), ((1, 4), false), ((1, 7), false), ((1, 19), true), ((1, 23), true), ((1, 27), true)]) m L fun r g => shq (fun LF => shq (fun LN0 => shq (fun LN1 => shq (fun LN2 => shq (fun LN3 => shq (fun LN4 => shq (fun LN5 => shq (fun LN6 => shq (fun LN7 => shq (fun LN8 => shq (fun LN9 => shq (fun LN10 => shq (fun LN11 => shq (fun LN12 => shq (fun LN13 => shq (fun LN14 => shq (fun LN15 => shq (fun LN16 => shq (fun LN17 => shq (fun LN18 => shq (fun LN19 => shq (fun LN20 => shq (fun LN21 => LN21) (⟨LN14, ⟨LN17, ⟨LN19, LN20, fun _ h => h⟩, fun _ h => h⟩, fun _ h => h⟩)) (⟨LN13, ⟨LN16, LN18, fun _ h => h⟩, fun _ h => h⟩)) (⟨LN12, ⟨LN15, LN18, fun _ h => h⟩, fun _ h => h⟩)) (⟨LN11, LF, fun _ h => h⟩)) (⟨LN10, ⟨LN15, LN16, fun _ h => h⟩, fun _ h => h⟩)) (⟨LN9, LF, fun _ h => h⟩)) (⟨LN8, LF, fun _ h => h⟩)) (⟨LN7, ⟨LN10, ⟨LN12, LN13, fun _ h => h⟩, fun _ h => h⟩, fun _ h => h⟩)) (⟨LN6, ⟨LN9, LN11, fun _ h => h⟩, fun _ h => h⟩)) (⟨LN5, ⟨LN8, LN11, fun _ h => h⟩, fun _ h => h⟩)) (LF)) (⟨LN4, ⟨LN8, LN9, fun _ h => h⟩, fun _ h => h⟩)) (⟨LN3, LF, fun _ h => h⟩)) (⟨LN2, LF, fun _ h => h⟩)) (⟨LN4, ⟨LN5, LN6, fun _ h => h⟩, fun _ h => h⟩)) (⟨LN3, LF, fun _ h => h⟩)) (⟨LN2, LF, fun _ h => h⟩)) (⟨LN1, ⟨LN2, LN3, fun _ h => h⟩, fun _ h => h⟩)) (LF)) (⟨LN0, LF, fun _ h => h⟩)) (⟨LN0, LF, fun _ h => h⟩)) (LF)) (fun _ m L => sq (mi co 1 (ZB9 p0 p1 y1) (lf2 [2, 3, 4, 6, 7, 30, 31, 32] [((1, 3), false), ((1, 4), false), ((1, 7), false), ((1, 19), true), ((1, 23), true), ((1, 27), true)]) nl ii m L fun r g _ m L => bk 0 (lo (lpF (ZEh co p0 p1 y1) ii m L (fun r8 m => sq (mi co 1 (ZBc p0 p1 y1 r8) (lf2 [2, 3, 4, 6, 7, 58, 59, 60] [((1, 3), false), ((1, 4), false), ((1, 7), false), ((1, 19), true), ((1, 23), true), ((1, 27), true)]) nl ii m L fun r g _ m L => bk 2 (lo (lpF (ZG2 co p0 p1 y1 r8) ii m L (fun r15 m => sq (mi co 1 (Zy3 p0 p1 y1 r8 r15) (lf2 [2, 4, 6, 7, 86, 87, 88] [((1, 4), false), ((1, 7), false), ((1, 19), true), ((1, 23), true), ((1, 27), true)]) nl ii m L fun r g _ m L => bk 4 (lo (lpF (ZF9 co p0 p1 y1 r8 r15) ii m L (fun r22 m => fo co (ZxV r8 r15 r22) m L fun r g y23 => id))))))))))))))
abbrev E7 : Bool → AV := fun y => vB y
def ZJp (p0 : Scm) (p1 : Scm) : PT 0 (Bool) := vw .go <| vw .go <| cl (ZIM p0.messages p1.messages) fun y1 => vw .go <| vw .go <| clg y1 (ZIZ p0.enums p1.enums) fun y2 => vw .go <| vw .go <| clg (y1 && y2) (ZJd p0.services p1.services) fun y3 => lr E7 (fun _ => []) ((y1 && y2) && y3)
def Zbd (p0 : Scm) (p1 : Scm) : Option (Bool) := (ZJp p0 p1).m
theorem K_7 (p0 : Scm) (p1 : Scm) : KC tp 7 [.agg ((Zeb p0).map .d), .agg ((Zeb p1).map .d)] (Zbd p0 p1) E7 := kc1 Tryz.func7 Tryz.ntmps7 tok [.tmp 4] fun C co y m Post L => fo co (ZJp p0 p1) m L fun r g y1 y2 y3 => id
abbrev E97 : Int → AV := fun y => vI y
def H97 (pf1 : Fil → Option Bool) : Cl := fun no l H θ => (∀ (z0 : Fil) y, pf1 z0 = some y → ZfO tp l no H (θ 1) [.agg ((ZaE z0).map .d)] (vB y))
section
variable {C : Cx} (p0 : List Fil) (pf1 : Fil → Option Bool)
def ZzF : Nat → St := fun v1 => mkS [(0, vL ZaE p0), (1, .fn (.yield 1) [] []), (7, vN p0.length), (8, vN v1)] []
def ZHq : Unit → Nat × St := fun _ => (0, mkS [] [])
def ZIo (v1 : Nat) : PT 0 (Lv (Nat) (Unit) (Int)) := br (decide ((v1 : Int) < (p0.length : Int))) (ix p0 v1 fun e2 => cf tp 1 [.agg ((ZaE e2).map .d)] (pf1 e2) (fun y => vB y) fun y3 => br y3 (lrt E97 (fun _ => []) (v1 : Int)) (vs (wa v1 1) <| ln (ZzF p0) (v1 + 1))) (lxe (ZHq) ())
def ZHQ := fun (v1 : Nat) => (ZIo p0 pf1 v1).m
def ZE4 : PT 0 (Int) := lr E97 (fun _ => []) (-1)
def ZCU : PT 0 (Int) := vz (eqL p0) <| lc (ZzF p0 0) ((Zad (ZHQ p0 pf1) big 0).bind (Sum.elim (fun _ => (ZE4).m) some))
def ZHA : PT 0 (Int) := lc (mkS [(0, vL ZaE p0), (1, .fn (.yield 1) [] [])] []) ((ZCU p0 pf1).m)
def ZcM (p0 : List Fil) (pf1 : Fil → Option Bool) : Option (Int) := (ZHA p0 pf1).m
theorem ZzH (co : CO C 0) (hT : (H97 pf1) C.no C.l C.H0 C.θ) : Kl 19 C (pa [0, 0, 1, 0, 1] (Zaf Tryz.f97)) [.tmp 4] 0 (ZzF p0) (ZHq) E97 (fun _ => []) (ZHQ p0 pf1) := fun v1 _ m Q Post hQ L => en co (ZIo p0 pf1 v1) (lf1 [0, 1, 7, 8]) nl hQ m L fun r g => ⟨fun e2 => ⟨⟨fun y hy => hT _ y hy, by intro r; kernel_rfl, by intro r y; kernel_rfl⟩, fun y3 => ⟨id, id⟩⟩, id⟩
end
theorem ZLJ (p0 : List Fil) (pf1 : Fil → Option Bool) : KO tp 97 0 [vL ZaE p0, .fn (.yield 1) [] []] [] (H97 pf1) (ZcM p0 pf1) E97 (fun _ => []) := ko1 Tryz.func97 Tryz.ntmps97 tok [.tmp 4] 0 (fun C co hT y m Post L => mi co 1 (ZHA p0 pf1) (lf1 [0, 1]) nl ii m L fun r g _ m L => sq (mi co 1 (ZCU p0 pf1) (lf1 [0, 1, 7, 8]) nl ii m L fun r g _ m L => bk 0 (lo (lpF (ZzH p0 pf1 co hT) ii m L (fun _ m => fo co (ZE4) m L fun r g => id)))))
abbrev E98 : Bool → AV := fun y => vB y
@[reducible] def G98 (w0 : Bt) : Bool → List Blk := fun y => [⟨0, true, 9, 1, [vS w0]⟩]
def ZGu (p0 : Fil) (w0 : Bt) : PT 1 (Bool) := vw .go <| vw .go <| lr E98 (G98 w0) (decide (p0.name = w0))
def ZcW (p0 : Fil) (w0 : Bt) : Option (Bool) := (ZGu p0 w0).m
theorem ZMY (p0 : Fil) (w0 : Bt) : KO tp 98 1 [.agg ((ZaE p0).map .d), .ptr (0, 0) 0 0] [⟨0, true, 9, 1, [vS w0]⟩] (fun _ _ _ _ => True) (ZcW p0 w0) E98 (G98 w0) := ko1 Tryz.func98 Tryz.ntmps98 tok [.tmp 3] 1 (fun C co hT y m Post L => fo co (ZGu p0 w0) m L fun r g => id) (hB := fun y => ⟨.inr (by kernel_rfl), rfl, trivial⟩)
abbrev E73 : Int → AV := fun y => vI y
def ZHG (p0 : List Fil) (p1 : Bt) : PT 0 (Int) := cs tp 97 [vL ZaE p0, .fn (.func 98) [] [.ptr (1, 3) 1 0]] [(1, 3)] [((1, 3), ⟨1, true, 9, 1, [vS p1]⟩)] (ZcM p0 (fun (z0 : Fil) => ZcW z0 p1)) (fun y => vI y) fun y1 => lr E73 (fun _ => []) y1
def Ziw (p0 : List Fil) (p1 : Bt) : Option (Int) := (ZHG p0 p1).m
theorem ZCz (p0 : List Fil) (p1 : Bt) : KC tp 73 [vL ZaE p0, vS p1] (Ziw p0 p1) E73 := kc1 Tryz.func73 Tryz.ntmps73 tok [.tmp 4] fun C co y m Post L => fo co (ZHG p0 p1) m L fun r g => ⟨fun y hy => ZaG (ZLJ p0 (fun (z0 : Fil) => ZcW z0 p1)) hy co g [] [((1, 3), ⟨1, true, 9, 1, [vS p1]⟩)] (lkS [(1, .fn (.func 98) [] [.ptr (r.κ (1, 3)) (r.γ (1, 3) + 1) 0])]) (fun H' hg ho => (fun z0 y hz => ZgP (ZMY z0 p1) hz co g [((1, 3), ⟨1, true, 9, 1, [vS p1]⟩)] [] hg (by simp) (fun _ => .top) (fun _ _ => trivial) (fun l H => ⟨fun _ => ⟨rfl, by kernel_rfl⟩, by kernel_rfl, trivial⟩))) (fun H => trivial), fun y1 => id⟩
abbrev ZI9 : Int → AV := fun y => vI y
def ZLC (pf1 : Bt → Option Bool) : Cl := fun no l H θ => (∀ (z0 : Bt) y, pf1 z0 = some y → ZfO tp l no H (θ 1) [vS z0] (vB y))
section
variable {C : Cx} (p0 : List Bt) (pf1 : Bt → Option Bool)
def Zpe : Nat → St := fun v1 => mkS [(0, vL Zan p0), (1, .fn (.yield 1) [] []), (7, vN p0.length), (8, vN v1)] []
def Zu5 : Unit → Nat × St := fun _ => (0, mkS [] [])
def ZwJ (v1 : Nat) : PT 0 (Lv (Nat) (Unit) (Int)) := br (decide ((v1 : Int) < (p0.length : Int))) (ix p0 v1 fun e2 => cf tp 1 [vS e2] (pf1 e2) (fun y => vB y) fun y3 => br y3 (lrt ZI9 (fun _ => []) (v1 : Int)) (vs (wa v1 1) <| ln (Zpe p0) (v1 + 1))) (lxe (Zu5) ())
def Zvc := fun (v1 : Nat) => (ZwJ p0 pf1 v1).m
def ZuX : PT 0 (Int) := lr ZI9 (fun _ => []) (-1)
def ZwT : PT 0 (Int) := vz (eqL p0) <| lc (Zpe p0 0) ((Zad (Zvc p0 pf1) big 0).bind (Sum.elim (fun _ => (ZuX).m) some))
def ZwH : PT 0 (Int) := lc (mkS [(0, vL Zan p0), (1, .fn (.yield 1) [] [])] []) ((ZwT p0 pf1).m)
def Zc8 (p0 : List Bt) (pf1 : Bt → Option Bool) : Option (Int) := (ZwH p0 pf1).m
theorem Zrp (co : CO C 0) (hT : (ZLC pf1) C.no C.l C.H0 C.θ) : Kl 19 C (pa [0, 0, 1, 0, 1] (Zaf Tryz.f125)) [.tmp 4] 0 (Zpe p0) (Zu5) ZI9 (fun _ => []) (Zvc p0 pf1) := fun v1 _ m Q Post hQ L => en co (ZwJ p0 pf1 v1) (lf1 [0, 1, 7, 8]) nl hQ m L fun r g => ⟨fun e2 => ⟨⟨fun y hy => hT _ y hy, by intro r; kernel_rfl, by intro r y; kernel_rfl⟩, fun y3 => ⟨id, id⟩⟩, id⟩
end
theorem ZKe (p0 : List Bt) (pf1 : Bt → Option Bool) : KO tp 125 0 [vL Zan p0, .fn (.yield 1) [] []] [] (ZLC pf1) (Zc8 p0 pf1) ZI9 (fun _ => []) := ko1 Tryz.func125 Tryz.ntmps125 tok [.tmp 4] 0 (fun C co hT y m Post L => mi co 1 (ZwH p0 pf1) (lf1 [0, 1]) nl ii m L fun r g _ m L => sq (mi co 1 (ZwT p0 pf1) (lf1 [0, 1, 7, 8]) nl ii m L fun r g _ m L => bk 0 (lo (lpF (Zrp p0 pf1 co hT) ii m L (fun _ m => fo co (ZuX) m L fun r g => id)))))
abbrev ZLj : Bool → AV := fun y => vB y
def ZMK (pf1 : Bt → Option Bool) : Cl := fun no l H θ => (∀ (z0 : Bt) y, pf1 z0 = some y → ZfO tp l no H (θ 1) [vS z0] (vB y))
def Zwb (p0 : List Bt) (pf1 : Bt → Option Bool) : PT 0 (Bool) := cs tp 125 [vL Zan p0, .fn (.yield 1) [] []] [] [] (Zc8 p0 pf1) (fun y => vI y) fun y1 => lr ZLj (fun _ => []) (decide ((0 : Int) ≤ y1))
def ZcD (p0 : List Bt) (pf1 : Bt → Option Bool) : Option (Bool) := (Zwb p0 pf1).m
theorem ZJS (p0 : List Bt) (pf1 : Bt → Option Bool) : KO tp 101 0 [vL Zan p0, .fn (.yield 1) [] []] [] (ZMK pf1) (ZcD p0 pf1) ZLj (fun _ => []) := ko1 Tryz.func101 Tryz.ntmps101 tok [.tmp 4] 0 (fun C co hT y m Post L => fo co (Zwb p0 pf1) m L fun r g => ⟨fun y hy => ZaG (ZKe p0 pf1) hy co g [] [] (lkS [(1, r.θ 1)]) (fun H' hg ho => (fun z0 y hz => ZaV co g [] ho (hT z0 y hz))) (fun H => trivial), fun y1 => id⟩)
abbrev Zlz : Int → AV := fun y => vI y
@[reducible] def Zlq (p0 : List Int) : Int → List Blk := fun y => [⟨0, true, 3, 1, Zaa Zed p0⟩]
def Zlv (p0 : List Int) (p1 : Int) : Nat → St := fun v1 => mkS [(0, .ref (0, 0) 0 0 p0.length), (1, vI p1), (7, vN p0.length), (8, vN v1)] [((0, 0), ⟨0, true, 3, 1, Zaa Zed p0⟩)]
def Zlr (p0 : List Int) : Unit → Nat × St := fun _ => (0, mkS [] [((0, 0), ⟨0, true, 3, 1, Zaa Zed p0⟩)])
def ZlP (p0 : List Int) (p1 : Int) (v1 : Nat) : PT 1 (Lv (Nat) (Unit) (Int)) := br (decide ((v1 : Int) < (p0.length : Int))) (vs (ir v1 p0.length 1) <| ca p0 v1 fun e2 => br (decide (p1 = e2)) (lrt Zlz (Zlq p0) (v1 : Int)) (vs (wa v1 1) <| vz (fl p0) <| ln (Zlv p0 p1) (v1 + 1))) (vz (fl p0) <| lxe (Zlr p0) ())
def Zle (p0 : List Int) (p1 : Int) := fun (v1 : Nat) => (ZlP p0 p1 v1).m
def Zmc (p0 : List Int) : PT 1 (Int) := lr Zlz (Zlq p0) (-1)
def Zl9 (p0 : List Int) (p1 : Int) : PT 1 (Int) := vz (eqN p0.length) <| vz (fl p0) <| lc (mkS [(0, .ref (0, 0) 0 0 p0.length), (1, vI p1), (7, vN p0.length), (8, vI 0)] [((0, 0), ⟨0, true, 3, 1, Zaa Zed p0⟩)]) ((Zad (Zle p0 p1) big 0).bind (Sum.elim (fun _ => (Zmc p0).m) some))
def ZlG (p0 : List Int) (p1 : Int) : PT 1 (Int) := vz (fl p0) <| lc (mkS [(0, .ref (0, 0) 0 0 p0.length), (1, vI p1)] [((0, 0), ⟨0, true, 3, 1, Zaa Zed p0⟩)]) ((Zl9 p0 p1).m)
def ZeK (p0 : List Int) (p1 : Int) : Option (Int) := (ZlG p0 p1).m
theorem ZnV {C : Cx} (co : CO C 1) (p0 : List Int) (p1 : Int) : Kl 19 C (pa [0, 0, 1, 0, 1] (Zaf Tryz.f124)) [.tmp 4] 1 (Zlv p0 p1) (Zlr p0) Zlz (Zlq p0) (Zle p0 p1) := fun v1 _ m Q Post hQ L => en co (ZlP p0 p1 v1) (lf2 [0, 1, 7, 8] [((0, 0), true)]) (lf2 [] [((0, 0), true)]) hQ m L fun r g => ⟨fun e2 => ⟨id, id⟩, id⟩
theorem Zxe (p0 : List Int) (p1 : Int) : KO tp 124 1 [.ref (0, 0) 0 0 p0.length, vI p1] [⟨0, true, 3, 1, Zaa Zed p0⟩] (fun _ _ _ _ => True) (ZeK p0 p1) Zlz (Zlq p0) := ko1 Tryz.func124 Tryz.ntmps124 tok [.tmp 4] 1 (fun C co hT y m Post L => mi co 1 (ZlG p0 p1) (lf2 [0, 1] [((0, 0), true)]) nl ii m L fun r g _ m L => sq (mi co 1 (Zl9 p0 p1) (lf2 [0, 1, 7, 8] [((0, 0), true)]) nl ii m L fun r g _ m L => bk 0 (lo (lpF (ZnV co p0 p1) ii m L (fun _ m => fo co (Zmc p0) m L fun r g => id))))) (hB := fun y => ⟨.inl (Zak _ _), rfl, trivial⟩)
abbrev ZwG : Bool → AV := fun y => vB y
@[reducible] def Zvt (p0 : List Int) : Bool → List Blk := fun y => [⟨0, true, 3, 1, Zaa Zed p0⟩]
def ZlV (p0 : List Int) (p1 : Int) : PT 1 (Bool) := cs tp 124 [.ref (0, 0) 0 0 p0.length, vI p1] [(0, 0)] [((0, 0), ⟨0, true, 3, 1, Zaa Zed p0⟩)] (ZeK p0 p1) (fun y => vI y) fun y1 => lr ZwG (Zvt p0) (decide ((0 : Int) ≤ y1))
def ZcL (p0 : List Int) (p1 : Int) : Option (Bool) := (ZlV p0 p1).m
theorem Zpl (p0 : List Int) (p1 : Int) : KO tp 100 1 [.ref (0, 0) 0 0 p0.length, vI p1] [⟨0, true, 3, 1, Zaa Zed p0⟩] (fun _ _ _ _ => True) (ZcL p0 p1) ZwG (Zvt p0) := ko1 Tryz.func100 Tryz.ntmps100 tok [.tmp 4] 1 (fun C co hT y m Post L => fo co (ZlV p0 p1) m L fun r g => ⟨fun y hy => ZaG (Zxe p0 p1) hy co g [((0, 0), ⟨0, true, 3, 1, Zaa Zed p0⟩)] [] (lkS []) (fun H' hg ho => trivial) (fun H => ⟨fun _ => ⟨rfl, bz⟩, by kernel_rfl, trivial⟩), fun y1 => id⟩) (hB := fun y => ⟨.inl (Zak _ _), rfl, trivial⟩)
abbrev Zwl : Bool → AV := fun y => vB y
@[reducible] def Zvh (w0 : List Int) (w1 : List Fil) : Bool → List Blk := fun y => [⟨0, true, 87, 1, [.ref (0, 2) 0 0 w0.length]⟩, ⟨0, true, 32, 1, [vL ZaE w1]⟩, ⟨0, true, 3, 1, Zaa Zed w0⟩]
def Zmb (p0 : Bt) (w0 : List Int) (w1 : List Fil) : PT 3 (Bool) := vw .go <| vw .go <| cl (ZCz w1 p0) fun y1 => cs tp 100 [.ref (0, 2) 0 0 w0.length, vI y1] [(0, 2)] [((0, 2), ⟨0, true, 3, 1, Zaa Zed w0⟩)] (ZcL w0 y1) (fun y => vB y) fun y2 => lr Zwl (Zvh w0 w1) (!y2)
def Zb9 (p0 : Bt) (w0 : List Int) (w1 : List Fil) : Option (Bool) := (Zmb p0 w0 w1).m
theorem ZxE (p0 : Bt) (w0 : List Int) (w1 : List Fil) : KO tp 102 3 [vS p0, .ptr (0, 0) 0 0, .ptr (0, 1) 0 0] [⟨0, true, 87, 1, [.ref (0, 2) 0 0 w0.length]⟩, ⟨0, true, 32, 1, [vL ZaE w1]⟩, ⟨0, true, 3, 1, Zaa Zed w0⟩] (fun _ _ _ _ => True) (Zb9 p0 w0 w1) Zwl (Zvh w0 w1) := ko1 Tryz.func102 Tryz.ntmps102 tok [.tmp 4] 3 (fun C co hT y m Post L => fo co (Zmb p0 w0 w1) m L fun r g y1 => ⟨fun y hy => ZaG (Zpl w0 y1) hy co g [((0, 2), ⟨0, true, 3, 1, Zaa Zed w0⟩)] [] (lkS []) (fun H' hg ho => trivial) (fun H => ⟨fun _ => ⟨rfl, bz⟩, by kernel_rfl, trivial⟩), fun y2 => id⟩) (hB := fun y => ⟨.inr (by kernel_rfl), rfl, ⟨.inr (by kernel_rfl), rfl, ⟨.inl (Zak _ _), rfl, trivial⟩⟩⟩)
abbrev ZBg : Bool → AV := fun y => vB y
@[reducible] def ZxQ (w0 : List Int) (w1 : List Fil) : Bool → List Blk := fun y => [⟨0, true, 87, 1, [.ref (0, 2) 0 0 w0.length]⟩, ⟨0, true, 32, 1, [vL ZaE w1]⟩, ⟨0, true, 3, 1, Zaa Zed w0⟩]
def Zqe (p0 : Fil) (w0 : List Int) (w1 : List Fil) : PT 3 (Bool) := vw .go <| vw .go <| vw .go <| cl (ZCz w1 p0.name) fun y1 => cs tp 100 [.ref (0, 2) 0 0 w0.length, vI y1] [(0, 2)] [((0, 2), ⟨0, true, 3, 1, Zaa Zed w0⟩)] (ZcL w0 y1) (fun y => vB y) fun y2 => br y2 (lr ZBg (ZxQ w0 w1) false) (vw .go <| cs tp 101 [vL Zan p0.imports, .fn (.func 102) [] [.ptr (0, 0) 0 0, .ptr (0, 1) 0 0]] [(0, 0), (0, 1), (0, 2)] [((0, 0), ⟨0, true, 87, 1, [.ref (0, 2) 0 0 w0.length]⟩), ((0, 1), ⟨0, true, 32, 1, [vL ZaE w1]⟩), ((0, 2), ⟨0, true, 3, 1, Zaa Zed w0⟩)] (ZcD p0.imports (fun (z0 : Bt) => Zb9 z0 w0 w1)) (fun y => vB y) fun y3 => lr ZBg (ZxQ w0 w1) (!y3))
def Zcx (p0 : Fil) (w0 : List Int) (w1 : List Fil) : Option (Bool) := (Zqe p0 w0 w1).m
theorem ZEH (p0 : Fil) (w0 : List Int) (w1 : List Fil) : KO tp 99 3 [.agg ((ZaE p0).map .d), .ptr (0, 0) 0 0, .ptr (0, 1) 0 0] [⟨0, true, 87, 1, [.ref (0, 2) 0 0 w0.length]⟩, ⟨0, true, 32, 1, [vL ZaE w1]⟩, ⟨0, true, 3, 1, Zaa Zed w0⟩] (fun _ _ _ _ => True) (Zcx p0 w0 w1) ZBg (ZxQ w0 w1) := ko1 Tryz.func99 Tryz.ntmps99 tok [.tmp 4] 3 (fun C co hT y m Post L => fo co (Zqe p0 w0 w1) m L fun r g y1 => ⟨fun y hy => ZaG (Zpl w0 y1) hy co g [((0, 2), ⟨0, true, 3, 1, Zaa Zed w0⟩)] [] (lkS []) (fun H' hg ho => trivial) (fun H => ⟨fun _ => ⟨rfl, bz⟩, by kernel_rfl, trivial⟩), fun y2 => ⟨id, ⟨fun y hy => ZaG (ZJS p0.imports (fun (z0 : Bt) => Zb9 z0 w0 w1)) hy co g [] [((0, 0), ⟨0, true, 87, 1, [.ref (0, 2) 0 0 w0.length]⟩), ((0, 1), ⟨0, true, 32, 1, [vL ZaE w1]⟩), ((0, 2), ⟨0, true, 3, 1, Zaa Zed w0⟩)] (lkS [(1, .fn (.func 102) [] [.ptr (r.κ (0, 0)) (r.γ (0, 0) + 0) 0, .ptr (r.κ (0, 1)) (r.γ (0, 1) + 0) 0])]) (fun H' hg ho => (fun z0 y hz => ZgP (ZxE z0 w0 w1) hz co g [((0, 0), ⟨0, true, 87, 1, [.ref (0, 2) 0 0 w0.length]⟩), ((0, 1), ⟨0, true, 32, 1, [vL ZaE w1]⟩), ((0, 2), ⟨0, true, 3, 1, Zaa Zed w0⟩)] [] hg (by simp) (fun _ => .top) (fun _ _ => trivial) (fun l H => ⟨fun _ => ⟨rfl, by kernel_rfl⟩, by kernel_rfl, ⟨fun _ => ⟨rfl, by kernel_rfl⟩, by kernel_rfl, ⟨fun _ => ⟨rfl, bz⟩, by kernel_rfl, trivial⟩⟩⟩))) (fun H => trivial), fun y3 => id⟩⟩⟩) (hB := fun y => ⟨.inr (by kernel_rfl), rfl, ⟨.inr (by kernel_rfl), rfl, ⟨.inl (Zak _ _), rfl, trivial⟩⟩⟩)
abbrev E74 : List Int → AV := fun y => vL Zed y
section
variable {C : Cx} (p0 : List Fil)
def ZBK : List Int → St := fun r1 => mkS [(1, .ptr (1, 1) 0 0), (3, .ptr (1, 3) 0 0)] [((1, 1), ⟨0, true, 32, 1, [vL ZaE p0]⟩), ((1, 3), ⟨0, true, 87, 1, [.ref (1, 1030) 0 0 r1.length]⟩), ((1, 1030), ⟨0, true, 3, 1, Zaa Zed r1⟩)]
def ZHW : List Int → Nat × St := fun r3 => (0, mkS [(3, .ptr (1, 3) 0 0)] [((1, 3), ⟨0, true, 87, 1, [.ref (1, 1030) 0 0 r3.length]⟩), ((1, 1030), ⟨0, true, 3, 1, Zaa Zed r3⟩)])
def ZHi (r1 : List Int) : PT 0 (Lv (List Int) (List Int) (List Int)) := vw .go <| vz (eqN r1.length) <| vw .go <| vz (eqL p0) <| br (decide ((r1.length : Int) < (p0.length : Int))) (vw .go <| cs tp 97 [vL ZaE p0, .fn (.func 99) [] [.ptr (1, 3) 0 0, .ptr (1, 1) 0 0]] [(1, 3), (1, 1), (1, 1030)] [((1, 3), ⟨0, true, 87, 1, [.ref (1, 1030) 0 0 r1.length]⟩), ((1, 1), ⟨0, true, 32, 1, [vL ZaE p0]⟩), ((1, 1030), ⟨0, true, 3, 1, Zaa Zed r1⟩)] (ZcM p0 (fun (z0 : Fil) => Zcx z0 r1 p0)) (fun y => vI y) fun y2 => br (decide (y2 < (0 : Int))) (vw .go <| vz (fr r1) <| lrt E74 (fun _ => []) r1) (vw .go <| vw .sep <| ap r1 (y2 : Int) <| vw .go <| vz (fl (r1 ++ [y2])) <| ln (ZBK p0) (r1 ++ [y2]))) (vz (fl r1) <| lxe (ZHW) r1)
def ZGG := fun (r1 : List Int) => (ZHi p0 r1).m
def ZE5 (r3 : List Int) : PT 0 (List Int) := vw .go <| vz (fr r3) <| lr E74 (fun _ => []) r3
def ZF3 : PT 0 (List Int) := vw (.adc (1, 3) 0 1030 3 1) <| vz (fl ([] : List Int)) <| lc (ZBK p0 ([] : List Int)) ((Zad (ZGG p0) big ([] : List Int)).bind (Sum.elim (fun r3 => (ZE5 r3).m) some))
def ZEc : PT 0 (List Int) := lc (mkS [(1, .ptr (1, 1) 0 0), (3, .ptr (1, 3) 0 0)] [((1, 1), ⟨0, true, 32, 1, [vL ZaE p0]⟩), ((1, 3), ⟨0, true, 87, 1, [.e0]⟩)]) ((ZF3 p0).m)
def Zip (p0 : List Fil) : Option (List Int) := (ZEc p0).m
theorem ZAC (co : CO C 0) : Kl 21 C (pa [0, 0, 0, 1, 1] (Zaf Tryz.f74)) [.tmp 2] 0 (ZBK p0) (ZHW) E74 (fun _ => []) (ZGG p0) := fun r1 _ m Q Post hQ L => en co (ZHi p0 r1) (lf2 [1, 3] [((1, 1), false), ((1, 3), false), ((1, 1030), true)]) (lf2 [3] [((1, 3), false), ((1, 1030), true)]) hQ m L fun r g => ⟨⟨fun y hy => ZaG (ZLJ p0 (fun (z0 : Fil) => Zcx z0 r1 p0)) hy co g [] [((1, 3), ⟨0, true, 87, 1, [.ref (1, 1030) 0 0 r1.length]⟩), ((1, 1), ⟨0, true, 32, 1, [vL ZaE p0]⟩), ((1, 1030), ⟨0, true, 3, 1, Zaa Zed r1⟩)] (lkS [(1, .fn (.func 99) [] [.ptr (r.κ (1, 3)) (r.γ (1, 3) + 0) 0, .ptr (r.κ (1, 1)) (r.γ (1, 1) + 0) 0])]) (fun H' hg ho => (fun z0 y hz => ZgP (ZEH z0 r1 p0) hz co g [((1, 3), ⟨0, true, 87, 1, [.ref (1, 1030) 0 0 r1.length]⟩), ((1, 1), ⟨0, true, 32, 1, [vL ZaE p0]⟩), ((1, 1030), ⟨0, true, 3, 1, Zaa Zed r1⟩)] [] hg (by simp) (fun _ => .top) (fun _ _ => trivial) (fun l H => ⟨fun _ => ⟨rfl, by kernel_rfl⟩, by kernel_rfl, ⟨fun _ => ⟨rfl, by kernel_rfl⟩, by kernel_rfl, ⟨fun _ => ⟨rfl, bz⟩, by kernel_rfl, trivial⟩⟩⟩))) (fun H => trivial), fun y2 => ⟨id, id⟩⟩, id⟩
end
theorem ZNH (p0 : List Fil) : KC tp 74 [vL ZaE p0] (Zip p0) E74 := kc1 Tryz.func74 Tryz.ntmps74 tok [.tmp 2] fun C co y m Post L => mi co 2 (ZEc p0) (lf2 [1, 3] [((1, 1), false), ((1, 3), false)]) nl ii m L fun r g _ m L => sq (bk 0 (Znw co (ZF3 p0) (lf2 [1, 3] [((1, 1), false), ((1, 3), false), ((1, 1030), true)]) m L fun r g _ m L => lo (lpF (ZAC p0 co) ii m L (fun r3 m => fo co (ZE5 r3) m L fun r g => id))))
abbrev E75 : Bool → AV := fun y => vB y
section
variable {C : Cx} (co : CO C 0) (p0 : List Fil) (p1 : Int) (e4 : Fil) (r1 : List Int) (r2 : List Bool)
abbrev ZCN := PT 0 (Lv (List Int × List Bool) (Unit) (Bool))
abbrev Zua : List (Key × Bool) := [((1, 13), true), ((1, 15), true)]
abbrev ZEU : List (Key × Blk) := [((1, 13), ⟨0, true, 4, 1, Zaa ZCw r2⟩), ((1, 15), ⟨0, true, 3, 1, Zaa Zed r1⟩)]
abbrev ZD3 : List (Nat × AV) := [(0, vL ZaE p0), (1, vI p1), (5, .ref (1, 13) 0 0 r2.length), (6, .ref (1, 15) 0 0 r1.length)]
def ZH0 : List Int × List Bool → St := fun (r1, r2) => mkS (ZD3 p0 p1 r1 r2) (ZEU r1 r2)
def ZDd : Unit → Nat × St := fun _ => (0, mkS [] [])
def ZrU : List Int × Nat × List Bool → St := fun (r5, v6, r7) => mkS [(0, vL ZaE p0), (1, vI p1), (5, .ref (1, 13) 0 0 r7.length), (6, .ref (1, 15) 0 0 r5.length), (28, vL Zan e4.imports), (29, vN e4.imports.length), (30, vN v6)] [((1, 13), ⟨0, true, 4, 1, Zaa ZCw r7⟩), ((1, 15), ⟨0, true, 3, 1, Zaa Zed r5⟩)]
def ZDL : List Bool × List Int → Nat × St := fun (r11, r12) => (2, mkS [(0, vL ZaE p0), (1, vI p1), (5, .ref (1, 13) 0 0 r11.length), (6, .ref (1, 15) 0 0 r12.length)] [((1, 13), ⟨0, true, 4, 1, Zaa ZCw r11⟩), ((1, 15), ⟨0, true, 3, 1, Zaa Zed r12⟩)])
def ZFJ (r5 : List Int) (v6 : Nat) (r7 : List Bool) : PT 0 (Lv (List Int × Nat × List Bool) (List Bool × List Int) (Bool)) := br (decide ((v6 : Int) < (e4.imports.length : Int))) (ix e4.imports v6 fun e8 => cl (ZCz p0 e8) fun y9 => br (decide (y9 = p1)) (lrt E75 (fun _ => []) true) (vs (iri y9 r7.length 1) <| ca r7 y9.toNat fun e10 => br (!e10) (vs (iri y9 r7.length 1) <| vs (st r7 y9.toNat true) <| rn 5 13 r7.length (r7.set y9.toNat true) <| vw .sep <| vw .sep <| ap r5 (y9 : Int) <| vs (wa v6 1) <| vz (fl (r7.set y9.toNat true)) <| vz (fl (r5 ++ [y9])) <| ln (ZrU p0 p1 e4) (r5 ++ [y9], v6 + 1, r7.set y9.toNat true)) (vs (wa v6 1) <| vz (fl r7) <| vz (fl r5) <| ln (ZrU p0 p1 e4) (r5, v6 + 1, r7)))) (vz (fl r7) <| vz (fl r5) <| lxe (ZDL p0 p1) (r7, r5))
def ZD1 := fun ((r5, v6, r7) : List Int × Nat × List Bool) => (ZFJ p0 p1 e4 r5 v6 r7).m
def ZC6 : ZCN := vs (ir 0 r1.length 1) <| ca r1 0 fun e3 => ixi p0 e3 fun e4 => vw .go <| sR r1.length 0 (.nt 1) .no <| rb 6 15 (r1.length - 1) r1 (0 + 1) <| vw .sep <| vw .go <| vz (eqL e4.imports) <| vz (fl r2) <| vz (fl (r1.drop (0 + 1))) <| lc (ZrU p0 p1 e4 (r1.drop (0 + 1), 0, r2)) ((Zad (ZD1 p0 p1 e4) big (r1.drop (0 + 1), 0, r2)).bind (Sum.elim (fun (r11, r12) => some (.nx (r12, r11))) (fun z => some (.rt z))))
def ZGv : ZCN := vz (eqN r1.length) <| br (decide ((0 : Int) < (r1.length : Int))) (vz (fl r2) <| vz (fl r1) <| lc (mkS (ZD3 p0 p1 r1 r2) (ZEU r1 r2)) ((ZC6 p0 p1 r1 r2).m)) (lxe (ZDd) ())
def ZD9 := fun ((r1, r2) : List Int × List Bool) => (ZGv p0 p1 r1 r2).m
def ZEQ : PT 0 (Bool) := lr E75 (fun _ => []) false
def ZEv : PT 0 (Bool) := vz (eqL p0) <| ms p0.length false [vB false] (by first | rfl | kernel_rfl) <| vw .go <| vz (fl (List.replicate p0.length false)) <| vz (fl ([p1] : List Int)) <| lc (ZH0 p0 p1 (([p1] : List Int), List.replicate p0.length false)) ((Zad (ZD9 p0 p1) big (([p1] : List Int), List.replicate p0.length false)).bind (Sum.elim (fun _ => (ZEQ).m) some))
def Zhu (p0 : List Fil) (p1 : Int) : Option (Bool) := (ZEv p0 p1).m
section
include co
theorem Zzs : Kl 53 C (pa [0, 0, 1, 1, 1, 0, 1, 0, 0, 0, 1, 1, 1] (Zaf Tryz.f75)) [.tmp 4] 0 (ZrU p0 p1 e4) (ZDL p0 p1) E75 (fun _ => []) (ZD1 p0 p1 e4) := fun (r5, v6, r7) _ m Q Post hQ L => en co (ZFJ p0 p1 e4 r5 v6 r7) (lf2 [0, 1, 5, 6, 28, 29, 30] Zua) (lf2 [0, 1, 5, 6] Zua) hQ m L fun r g => ⟨fun e8 y9 => ⟨id, fun e10 => ⟨id, id⟩⟩, id⟩
theorem ZBO : Kl 53 C (pa [0, 0, 0, 1, 1, 1] (Zaf Tryz.f75)) [.tmp 4] 0 (ZH0 p0 p1) (ZDd) E75 (fun _ => []) (ZD9 p0 p1) := fun (r1, r2) _ m Q Post hQ L => mi co 1 (ZGv p0 p1 r1 r2) (lf2 [0, 1, 5, 6] Zua) nl hQ m L fun r g => ⟨fun _ m L => bk 1 (mi co 3 (ZC6 p0 p1 r1 r2) (lf2 [0, 1, 5, 6, 28, 29, 30] Zua) nl hQ m L fun r g e3 e4 _ m L => bk 2 (lo (lpL (Zzs co p0 p1 e4) hQ m L (fun (r11, r12) m => by cases m; exact L)))), id⟩
end
end
theorem ZMM (p0 : List Fil) (p1 : Int) : KC tp 75 [vL ZaE p0, vI p1] (Zhu p0 p1) E75 := kc1 Tryz.func75 Tryz.ntmps75 tok [.tmp 4] fun C co y m Post L => mi co 3 (ZEv p0 p1) (lf2 [0, 1, 5, 6] [((1, 13), true), ((1, 15), true)]) nl ii m L fun r g _ m L => sq (bk 0 (lo (lpF (ZBO co p0 p1) ii m L (fun _ m => fo co (ZEQ) m L fun r g => id))))
abbrev E32 : List Int × Bt × Int → AV := fun y => .tup [vL Zed y.1, vS y.2.1, vI y.2.2]
section
variable {C : Cx} (co : CO C 0) (p0 : List Fil) (v4 : Nat) (e5 : Fil)
abbrev ZnY := PT 0 (Lv (Nat) (Unit) (List Int × Bt × Int))
abbrev Znf := PT 0 (List Int × Bt × Int)
abbrev ZyI : List (Nat × AV) := [(0, vL ZaE p0), (38, vL ZaE p0), (39, vN p0.length), (40, vN v4)]
def Zyp : Nat → St := fun v1 => mkS [(0, vL ZaE p0), (22, vL ZaE p0), (23, vN p0.length), (24, vN v1)] []
def ZGe : Unit → Nat × St := fun _ => (0, mkS [(0, vL ZaE p0)] [])
def ZFH (v1 : Nat) : ZnY := br (decide ((v1 : Int) < (p0.length : Int))) (ix p0 v1 fun e2 => vw .go <| vw .go <| cl (ZCz p0 e2.name) fun y3 => br (decide (y3 < (v1 : Int))) (vw .go <| lrt E32 (fun _ => []) ([], e2.name, 9)) (vs (wa v1 1) <| ln (Zyp p0) (v1 + 1))) (lxe (ZGe p0) ())
def ZFz := fun (v1 : Nat) => (ZFH p0 v1).m
def Zxx : Nat → St := fun v4 => mkS (ZyI p0 v4) []
def ZDI : Unit → Nat × St := fun _ => (2, mkS [(0, vL ZaE p0)] [])
def ZyH : Nat → St := fun v6 => mkS [(0, vL ZaE p0), (8, .ptr (1, 8) 0 0), (38, vL ZaE p0), (39, vN p0.length), (40, vN v4), (45, vL Zan e5.imports), (46, vN e5.imports.length), (47, vN v6)] [((1, 8), ⟨0, true, 86, 6, [vS e5.name, vS e5.space, vL Zan e5.imports, vL Zaj e5.messages, vL Zag e5.enums, vL Zal e5.services]⟩)]
def ZDQ : Unit → Nat × St := fun _ => (4, mkS (ZyI p0 v4) [])
def ZH6 (v6 : Nat) : ZnY := br (decide ((v6 : Int) < (e5.imports.length : Int))) (ix e5.imports v6 fun e7 => cl (ZCz p0 e7) fun y8 => br (decide (y8 < (0 : Int))) (vw .go <| lrt E32 (fun _ => []) ([], e5.name, 10)) (vs (wa v6 1) <| ln (ZyH p0 v4 e5) (v6 + 1))) (lxe (ZDQ p0 v4) ())
def ZF0 := fun (v6 : Nat) => (ZH6 p0 v4 e5 v6).m
def ZIb : ZnY := vs (wa v4 1) <| ln (Zxx p0) (v4 + 1)
def ZFQ : ZnY := ix p0 v4 fun e5 => vw .go <| vw .go <| vz (eqL e5.imports) <| lc (ZyH p0 v4 e5 0) ((Zad (ZF0 p0 v4 e5) big 0).bind (Sum.elim (fun _ => (ZIb p0 v4).m) (fun z => some (.rt z))))
def ZIj : ZnY := br (decide ((v4 : Int) < (p0.length : Int))) (lc (mkS (ZyI p0 v4) []) ((ZFQ p0 v4).m)) (lxe (ZDI p0) ())
def ZGI := fun (v4 : Nat) => (ZIj p0 v4).m
def ZxI : Nat → St := fun v10 => mkS [(0, vL ZaE p0), (67, vL ZaE p0), (68, vN p0.length), (69, vN v10)] []
def ZFv : Unit → Nat × St := fun _ => (6, mkS [] [])
def ZDX (v10 : Nat) : ZnY := br (decide ((v10 : Int) < (p0.length : Int))) (ix p0 v10 fun e11 => vw .go <| cl (ZMM p0 (v10 : Int)) fun y12 => br y12 (vw .go <| lrt E32 (fun _ => []) ([], e11.name, 19)) (vs (wa v10 1) <| ln (ZxI p0) (v10 + 1))) (lxe (ZFv) ())
def ZCM := fun (v10 : Nat) => (ZDX p0 v10).m
def ZEK : Znf := lr E32 (fun _ => []) ([], ⟨#[]⟩, 19)
def ZEa : Znf := vz (eqL p0) <| lc (ZxI p0 0) ((Zad (ZCM p0) big 0).bind (Sum.elim (fun _ => (ZEK).m) some))
def ZCX : Znf := cl (ZNH p0) fun y9 => vz (eqL y9) <| vz (eqL p0) <| br (decide ((y9.length : Int) = (p0.length : Int))) (lr E32 (fun _ => []) (y9, ⟨#[]⟩, 0)) (lc (mkS [(0, vL ZaE p0)] []) ((ZEa p0).m))
def Zwr : Znf := vz (eqL p0) <| lc (Zxx p0 0) ((Zad (ZGI p0) big 0).bind (Sum.elim (fun _ => (ZCX p0).m) some))
def ZvO : Znf := vz (eqL p0) <| lc (Zyp p0 0) ((Zad (ZFz p0) big 0).bind (Sum.elim (fun _ => (Zwr p0).m) some))
def ZvL : Znf := vz (eqL p0) <| vy (!(decide ((p0.length : Int) < (1 : Int)))) (eqL p0) <| br (decide ((p0.length : Int) < (1 : Int)) || decide ((16 : Int) < (p0.length : Int))) (lr E32 (fun _ => []) ([], ⟨#[]⟩, 3)) (lc (mkS [(0, vL ZaE p0)] []) ((ZvO p0).m))
def Zjy (p0 : List Fil) : Option (List Int × Bt × Int) := (ZvL p0).m
section
include co
theorem Zzo : Kl 80 C (pa [0, 0, 1, 0, 1, 1] (Zaf Tryz.f32)) [.tmp 2, .tmp 3, .tmp 4] 0 (Zyp p0) (ZGe p0) E32 (fun _ => []) (ZFz p0) := fun v1 _ m Q Post hQ L => en co (ZFH p0 v1) (lf1 [0, 22, 23, 24]) (lf1 [0]) hQ m L fun r g => ⟨fun e2 y3 => ⟨id, id⟩, id⟩
theorem ZAt : Kl 80 C (pa [0, 0, 1, 1, 0, 0, 1, 1, 0, 0, 1, 0, 1, 1, 1] (Zaf Tryz.f32)) [.tmp 2, .tmp 3, .tmp 4] 0 (ZyH p0 v4 e5) (ZDQ p0 v4) E32 (fun _ => []) (ZF0 p0 v4 e5) := fun v6 _ m Q Post hQ L => en co (ZH6 p0 v4 e5 v6) (lf2 [0, 8, 38, 39, 40, 45, 46, 47] [((1, 8), false)]) (lf1 [0, 38, 39, 40]) hQ m L fun r g => ⟨fun e7 y8 => ⟨id, id⟩, id⟩
theorem Zx4 : Kl 80 C (pa [0, 0, 1, 0, 1, 1, 1] (Zaf Tryz.f32)) [.tmp 2, .tmp 3, .tmp 4] 0 (Zxx p0) (ZDI p0) E32 (fun _ => []) (ZGI p0) := fun v4 _ m Q Post hQ L => mi co 2 (ZIj p0 v4) (lf1 [0, 38, 39, 40]) (lf1 [0]) hQ m L fun r g => ⟨fun _ m L => sq (bk 3 (mi co 2 (ZFQ p0 v4) (lf2 [0, 8, 38, 39, 40, 45, 46, 47] [((1, 8), false)]) nl hQ m L fun r g e5 _ m L => bk 4 (lo (lpL (ZAt co p0 v4 e5) hQ m L (fun _ m => en co (ZIb p0 v4) (lf1 [0, 38, 39, 40]) nl hQ m L fun r g => id))))), id⟩
theorem ZCj : Kl 80 C (pa [0, 0, 1, 0, 1, 1, 1, 1, 1, 1] (Zaf Tryz.f32)) [.tmp 2, .tmp 3, .tmp 4] 0 (ZxI p0) (ZFv) E32 (fun _ => []) (ZCM p0) := fun v10 _ m Q Post hQ L => en co (ZDX p0 v10) (lf1 [0, 67, 68, 69]) nl hQ m L fun r g => ⟨fun e11 y12 => ⟨id, id⟩, id⟩
end
end
theorem ZM9 (p0 : List Fil) : KC tp 32 [vL ZaE p0] (Zjy p0) E32 := kc1 Tryz.func32 Tryz.ntmps32 tok [.tmp 2, .tmp 3, .tmp 4] fun C co y m Post L => mi co 2 (ZvL p0) (lf1 [0]) nl ii m L fun r g => ⟨id, fun _ m L => sq (mi co 1 (ZvO p0) (lf1 [0, 22, 23, 24]) nl ii m L fun r g _ m L => bk 0 (lo (lpF (Zzo co p0) ii m L (fun _ m => sq (mi co 1 (Zwr p0) (lf1 [0, 38, 39, 40]) nl ii m L fun r g _ m L => bk 2 (lo (lpF (Zx4 co p0) ii m L (fun _ m => mi co 2 (ZCX p0) (lf1 [0]) nl ii m L fun r g y9 => ⟨id, fun _ m L => sq (mi co 1 (ZEa p0) (lf1 [0, 67, 68, 69]) nl ii m L fun r g _ m L => bk 6 (lo (lpF (ZCj co p0) ii m L (fun _ m => fo co (ZEK) m L fun r g => id))))⟩))))))))⟩
abbrev E35 : Bt → AV := fun y => vS y
def ZIB (p0 : Bt) (p1 : Bt) : PT 0 (Bt) := br (decide (p0 = (⟨#[]⟩ : Bt))) (lr E35 (fun _ => []) p1) (ad p0 (⟨#[46]⟩ : Bt) fun s1 => ad s1 p1 fun s2 => lr E35 (fun _ => []) s2)
def Zi2 (p0 : Bt) (p1 : Bt) : Option (Bt) := (ZIB p0 p1).m
theorem ZAW (p0 : Bt) (p1 : Bt) : KC tp 35 [vS p0, vS p1] (Zi2 p0 p1) E35 := kc1 Tryz.func35 Tryz.ntmps35 tok [.tmp 4] fun C co y m Post L => fo co (ZIB p0 p1) m L fun r g => ⟨id, fun s1 s2 => id⟩
abbrev E34 : List Bt × List Bt × List Bt → AV := fun y => .tup [vL Zan y.1, vL Zan y.2.1, vL Zan y.2.2]
section
variable {C : Cx} (co : CO C 0) (p0 : Fil) (r5 r10 : List Bt)
abbrev Zj6 := PT 0 (List Bt × List Bt × List Bt)
abbrev Ziq : Blk := ⟨0, true, 86, 6, [vS p0.name, vS p0.space, vL Zan p0.imports, vL Zaj p0.messages, vL Zag p0.enums, vL Zal p0.services]⟩
abbrev ZkZ : Blk := ⟨0, true, 9, 1, Zaa Zan r5⟩
abbrev ZtL : Blk := ⟨0, true, 9, 1, Zaa Zan r10⟩
abbrev ZnQ (t : List (Nat × AV)) : List (Nat × AV) := (1, .ptr (1, 1) 0 0) :: (2, .ref (1, 2) 0 0 r5.length) :: t
def ZBv : List Bt × Nat → St := fun (r1, v2) => mkS [(1, .ptr (1, 1) 0 0), (2, .ref (1, 2) 0 0 r1.length), (3, .e0), (4, .e0), (12, vL Zaj p0.messages), (13, vN p0.messages.length), (14, vN v2)] [((1, 1), (Ziq p0)), ((1, 2), ⟨0, true, 9, 1, Zaa Zan r1⟩)]
def ZHd : List Bt → Nat × St := fun r5 => (0, mkS (ZnQ r5 [(3, .e0), (4, .e0)]) [((1, 1), (Ziq p0)), ((1, 2), (ZkZ r5))])
def ZDs (r1 : List Bt) (v2 : Nat) : PT 0 (Lv (List Bt × Nat) (List Bt) (List Bt × List Bt × List Bt)) := br (decide ((v2 : Int) < (p0.messages.length : Int))) (ix p0.messages v2 fun e3 => vw .go <| vw .go <| vw .go <| cl (ZAW p0.space e3.name) fun y4 => vw .sep <| ap r1 (y4 : Bt) <| vs (wa v2 1) <| vz (fl (r1 ++ [y4])) <| ln (ZBv p0) (r1 ++ [y4], v2 + 1)) (vz (fl r1) <| lxe (ZHd p0) r1)
def ZGj := fun ((r1, v2) : List Bt × Nat) => (ZDs p0 r1 v2).m
def ZxK : List Bt × Nat → St := fun (r6, v7) => mkS (ZnQ r5 [(3, .ref (1, 3) 0 0 r6.length), (4, .e0), (28, vL Zag p0.enums), (29, vN p0.enums.length), (30, vN v7)]) [((1, 1), (Ziq p0)), ((1, 2), (ZkZ r5)), ((1, 3), ⟨0, true, 9, 1, Zaa Zan r6⟩)]
def ZGB : List Bt → Nat × St := fun r10 => (2, mkS (ZnQ r5 [(3, .ref (1, 3) 0 0 r10.length), (4, .e0)]) [((1, 1), (Ziq p0)), ((1, 2), (ZkZ r5)), ((1, 3), (ZtL r10))])
def ZD4 (r6 : List Bt) (v7 : Nat) : PT 0 (Lv (List Bt × Nat) (List Bt) (List Bt × List Bt × List Bt)) := br (decide ((v7 : Int) < (p0.enums.length : Int))) (ix p0.enums v7 fun e8 => vw .go <| vw .go <| vw .go <| cl (ZAW p0.space e8.name) fun y9 => vw .sep <| ap r6 (y9 : Bt) <| vs (wa v7 1) <| vz (fl r5) <| vz (fl (r6 ++ [y9])) <| ln (ZxK p0 r5) (r6 ++ [y9], v7 + 1)) (vz (fl r5) <| vz (fl r6) <| lxe (ZGB p0 r5) r6)
def ZHt := fun ((r6, v7) : List Bt × Nat) => (ZD4 p0 r5 r6 v7).m
def ZyS : List Bt × Nat → St := fun (r11, v12) => mkS (ZnQ r5 [(3, .ref (1, 3) 0 0 r10.length), (4, .ref (1, 4) 0 0 r11.length), (44, vL Zal p0.services), (45, vN p0.services.length), (46, vN v12)]) [((1, 1), (Ziq p0)), ((1, 2), (ZkZ r5)), ((1, 3), (ZtL r10)), ((1, 4), ⟨0, true, 9, 1, Zaa Zan r11⟩)]
def ZIl : List Bt → Nat × St := fun r15 => (4, mkS [(2, .ref (1, 2) 0 0 r5.length), (3, .ref (1, 3) 0 0 r10.length), (4, .ref (1, 4) 0 0 r15.length)] [((1, 2), (ZkZ r5)), ((1, 3), (ZtL r10)), ((1, 4), ⟨0, true, 9, 1, Zaa Zan r15⟩)])
def ZD8 (r11 : List Bt) (v12 : Nat) : PT 0 (Lv (List Bt × Nat) (List Bt) (List Bt × List Bt × List Bt)) := br (decide ((v12 : Int) < (p0.services.length : Int))) (ix p0.services v12 fun e13 => vw .go <| vw .go <| vw .go <| cl (ZAW p0.space e13.name) fun y14 => vw .sep <| ap r11 (y14 : Bt) <| vs (wa v12 1) <| vz (fl r5) <| vz (fl r10) <| vz (fl (r11 ++ [y14])) <| ln (ZyS p0 r5 r10) (r11 ++ [y14], v12 + 1)) (vz (fl r5) <| vz (fl r10) <| vz (fl r11) <| lxe (ZIl r5 r10) r11)
def ZFp := fun ((r11, v12) : List Bt × Nat) => (ZD8 p0 r5 r10 r11 v12).m
def ZE0 (r15 : List Bt) : Zj6 := vz (fr r5) <| vz (fr r10) <| vz (fr r15) <| lr E34 (fun _ => []) (r5, r10, r15)
def ZDl : Zj6 := vw (.ads 4 4 9 1) <| vz (fl r5) <| vz (fl r10) <| vz (fl ([] : List Bt)) <| lc (ZyS p0 r5 r10 (([] : List Bt), 0)) ((Zad (ZFp p0 r5 r10) big (([] : List Bt), 0)).bind (Sum.elim (fun r15 => (ZE0 r5 r10 r15).m) some))
def ZGf : Zj6 := vw .go <| vz (eqL p0.services) <| vz (fl r5) <| vz (fl r10) <| lc (mkS (ZnQ r5 [(3, .ref (1, 3) 0 0 r10.length), (4, .e0), (44, vL Zal p0.services), (45, vN p0.services.length), (46, vI 0)]) [((1, 1), (Ziq p0)), ((1, 2), (ZkZ r5)), ((1, 3), (ZtL r10))]) ((ZDl p0 r5 r10).m)
def ZEp : Zj6 := vw (.ads 3 3 9 1) <| vz (fl r5) <| vz (fl ([] : List Bt)) <| lc (ZxK p0 r5 (([] : List Bt), 0)) ((Zad (ZHt p0 r5) big (([] : List Bt), 0)).bind (Sum.elim (fun r10 => (ZGf p0 r5 r10).m) some))
def ZH5 : Zj6 := vw .go <| vz (eqL p0.enums) <| vz (fl r5) <| lc (mkS (ZnQ r5 [(3, .e0), (4, .e0), (28, vL Zag p0.enums), (29, vN p0.enums.length), (30, vI 0)]) [((1, 1), (Ziq p0)), ((1, 2), (ZkZ r5))]) ((ZEp p0 r5).m)
def ZIw : Zj6 := vw (.ads 2 2 9 1) <| vz (fl ([] : List Bt)) <| lc (ZBv p0 (([] : List Bt), 0)) ((Zad (ZGj p0) big (([] : List Bt), 0)).bind (Sum.elim (fun r5 => (ZH5 p0 r5).m) some))
def Zvj : Zj6 := vw .go <| vz (eqL p0.messages) <| lc (mkS [(1, .ptr (1, 1) 0 0), (2, .e0), (3, .e0), (4, .e0), (12, vL Zaj p0.messages), (13, vN p0.messages.length), (14, vI 0)] [((1, 1), (Ziq p0))]) ((ZIw p0).m)
def ZwL : Zj6 := lc (mkS [(1, .ptr (1, 1) 0 0), (2, .e0), (3, .e0), (4, .e0)] [((1, 1), (Ziq p0))]) ((Zvj p0).m)
def ZnF (p0 : Fil) : Option (List Bt × List Bt × List Bt) := (ZwL p0).m
section
include co
theorem Zy4 : Kl 62 C (pa [0, 0, 1, 0, 1] (Zaf Tryz.f34)) [.tmp 2, .tmp 3, .tmp 4] 0 (ZBv p0) (ZHd p0) E34 (fun _ => []) (ZGj p0) := fun (r1, v2) _ m Q Post hQ L => en co (ZDs p0 r1 v2) (lf2 [1, 2, 3, 4, 12, 13, 14] [((1, 1), false), ((1, 2), true)]) (lf2 [1, 2, 3, 4] [((1, 1), false), ((1, 2), true)]) hQ m L fun r g => ⟨fun e3 y4 => id, id⟩
theorem ZxY : Kl 62 C (pa [0, 0, 1, 0, 1, 1] (Zaf Tryz.f34)) [.tmp 2, .tmp 3, .tmp 4] 0 (ZxK p0 r5) (ZGB p0 r5) E34 (fun _ => []) (ZHt p0 r5) := fun (r6, v7) _ m Q Post hQ L => en co (ZD4 p0 r5 r6 v7) (lf2 [1, 2, 3, 4, 28, 29, 30] [((1, 1), false), ((1, 2), true), ((1, 3), true)]) (lf2 [1, 2, 3, 4] [((1, 1), false), ((1, 2), true), ((1, 3), true)]) hQ m L fun r g => ⟨fun e8 y9 => id, id⟩
theorem ZAJ : Kl 62 C (pa [0, 0, 1, 0, 1, 1, 1] (Zaf Tryz.f34)) [.tmp 2, .tmp 3, .tmp 4] 0 (ZyS p0 r5 r10) (ZIl r5 r10) E34 (fun _ => []) (ZFp p0 r5 r10) := fun (r11, v12) _ m Q Post hQ L => en co (ZD8 p0 r5 r10 r11 v12) (lf2 [1, 2, 3, 4, 44, 45, 46] [((1, 1), false), ((1, 2), true), ((1, 3), true), ((1, 4), true)]) (lf2 [2, 3, 4] [((1, 2), true), ((1, 3), true), ((1, 4), true)]) hQ m L fun r g => ⟨fun e13 y14 => id, id⟩
end
end
theorem ZIJ (p0 : Fil) : KC tp 34 [.agg ((ZaE p0).map .d)] (ZnF p0) E34 := kc1 Tryz.func34 Tryz.ntmps34 tok [.tmp 2, .tmp 3, .tmp 4] fun C co y m Post L => mi co 1 (ZwL p0) (lf2 [1, 2, 3, 4] [((1, 1), false)]) nl ii m L fun r g _ m L => sq (mi co 1 (Zvj p0) (lf2 [1, 2, 3, 4, 12, 13, 14] [((1, 1), false)]) nl ii m L fun r g _ m L => bk 0 (Znw co (ZIw p0) (lf2 [1, 2, 3, 4, 12, 13, 14] [((1, 1), false), ((1, 2), true)]) m L fun r g _ m L => lo (lpF (Zy4 co p0) ii m L (fun r5 m => sq (mi co 1 (ZH5 p0 r5) (lf2 [1, 2, 3, 4, 28, 29, 30] [((1, 1), false), ((1, 2), true)]) nl ii m L fun r g _ m L => bk 2 (Znw co (ZEp p0 r5) (lf2 [1, 2, 3, 4, 28, 29, 30] [((1, 1), false), ((1, 2), true), ((1, 3), true)]) m L fun r g _ m L => lo (lpF (ZxY co p0 r5) ii m L (fun r10 m => sq (mi co 1 (ZGf p0 r5 r10) (lf2 [1, 2, 3, 4, 44, 45, 46] [((1, 1), false), ((1, 2), true), ((1, 3), true)]) nl ii m L fun r g _ m L => bk 4 (Znw co (ZDl p0 r5 r10) (lf2 [1, 2, 3, 4, 44, 45, 46] [((1, 1), false), ((1, 2), true), ((1, 3), true), ((1, 4), true)]) m L fun r g _ m L => lo (lpF (ZAJ co p0 r5 r10) ii m L (fun r15 m => fo co (ZE0 r5 r10 r15) m L fun r g => id))))))))))))
def ZGH : Go.Shelf.Ren := ⟨fun | 4 => 81 | n => n, fun | 22 => 36 | 25 => 9 | n => n, fun n => n⟩
theorem Zxq : Go.Proofs.Lays8.n4 tp ZGH := {
 mixed := by kernel_rfl,
 f4 := ⟨Tryz.f81.name, by decide +kernel, Tryz.func81.trans (congrArg some (by kernel_rfl))⟩,
 t0 := Tryz.underlying0,
 a0 := Tryz.isAgg0,
 z0 := Tryz.sizeOf0,
 v0 := Tryz.zeroValue0,
 t3 := Tryz.underlying3,
 a3 := Tryz.isAgg3,
 z3 := Tryz.sizeOf3,
 v3 := Tryz.zeroValue3,
 t4 := Tryz.underlying4,
 a4 := Tryz.isAgg4,
 z4 := Tryz.sizeOf4,
 v4 := Tryz.zeroValue4,
 t9 := Tryz.underlying9,
 a9 := Tryz.isAgg9,
 z9 := Tryz.sizeOf9,
 v9 := Tryz.zeroValue9,
 t20 := Tryz.underlying20,
 a20 := Tryz.isAgg20,
 z20 := Tryz.sizeOf20,
 v20 := Tryz.zeroValue20,
 t22 := Tryz.underlying36,
 a22 := Tryz.isAgg36,
 z22 := Tryz.sizeOf36,
 v22 := Tryz.zeroValue36 }
abbrev E81 : List Bt → AV := fun y => .ref (0, 0) 1 0 y.length
@[reducible] def G81 : List Bt → List Blk := fun y => [⟨1, true, 9, 1, Zaa Zan y⟩]
def ZhV (n : Nat) : Option (List Bt) := if n < 549755813888 then some [] else none
theorem ZN3 (n : Nat) : KO tp 81 1 [.e0, vN n] [⟨0, false, 0, 0, []⟩] (fun _ _ _ _ => True) (ZhV n) E81 G81 := ⟨fun l H ks gs θ hks hlow hnd hH _ y hy => by
 obtain ⟨h0, hy⟩ := Zax hy
 cases hy
 match ks, hks with
 | [k0], _ =>
  have hi : ∃ i0 z, (Tryz.prog).info? 9 = some i0 ∧ i0.zero = some z ∧ i0.size = 1 ∧ z.cells.size = i0.size ∧ i0.bytes ≤ 256 := ⟨_, _, rfl, rfl, rfl, by decide +kernel, by decide +kernel⟩
  obtain ⟨i0, z, h1, h2, h3, h4, h5⟩ := hi
  exact ZmJ Zxq i0 z h1 h2 (by rw [h3]; decide) h4 h5 ⟨_, Zaf Tryz.f81, Tryz.func81, by kernel_rfl, by kernel_rfl⟩ hlow.1 hH.1.1 n h0 (by rw [h3]; exact ⟨rfl, rfl⟩)⟩
abbrev E40 : List Bt → AV := fun y => .ref (0, 0) 1 0 y.length
@[reducible] def G40 : List Bt → List Blk := fun y => [⟨1, true, 9, 1, Zaa Zan y⟩]
section
variable {C : Cx} (co : CO C 1) (p0 : List (List Bt)) (y5 : List Bt)
abbrev ZmM := PT 1 (List Bt)
def ZBa : Nat × Nat → St := fun (v1, v2) => mkS [(0, vL Zcr p0), (3, vN v1), (9, vL Zcr p0), (10, vN p0.length), (11, vN v2)] []
def ZEW : Nat → Nat × St := fun v4 => (0, mkS [(0, vL Zcr p0), (3, vN v4)] [])
def ZHw (v1 : Nat) (v2 : Nat) : PT 1 (Lv (Nat × Nat) (Nat) (List Bt)) := br (decide ((v2 : Int) < (p0.length : Int))) (ix p0 v2 fun e3 => vz (eqL e3) <| vs (wa v1 e3.length) <| br (decide (((v1 + e3.length : Nat) : Int) < (0 : Int))) (dd) (vs (wa v2 1) <| ln (ZBa p0) (v1 + e3.length, v2 + 1))) (lxe (ZEW p0) v1)
def ZEC := fun ((v1, v2) : Nat × Nat) => (ZHw p0 v1 v2).m
def Zw9 : List Bt × Nat → St := fun (r6, v7) => mkS [(6, .ref (1, 24) 0 0 r6.length), (25, vL Zcr p0), (26, vN p0.length), (27, vN v7)] [((1, 24), ⟨0, true, 9, 1, Zaa Zan r6⟩)]
def ZGM : List Bt → Nat × St := fun r9 => (2, mkS [(6, .ref (1, 24) 0 0 r9.length)] [((1, 24), ⟨0, true, 9, 1, Zaa Zan r9⟩)])
def ZFl (r6 : List Bt) (v7 : Nat) : PT 1 (Lv (List Bt × Nat) (List Bt) (List Bt)) := br (decide ((v7 : Int) < (p0.length : Int))) (ix p0 v7 fun e8 => aq r6 e8 <| vs (wa v7 1) <| vz (fl (r6 ++ e8)) <| ln (Zw9 p0) (r6 ++ e8, v7 + 1)) (vz (fl r6) <| lxe (ZGM) r6)
def ZE2 := fun ((r6, v7) : List Bt × Nat) => (ZFl p0 r6 v7).m
def ZG1 (r9 : List Bt) : ZmM := vw .sep <| mv 24 0 r9 <| lr E40 (G40) r9
def ZHV : ZmM := vz (eqL p0) <| vz (fl y5) <| lc (Zw9 p0 (y5, 0)) ((Zad (ZE2 p0) big (y5, 0)).bind (Sum.elim (fun r9 => (ZG1 r9).m) some))
def ZGr : ZmM := vz (fl y5) <| lc (mkS [(0, vL Zcr p0), (6, .ref (1, 24) 0 0 y5.length)] [((1, 24), ⟨0, true, 9, 1, Zaa Zan y5⟩)]) ((ZHV p0 y5).m)
def ZH3 (v4 : Nat) : ZmM := lc (mkS [(0, vL Zcr p0), (23, vN v4)] []) ((ZhV v4).bind fun y5 => (ZGr p0 y5).m)
def ZHp : ZmM := vz (eqL p0) <| lc (ZBa p0 (0, 0)) ((Zad (ZEC p0) big (0, 0)).bind (Sum.elim (fun v4 => (ZH3 p0 v4).m) some))
def ZF8 : ZmM := lc (mkS [(0, vL Zcr p0), (3, vI 0)] []) ((ZHp p0).m)
def Zcp (p0 : List (List Bt)) : Option (List Bt) := (ZF8 p0).m
section
include co
theorem ZzJ : Kl 36 C (pa [0, 0, 1, 0, 1, 1] (Zaf Tryz.f40)) [.tmp 2] 1 (ZBa p0) (ZEW p0) E40 (G40) (ZEC p0) := fun (v1, v2) _ m Q Post hQ L => en co (ZHw p0 v1 v2) (lf1 [0, 3, 9, 10, 11]) (lf1 [0, 3]) hQ m L fun r g => ⟨fun e3 => ⟨trivial, id⟩, id⟩
theorem ZAT : Kl 36 C (pa [0, 0, 1, 0, 1, 1, 1, 1] (Zaf Tryz.f40)) [.tmp 2] 1 (Zw9 p0) (ZGM) E40 (G40) (ZE2 p0) := fun (r6, v7) _ m Q Post hQ L => en co (ZFl p0 r6 v7) (lf2 [6, 25, 26, 27] [((1, 24), true)]) (lf2 [6] [((1, 24), true)]) hQ m L fun r g => ⟨fun e8 => id, id⟩
end
end
theorem ZKl (p0 : List (List Bt)) : KO tp 40 1 [vL Zcr p0] [⟨0, false, 0, 0, []⟩] (fun _ _ _ _ => True) (Zcp p0) E40 (G40) := ko1 Tryz.func40 Tryz.ntmps40 tok [.tmp 2] 1 (fun C co hT y m Post L => mi co 2 (ZF8 p0) (lf1 [0, 3]) nl ii m L fun r g _ m L => sq (mi co 1 (ZHp p0) (lf1 [0, 3, 9, 10, 11]) nl ii m L fun r g _ m L => bk 0 (lo (lpF (ZzJ co p0) ii m L (fun v4 m => sq (rg (Zb8 co tok 1 (ZH3 p0 v4) (lf1 [0, 23]) m L fun r g _ m L => ZaJ co m 81 [.e0, vN v4] [(1, 24)] ([((1, 24), ⟨0, false, 0, 0, []⟩)] ++ []) (fun z => .ref (1, 24) 1 0 z.length) (fun z => [((1, 24), ⟨1, true, 9, 1, Zaa Zan z⟩)]) [] (fun z => trivial) (trivial) (fun z hz r g => Zai (ZN3 v4) hz co g [((1, 24), ⟨0, false, 0, 0, []⟩)] [] [((1, 24), ⟨1, true, 9, 1, Zaa Zan z⟩)] (lkS []) (fun H' hg ho => trivial) (fun H => ⟨(fun h => by cases h), by kernel_rfl, trivial⟩) (fun H => ⟨fun _ => ⟨rfl, bz⟩, by kernel_rfl, trivial⟩)) fun y5 m => Zca co tok (ZGr p0 y5) (lf2 [0, 6] [((1, 24), true)]) m L fun r g _ m L => sq (mi co 1 (ZHV p0 y5) (lf2 [6, 25, 26, 27] [((1, 24), true)]) nl ii m L fun r g _ m L => bk 2 (lo (lpF (ZAT co p0) ii m L (fun r9 m => fo co (ZG1 r9) m L fun r g => id))))))))))) (hB := fun y => ⟨.inl (Zak _ _), rfl, trivial⟩)
abbrev ZIX : Int → AV := fun y => vI y
section
variable {C : Cx} (p0 : List Bt) (p1 : Bt)
def Zor : Nat → St := fun v1 => mkS [(0, vL Zan p0), (1, vS p1), (7, vN p0.length), (8, vN v1)] []
def Zu6 : Unit → Nat × St := fun _ => (0, mkS [] [])
def Zwh (v1 : Nat) : PT 0 (Lv (Nat) (Unit) (Int)) := br (decide ((v1 : Int) < (p0.length : Int))) (ix p0 v1 fun e2 => br (decide (p1 = e2)) (lrt ZIX (fun _ => []) (v1 : Int)) (vs (wa v1 1) <| ln (Zor p0 p1) (v1 + 1))) (lxe (Zu6) ())
def Zvz := fun (v1 : Nat) => (Zwh p0 p1 v1).m
def Zvs : PT 0 (Int) := lr ZIX (fun _ => []) (-1)
def ZvN : PT 0 (Int) := vz (eqL p0) <| lc (Zor p0 p1 0) ((Zad (Zvz p0 p1) big 0).bind (Sum.elim (fun _ => (Zvs).m) some))
def Zwy : PT 0 (Int) := lc (mkS [(0, vL Zan p0), (1, vS p1)] []) ((ZvN p0 p1).m)
def Zho (p0 : List Bt) (p1 : Bt) : Option (Int) := (Zwy p0 p1).m
theorem Zub (co : CO C 0) : Kl 19 C (pa [0, 0, 1, 0, 1] (Zaf Tryz.f103)) [.tmp 4] 0 (Zor p0 p1) (Zu6) ZIX (fun _ => []) (Zvz p0 p1) := fun v1 _ m Q Post hQ L => en co (Zwh p0 p1 v1) (lf1 [0, 1, 7, 8]) nl hQ m L fun r g => ⟨fun e2 => ⟨id, id⟩, id⟩
end
theorem ZKb (p0 : List Bt) (p1 : Bt) : KC tp 103 [vL Zan p0, vS p1] (Zho p0 p1) ZIX := kc1 Tryz.func103 Tryz.ntmps103 tok [.tmp 4] fun C co y m Post L => mi co 1 (Zwy p0 p1) (lf1 [0, 1]) nl ii m L fun r g _ m L => sq (mi co 1 (ZvN p0 p1) (lf1 [0, 1, 7, 8]) nl ii m L fun r g _ m L => bk 0 (lo (lpF (Zub p0 p1 co) ii m L (fun _ m => fo co (Zvs) m L fun r g => id))))
abbrev E76 : Bool → AV := fun y => vB y
def ZEN (p0 : List Bt) (p1 : Bt) : PT 0 (Bool) := cl (ZKb p0 p1) fun y1 => lr E76 (fun _ => []) (decide ((0 : Int) ≤ y1))
def Zfa (p0 : List Bt) (p1 : Bt) : Option (Bool) := (ZEN p0 p1).m
theorem ZD6 (p0 : List Bt) (p1 : Bt) : KC tp 76 [vL Zan p0, vS p1] (Zfa p0 p1) E76 := kc1 Tryz.func76 Tryz.ntmps76 tok [.tmp 4] fun C co y m Post L => fo co (ZEN p0 p1) m L fun r g y1 => id
abbrev E33 : Bt × Int → AV := fun y => .tup [vS y.1, vI y.2]
section
variable {C : Cx} (co : CO C 0) (p0 : List Fil) (r1 : List Bt) (v2 v3 v4 v5 : Nat) (y7 : List Bt × List Bt × List Bt) (y8 r12 : List Bt)
abbrev ZqV := PT 0 (Lv (List Bt × Nat × Nat × Nat × Nat) (Nat × Nat × Nat × List Bt) (Bt × Int))
abbrev Zkw := PT 0 (Bt × Int)
abbrev Zs3 : List (Key × Blk) := [((1, 4), ⟨0, true, 9, 1, Zaa Zan r1⟩)]
abbrev ZEj : List (Nat × AV) := [(4, .ref (1, 4) 0 0 r1.length), (5, vN v2), (6, vN v3), (7, vN v4), (15, vL ZaE p0), (16, vN p0.length), (17, vN v5)]
abbrev ZyO : List (Key × Blk) := [((1, 4), ⟨0, true, 9, 1, Zaa Zan r12⟩)]
def ZAU : List Bt × Nat × Nat × Nat × Nat → St := fun (r1, v2, v3, v4, v5) => mkS (ZEj p0 r1 v2 v3 v4 v5) (Zs3 r1)
def ZIH : Nat × Nat × Nat × List Bt → Nat × St := fun (v9, v10, v11, r12) => (0, mkS [(4, .ref (1, 4) 0 0 r12.length), (5, vN v9), (6, vN v10), (7, vN v11)] (ZyO r12))
def ZDh : ZqV := vs (wa v5 1) <| vz (fl (r1 ++ y8)) <| ln (ZAU p0) (r1 ++ y8, v2 + y7.1.length, v3 + y7.2.1.length, v4 + y7.2.2.length, v5 + 1)
def ZHf : ZqV := ar r1 y8 (1, 44) 1 <| vz (fl (r1 ++ y8)) <| lc (mkS [(4, .ref (1, 4) 0 0 (r1 ++ y8).length), (5, vN (v2 + y7.1.length)), (6, vN (v3 + y7.2.1.length)), (7, vN (v4 + y7.2.2.length)), (15, vL ZaE p0), (16, vN p0.length), (17, vN v5)] [((1, 4), ⟨0, true, 9, 1, Zaa Zan (r1 ++ y8)⟩)]) ((ZDh p0 r1 v2 v3 v4 v5 y7 y8).m)
def ZED : ZqV := vw .sep <| vw .sep <| vz (fl r1) <| lc (mkS [(5, vN (v2 + y7.1.length)), (6, vN (v3 + y7.2.1.length)), (7, vN (v4 + y7.2.2.length)), (15, vL ZaE p0), (16, vN p0.length), (17, vN v5), (39, .ref (1, 4) 0 0 r1.length), (43, .d (.list [Zcr y7.1, Zcr y7.2.1, Zcr y7.2.2]))] (Zs3 r1)) ((Zcp ([y7.1, y7.2.1, y7.2.2] : List (List Bt))).bind fun y8 => (ZHf p0 r1 v2 v3 v4 v5 y7 y8).m)
def ZFL : ZqV := ix p0 v5 fun e6 => vw .go <| vw .go <| cl (ZIJ e6) fun y7 => vz (eqL y7.1) <| vs (wa v2 y7.1.length) <| vz (eqL y7.2.1) <| vs (wa v3 y7.2.1.length) <| vz (eqL y7.2.2) <| vs (wa v4 y7.2.2.length) <| vz (fl r1) <| lc (mkS [(4, .ref (1, 4) 0 0 r1.length), (5, vN (v2 + y7.1.length)), (6, vN (v3 + y7.2.1.length)), (7, vN (v4 + y7.2.2.length)), (10, vL Zan y7.1), (11, vL Zan y7.2.1), (12, vL Zan y7.2.2), (15, vL ZaE p0), (16, vN p0.length), (17, vN v5)] (Zs3 r1)) ((ZED p0 r1 v2 v3 v4 v5 y7).m)
def ZIA : ZqV := br (decide ((v5 : Int) < (p0.length : Int))) (vz (fl r1) <| lc (mkS (ZEj p0 r1 v2 v3 v4 v5) (Zs3 r1)) ((ZFL p0 r1 v2 v3 v4 v5).m)) (vz (fl r1) <| lxe (ZIH) (v2, v3, v4, r1))
def ZDk := fun ((r1, v2, v3, v4, v5) : List Bt × Nat × Nat × Nat × Nat) => (ZIA p0 r1 v2 v3 v4 v5).m
def ZA1 : Nat → St := fun v13 => mkS [(4, vL Zan r12), (52, vL Zan r12), (53, vN r12.length), (54, vN v13)] []
def ZFg : Unit → Nat × St := fun _ => (2, mkS [] [])
def ZDT (v13 : Nat) : PT 0 (Lv (Nat) (Unit) (Bt × Int)) := br (decide ((v13 : Int) < (r12.length : Int))) (ix r12 v13 fun e14 => sL r12 .no (.nt v13) fun l15 => cl (ZD6 l15 e14) fun y16 => br y16 (lrt E33 (fun _ => []) (e14, 9)) (vs (wa v13 1) <| ln (ZA1 r12) (v13 + 1))) (lxe (ZFg) ())
def ZDr := fun (v13 : Nat) => (ZDT r12 v13).m
def ZC3 : Zkw := lr E33 (fun _ => []) (⟨#[]⟩, 0)
def ZHC : Zkw := vw (.frz 4 [(4, (r12.map Zan)), (52, (r12.map Zan))] []) <| vz (fz r12) <| vz (fz r12) <| lc (ZA1 r12 0) ((Zad (ZDr r12) big 0).bind (Sum.elim (fun _ => (ZC3).m) some))
def ZHy : Zkw := vz (eqN r12.length) <| vz (fl r12) <| lc (mkS [(4, .ref (1, 4) 0 0 r12.length), (52, .ref (1, 4) 0 0 r12.length), (53, vN r12.length), (54, vI 0)] (ZyO r12)) ((ZHC r12).m)
def Zwu (v9 : Nat) (v10 : Nat) (v11 : Nat) : Zkw := br (decide ((64 : Int) < (mmI true (mmI true (v9 : Int) (v10 : Int)) (v11 : Int)))) (lr E33 (fun _ => []) (⟨#[]⟩, 3)) (vz (fl r12) <| lc (mkS [(4, .ref (1, 4) 0 0 r12.length)] (ZyO r12)) ((ZHy r12).m))
def Zwt : Zkw := vw (.ads 4 4 9 1) <| vz (fl ([] : List Bt)) <| lc (ZAU p0 (([] : List Bt), 0, 0, 0, 0)) ((Zad (ZDk p0) big (([] : List Bt), 0, 0, 0, 0)).bind (Sum.elim (fun (v9, v10, v11, r12) => (Zwu r12 v9 v10 v11).m) some))
def Zvf : Zkw := vz (eqL p0) <| lc (mkS [(4, .e0), (5, vI 0), (6, vI 0), (7, vI 0), (15, vL ZaE p0), (16, vN p0.length), (17, vI 0)] []) ((Zwt p0).m)
def Zwg : Zkw := lc (mkS [(0, vL ZaE p0), (4, .e0), (5, vI 0), (6, vI 0), (7, vI 0)] []) ((Zvf p0).m)
def ZiF (p0 : List Fil) : Option (Bt × Int) := (Zwg p0).m
section
include co
theorem ZA5 : Kl 66 C (pa [0, 0, 1, 0, 1, 1, 1] (Zaf Tryz.f33)) [.tmp 2, .tmp 3] 0 (ZAU p0) (ZIH) E33 (fun _ => []) (ZDk p0) := fun (r1, v2, v3, v4, v5) _ m Q Post hQ L => mi co 2 (ZIA p0 r1 v2 v3 v4 v5) (lf2 [4, 5, 6, 7, 15, 16, 17] [((1, 4), true)]) (lf2 [4, 5, 6, 7] [((1, 4), true)]) hQ m L fun r g => ⟨fun _ m L => sq (bk 1 (mi co 3 (ZFL p0 r1 v2 v3 v4 v5) (lf2 [4, 5, 6, 7, 10, 11, 12, 15, 16, 17] [((1, 4), true)]) nl hQ m L fun r g e6 y7 _ m L => rg (Zb8 co tok 5 (ZED p0 r1 v2 v3 v4 v5 y7) (lf2 [5, 6, 7, 15, 16, 17, 39, 43] [((1, 4), true)]) m L fun r g _ m L => ZaJ co m 40 [.d (.list [Zcr y7.1, Zcr y7.2.1, Zcr y7.2.2])] [(1, 44)] ([((1, 44), ⟨0, false, 0, 0, []⟩)] ++ []) (fun z => .ref (1, 44) 1 0 z.length) (fun z => [((1, 44), ⟨1, true, 9, 1, Zaa Zan z⟩)]) [(1, 4)] (fun z => trivial) (⟨Zak _ _, trivial⟩) (fun z hz r g => Zai (ZKl ([y7.1, y7.2.1, y7.2.2] : List (List Bt))) hz co g [((1, 44), ⟨0, false, 0, 0, []⟩)] [] [((1, 44), ⟨1, true, 9, 1, Zaa Zan z⟩)] (lkS []) (fun H' hg ho => trivial) (fun H => ⟨(fun h => by cases h), by kernel_rfl, trivial⟩) (fun H => ⟨fun _ => ⟨rfl, bz⟩, by kernel_rfl, trivial⟩)) fun y8 m => Zca co tok (ZHf p0 r1 v2 v3 v4 v5 y7 y8) (lf2 [4, 5, 6, 7, 15, 16, 17] [((1, 4), true)]) m L fun r g _ m L => en co (ZDh p0 r1 v2 v3 v4 v5 y7 y8) (lf2 [4, 5, 6, 7, 15, 16, 17] [((1, 4), true)]) nl hQ m L fun r g => id))), id⟩
theorem ZxG : Kl 66 C (pa [0, 0, 1, 0, 1, 1, 1, 1, 1] (Zaf Tryz.f33)) [.tmp 2, .tmp 3] 0 (ZA1 r12) (ZFg) E33 (fun _ => []) (ZDr r12) := fun v13 _ m Q Post hQ L => en co (ZDT r12 v13) (lf1 [4, 52, 53, 54]) nl hQ m L fun r g => ⟨fun e14 l15 y16 => ⟨id, id⟩, id⟩
end
end
theorem ZOh (p0 : List Fil) : KC tp 33 [vL ZaE p0] (ZiF p0) E33 := kc1 Tryz.func33 Tryz.ntmps33 tok [.tmp 2, .tmp 3] fun C co y m Post L => mi co 3 (Zwg p0) (lf1 [0, 4, 5, 6, 7]) nl ii m L fun r g _ m L => sq (mi co 1 (Zvf p0) (lf1 [4, 5, 6, 7, 15, 16, 17]) nl ii m L fun r g _ m L => bk 0 (Znw co (Zwt p0) (lf2 [4, 5, 6, 7, 15, 16, 17] [((1, 4), true)]) m L fun r g _ m L => lo (lpF (ZA5 co p0) ii m L (fun (v9, v10, v11, r12) m => mi co 1 (Zwu r12 v9 v10 v11) (lf2 [4] [((1, 4), true)]) nl ii m L fun r g => ⟨id, fun _ m L => sq (mi co 1 (ZHy r12) (lf2 [4, 52, 53, 54] [((1, 4), true)]) nl ii m L fun r g _ m L => bk 2 (Znw co (ZHC r12) (lf1 [4, 52, 53, 54]) m L fun r g _ m L => lo (lpF (ZxG co r12) ii m L (fun _ m => fo co (ZC3) m L fun r g => id))))⟩))))
abbrev E37 : List Bt → AV := fun y => vL Zan y
section
variable {C : Cx} (p0 : List Fil) (p1 : Fil) (v4 : Nat) (y9 v3 y2 : List Bt)
abbrev Zpu := PT 0 (Lv (List Bt × Nat) (List Bt) (List Bt))
abbrev ZmS := PT 0 (List Bt)
abbrev ZzD : Blk := ⟨0, true, 86, 6, [vS p1.name, vS p1.space, vL Zan p1.imports, vL Zaj p1.messages, vL Zag p1.enums, vL Zal p1.services]⟩
abbrev ZDP : List (Nat × AV) := [(0, vL ZaE p0), (8, vL Zan v3), (26, vL Zan p1.imports), (27, vN p1.imports.length), (28, vN v4)]
def ZBo : List Bt × Nat → St := fun (v3, v4) => mkS (ZDP p0 p1 v4 v3) []
def ZFx : List Bt → Nat × St := fun v10 => (0, mkS [(8, vL Zan v10)] [])
def ZEn : Zpu := vs (wa v4 1) <| vw (.frz 48 [(8, (y9.map Zan))] []) <| vz (fz y9) <| ln (ZBo p0 p1) (y9, v4 + 1)
def ZDj : Zpu := vz (fl y9) <| lc (mkS [(0, vL ZaE p0), (8, .ref (1, 48) 0 0 y9.length), (26, vL Zan p1.imports), (27, vN p1.imports.length), (28, vN v4)] [((1, 48), ⟨0, true, 9, 1, Zaa Zan y9⟩)]) ((ZEn p0 p1 v4 y9).m)
def ZC2 (y8 : List Bt × List Bt × List Bt) : Zpu := vw .sep <| vw .sep <| lc (mkS [(0, vL ZaE p0), (26, vL Zan p1.imports), (27, vN p1.imports.length), (28, vN v4), (47, .d (.list [Zcr v3, Zcr y8.1, Zcr y8.2.1, Zcr y8.2.2]))] []) ((Zcp ([v3, y8.1, y8.2.1, y8.2.2] : List (List Bt))).bind fun y9 => (ZDj p0 p1 v4 y9).m)
def ZFV : Zpu := ix p1.imports v4 fun e5 => cl (ZCz p0 e5) fun y6 => ixi p0 y6 fun e7 => cl (ZIJ e7) fun y8 => lc (mkS [(0, vL ZaE p0), (8, vL Zan v3), (11, vL Zan y8.1), (12, vL Zan y8.2.1), (13, vL Zan y8.2.2), (26, vL Zan p1.imports), (27, vN p1.imports.length), (28, vN v4)] []) ((ZC2 p0 p1 v4 v3 y8).m)
def ZGd : Zpu := br (decide ((v4 : Int) < (p1.imports.length : Int))) (lc (mkS (ZDP p0 p1 v4 v3) []) ((ZFV p0 p1 v4 v3).m)) (lxe (ZFx) v3)
def ZGy := fun ((v3, v4) : List Bt × Nat) => (ZGd p0 p1 v4 v3).m
def ZFa (v10 : List Bt) : ZmS := lr E37 (fun _ => []) v10
def ZIc : ZmS := vw (.frz 24 [(8, (y2.map Zan))] []) <| vz (fz y2) <| lc (ZBo p0 p1 (y2, 0)) ((Zad (ZGy p0 p1) big (y2, 0)).bind (Sum.elim (fun v10 => (ZFa v10).m) some))
def ZEd : ZmS := vw .go <| vz (eqL p1.imports) <| vz (fl y2) <| lc (mkS [(0, vL ZaE p0), (8, .ref (1, 24) 0 0 y2.length), (26, vL Zan p1.imports), (27, vN p1.imports.length), (28, vI 0)] [((1, 24), ⟨0, true, 9, 1, Zaa Zan y2⟩)]) ((ZIc p0 p1 y2).m)
def ZET : ZmS := vz (fl y2) <| lc (mkS [(0, vL ZaE p0), (3, .ptr (1, 3) 0 0), (8, .ref (1, 24) 0 0 y2.length)] [((1, 3), (ZzD p1)), ((1, 24), ⟨0, true, 9, 1, Zaa Zan y2⟩)]) ((ZEd p0 p1 y2).m)
def ZvB (y1 : List Bt × List Bt × List Bt) : ZmS := vw .sep <| vw .sep <| lc (mkS [(0, vL ZaE p0), (3, .ptr (1, 3) 0 0), (23, .d (.list [Zcr y1.1, Zcr y1.2.1, Zcr y1.2.2]))] [((1, 3), (ZzD p1))]) ((Zcp ([y1.1, y1.2.1, y1.2.2] : List (List Bt))).bind fun y2 => (ZET p0 p1 y2).m)
def ZvQ : ZmS := vw .go <| cl (ZIJ p1) fun y1 => lc (mkS [(0, vL ZaE p0), (3, .ptr (1, 3) 0 0), (5, vL Zan y1.1), (6, vL Zan y1.2.1), (7, vL Zan y1.2.2)] [((1, 3), (ZzD p1))]) ((ZvB p0 p1 y1).m)
def Zhx (p0 : List Fil) (p1 : Fil) : Option (List Bt) := (ZvQ p0 p1).m
theorem ZB1 (co : CO C 0) : Kl 51 C (pa [0, 0, 1, 0, 1, 1, 1] (Zaf Tryz.f37)) [.tmp 4] 0 (ZBo p0 p1) (ZFx) E37 (fun _ => []) (ZGy p0 p1) := fun (v3, v4) _ m Q Post hQ L => mi co 2 (ZGd p0 p1 v4 v3) (lf1 [0, 8, 26, 27, 28]) (lf1 [8]) hQ m L fun r g => ⟨fun _ m L => sq (bk 1 (mi co 2 (ZFV p0 p1 v4 v3) (lf1 [0, 8, 11, 12, 13, 26, 27, 28]) nl hQ m L fun r g e5 y6 e7 y8 _ m L => rg (Zb8 co tok 5 (ZC2 p0 p1 v4 v3 y8) (lf1 [0, 26, 27, 28, 47]) m L fun r g _ m L => ZaJ co m 40 [.d (.list [Zcr v3, Zcr y8.1, Zcr y8.2.1, Zcr y8.2.2])] [(1, 48)] ([((1, 48), ⟨0, false, 0, 0, []⟩)] ++ []) (fun z => .ref (1, 48) 1 0 z.length) (fun z => [((1, 48), ⟨1, true, 9, 1, Zaa Zan z⟩)]) [] (fun z => trivial) (trivial) (fun z hz r g => Zai (ZKl ([v3, y8.1, y8.2.1, y8.2.2] : List (List Bt))) hz co g [((1, 48), ⟨0, false, 0, 0, []⟩)] [] [((1, 48), ⟨1, true, 9, 1, Zaa Zan z⟩)] (lkS []) (fun H' hg ho => trivial) (fun H => ⟨(fun h => by cases h), by kernel_rfl, trivial⟩) (fun H => ⟨fun _ => ⟨rfl, bz⟩, by kernel_rfl, trivial⟩)) fun y9 m => Zca co tok (ZDj p0 p1 v4 y9) (lf2 [0, 8, 26, 27, 28] [((1, 48), true)]) m L fun r g _ m L => en co (ZEn p0 p1 v4 y9) (lf1 [0, 8, 26, 27, 28]) nl hQ m L fun r g => id))), id⟩
end
theorem ZN7 (p0 : List Fil) (p1 : Fil) : KC tp 37 [vL ZaE p0, .agg ((ZaE p1).map .d)] (Zhx p0 p1) E37 := kc1 Tryz.func37 Tryz.ntmps37 tok [.tmp 4] fun C co y m Post L => mi co 2 (ZvQ p0 p1) (lf2 [0, 3, 5, 6, 7] [((1, 3), false)]) nl ii m L fun r g y1 _ m L => sq (rg (Zb8 co tok 4 (ZvB p0 p1 y1) (lf2 [0, 3, 23] [((1, 3), false)]) m L fun r g _ m L => ZaJ co m 40 [.d (.list [Zcr y1.1, Zcr y1.2.1, Zcr y1.2.2])] [(1, 24)] ([((1, 24), ⟨0, false, 0, 0, []⟩)] ++ []) (fun z => .ref (1, 24) 1 0 z.length) (fun z => [((1, 24), ⟨1, true, 9, 1, Zaa Zan z⟩)]) [] (fun z => trivial) (trivial) (fun z hz r g => Zai (ZKl ([y1.1, y1.2.1, y1.2.2] : List (List Bt))) hz co g [((1, 24), ⟨0, false, 0, 0, []⟩)] [] [((1, 24), ⟨1, true, 9, 1, Zaa Zan z⟩)] (lkS []) (fun H' hg ho => trivial) (fun H => ⟨(fun h => by cases h), by kernel_rfl, trivial⟩) (fun H => ⟨fun _ => ⟨rfl, bz⟩, by kernel_rfl, trivial⟩)) fun y2 m => Zca co tok (ZET p0 p1 y2) (lf2 [0, 3, 8] [((1, 3), false), ((1, 24), true)]) m L fun r g _ m L => sq (mi co 1 (ZEd p0 p1 y2) (lf2 [0, 8, 26, 27, 28] [((1, 24), true)]) nl ii m L fun r g _ m L => bk 0 (Znw co (ZIc p0 p1 y2) (lf1 [0, 8, 26, 27, 28]) m L fun r g _ m L => lo (lpF (ZB1 p0 p1 co) ii m L (fun v10 m => fo co (ZFa v10) m L fun r g => id))))))
abbrev E77 : List Fld → AV := fun y => .ref (0, 0) 1 0 y.length
@[reducible] def G77 : List Fld → List Blk := fun y => [⟨1, true, 84, 16, Zaa ZcG y⟩]
def ZGl (p0 : List Fld) : PT 1 (List Fld) := al ZcG p0 false fun b1 => br b1 (vw .sep <| vw (.ads 2 2 84 16) <| mv 2 0 ([] : List Fld) <| lr E77 (G77) ([] : List Fld)) (a0 p0 <| mv 7 0 p0 <| lr E77 (G77) p0)
def ZeJ (p0 : List Fld) : Option (List Fld) := (ZGl p0).m
theorem ZNS (p0 : List Fld) : KO tp 77 1 [vL ZcG p0] [⟨0, false, 0, 0, []⟩] (fun _ _ _ _ => True) (ZeJ p0) E77 (G77) := ko1 Tryz.func77 Tryz.ntmps77 tok [.tmp 2] 1 (fun C co hT y m Post L => fo co (ZGl p0) m L fun r g => ⟨fun b1 => ⟨id, id⟩, by intro b h; subst h; cases b <;> rfl⟩) (hB := fun y => ⟨.inl (Zak _ _), rfl, trivial⟩)
abbrev ZL3 : Bool → AV := fun y => vB y
def ZvW (p0 : Bt) (p1 : Bt) : PT 0 (Bool) := vz (eqN p0.size) <| vz (eqN p1.size) <| vy (decide ((p1.size : Int) ≤ (p0.size : Int))) (eqN p1.size) <| ssg (decide ((p1.size : Int) ≤ (p0.size : Int))) p0 .no (.nt p1.size) fun s1 => lr ZL3 (fun _ => []) (decide ((p1.size : Int) ≤ (p0.size : Int)) && decide (s1 = p1))
def ZdG (p0 : Bt) (p1 : Bt) : Option (Bool) := (ZvW p0 p1).m
theorem ZKB (p0 : Bt) (p1 : Bt) : KC tp 144 [vS p0, vS p1] (ZdG p0 p1) ZL3 := kc1 Tryz.func144 Tryz.ntmps144 tok [.tmp 4] fun C co y m Post L => fo co (ZvW p0 p1) m L fun r g s1 => id
abbrev ZJI : Bt × Bool → AV := fun y => .tup [vS y.1, vB y.2]
def Zwf (p0 : Bt) (p1 : Bt) : PT 0 (Bt × Bool) := cl (ZKB p0 p1) fun y1 => br (!y1) (lr ZJI (fun _ => []) (p0, false)) (vz (eqN p1.size) <| ss p0 (.nt p1.size) .no fun s2 => lr ZJI (fun _ => []) (s2, true))
def ZdA (p0 : Bt) (p1 : Bt) : Option (Bt × Bool) := (Zwf p0 p1).m
theorem ZKh (p0 : Bt) (p1 : Bt) : KC tp 138 [vS p0, vS p1] (ZdA p0 p1) ZJI := kc1 Tryz.func138 Tryz.ntmps138 tok [.tmp 4, .tmp 5] fun C co y m Post L => fo co (Zwf p0 p1) m L fun r g y1 => ⟨id, fun s2 => id⟩
abbrev ZLO : Bt × Bool → AV := fun y => .tup [vS y.1, vB y.2]
def ZwB (p0 : Bt) (p1 : Bt) : PT 0 (Bt × Bool) := cl (ZKh p0 p1) fun y1 => lr ZLO (fun _ => []) (y1.1, y1.2)
def ZeF (p0 : Bt) (p1 : Bt) : Option (Bt × Bool) := (ZwB p0 p1).m
theorem ZKS (p0 : Bt) (p1 : Bt) : KC tp 126 [vS p0, vS p1] (ZeF p0 p1) ZLO := kc1 Tryz.func126 Tryz.ntmps126 tok [.tmp 4, .tmp 5] fun C co y m Post L => fo co (ZwB p0 p1) m L fun r g y1 => id
abbrev ZIQ : Int → AV := fun y => vI y
section
variable {C : Cx} (p0 : Bt) (p1 : Int)
def ZoJ : Int → St := fun v1 => mkS [(0, vS p0), (1, .d (.int .u8 p1)), (5, vI v1)] []
def Zwe : Unit → Nat × St := fun _ => (0, mkS [] [])
def ZvM (v1 : Int) : PT 0 (Lv (Int) (Unit) (Int)) := br (decide ((0 : Int) ≤ v1)) (ibi p0 v1 fun b2 => br (decide ((b2.toNat : Int) = p1)) (lrt ZIQ (fun _ => []) v1) (vs (wi (v1 - 1)) <| ln (ZoJ p0 p1) (v1 - 1))) (lxe (Zwe) ())
def Zwc := fun (v1 : Int) => (ZvM p0 p1 v1).m
def Zu9 : PT 0 (Int) := lr ZIQ (fun _ => []) (-1)
def ZvJ : PT 0 (Int) := vz (eqN p0.size) <| vs (wi ((p0.size : Int) - 1)) <| lc (ZoJ p0 p1 ((p0.size : Int) - 1)) ((Zad (Zwc p0 p1) big ((p0.size : Int) - 1)).bind (Sum.elim (fun _ => (Zu9).m) some))
def Zwi : PT 0 (Int) := lc (mkS [(0, vS p0), (1, .d (.int .u8 p1))] []) ((ZvJ p0 p1).m)
def ZcK (p0 : Bt) (p1 : Int) : Option (Int) := (Zwi p0 p1).m
theorem ZtI (co : CO C 0) : Kl 19 C (pa [0, 0, 1, 0, 1] (Zaf Tryz.f146)) [.tmp 4] 0 (ZoJ p0 p1) (Zwe) ZIQ (fun _ => []) (Zwc p0 p1) := fun v1 _ m Q Post hQ L => en co (ZvM p0 p1 v1) (lf1 [0, 1, 5]) nl hQ m L fun r g => ⟨fun b2 => ⟨id, id⟩, id⟩
end
theorem ZJk (p0 : Bt) (p1 : Int) : KC tp 146 [vS p0, .d (.int .u8 p1)] (ZcK p0 p1) ZIQ := kc1 Tryz.func146 Tryz.ntmps146 tok [.tmp 4] fun C co y m Post L => mi co 1 (Zwi p0 p1) (lf1 [0, 1]) nl ii m L fun r g _ m L => sq (mi co 1 (ZvJ p0 p1) (lf1 [0, 1, 5]) nl ii m L fun r g _ m L => bk 0 (lo (lpF (ZtI p0 p1 co) ii m L (fun _ m => fo co (Zu9) m L fun r g => id))))
abbrev ZLQ : Int → AV := fun y => vI y
def Zve (p0 : Bt) (p1 : Int) : PT 0 (Int) := cl (ZJk p0 p1) fun y1 => lr ZLQ (fun _ => []) y1
def Zdv (p0 : Bt) (p1 : Int) : Option (Int) := (Zve p0 p1).m
theorem ZKz (p0 : Bt) (p1 : Int) : KC tp 145 [vS p0, .d (.int .u8 p1)] (Zdv p0 p1) ZLQ := kc1 Tryz.func145 Tryz.ntmps145 tok [.tmp 4] fun C co y m Post L => fo co (Zve p0 p1) m L fun r g y1 => id
abbrev ZKH : Bt × Bt → AV := fun y => .tup [vS y.1, vS y.2]
def Zvx (p0 : Bt) : PT 0 (Bt × Bt) := cl (ZKz p0 46) fun y1 => br (decide (y1 < (0 : Int))) (lr ZKH (fun _ => []) (⟨#[]⟩, p0)) (ss p0 .no (.it y1) fun s2 => vs (wi (y1 + 1)) <| ss p0 (.it (y1 + 1)) .no fun s3 => lr ZKH (fun _ => []) (s2, s3))
def ZiH (p0 : Bt) : Option (Bt × Bt) := (Zvx p0).m
theorem ZJP (p0 : Bt) : KC tp 139 [vS p0] (ZiH p0) ZKH := kc1 Tryz.func139 Tryz.ntmps139 tok [.tmp 2, .tmp 3] fun C co y m Post L => fo co (Zvx p0) m L fun r g y1 => ⟨id, fun s2 s3 => id⟩
abbrev ZKM : List Bt → AV := fun y => vL Zan y
section
variable {C : Cx}
def Zqk : Bt × List Bt → St := fun (v1, r2) => mkS [(0, vS v1), (3, .ref (1, 5) 0 0 r2.length)] [((1, 5), ⟨0, true, 9, 1, Zaa Zan r2⟩)]
def ZwR : List Bt → Nat × St := fun r4 => (0, mkS [(3, .ref (1, 5) 0 0 r4.length)] [((1, 5), ⟨0, true, 9, 1, Zaa Zan r4⟩)])
def ZwN (v1 : Bt) (r2 : List Bt) : PT 0 (Lv (Bt × List Bt) (List Bt) (List Bt)) := br (!decide (v1 = (⟨#[]⟩ : Bt))) (cl (ZJP v1) fun y3 => vw .sep <| vw .sep <| ap r2 (y3.1 : Bt) <| vz (fl (r2 ++ [y3.1])) <| ln (Zqk) (y3.1, r2 ++ [y3.1])) (vz (fl r2) <| lxe (ZwR) r2)
def Zvm := fun ((v1, r2) : Bt × List Bt) => (ZwN v1 r2).m
def ZvZ (r4 : List Bt) : PT 0 (List Bt) := vz (fr r4) <| lr ZKM (fun _ => []) r4
def ZvG (p0 : Bt) : PT 0 (List Bt) := vw .go <| vz (fl ([p0] : List Bt)) <| lc (Zqk (p0, ([p0] : List Bt))) ((Zad (Zvm) big (p0, ([p0] : List Bt))).bind (Sum.elim (fun r4 => (ZvZ r4).m) some))
def Zn2 (p0 : Bt) : Option (List Bt) := (ZvG p0).m
theorem ZrV (co : CO C 0) : Kl 18 C (pa [0, 0, 0, 1, 1] (Zaf Tryz.f127)) [.tmp 2] 0 (Zqk) (ZwR) ZKM (fun _ => []) (Zvm) := fun (v1, r2) _ m Q Post hQ L => en co (ZwN v1 r2) (lf2 [0, 3] [((1, 5), true)]) (lf2 [3] [((1, 5), true)]) hQ m L fun r g => ⟨fun y3 => id, id⟩
end
theorem ZJ4 (p0 : Bt) : KC tp 127 [vS p0] (Zn2 p0) ZKM := kc1 Tryz.func127 Tryz.ntmps127 tok [.tmp 2] fun C co y m Post L => mi co 2 (ZvG p0) (lf2 [0, 3] [((1, 5), true)]) nl ii m L fun r g _ m L => sq (bk 0 (lo (lpF (ZrV co) ii m L (fun r4 m => fo co (ZvZ r4) m L fun r g => id))))
abbrev ZCK : Bt × Bool → AV := fun y => .tup [vS y.1, vB y.2]
section
variable {C : Cx} (p0 p1 : Bt) (p2 y3 : List Bt)
abbrev Zqq := PT 0 (Bt × Bool)
def Zpz : Nat → St := fun v4 => mkS [(1, vS p1), (2, vL Zan p2), (24, vL Zan y3), (25, vN y3.length), (26, vN v4)] []
def Zvp : Unit → Nat × St := fun _ => (0, mkS [] [])
def ZvI (v4 : Nat) : PT 0 (Lv (Nat) (Unit) (Bt × Bool)) := br (decide ((v4 : Int) < (y3.length : Int))) (ix y3 v4 fun e5 => cl (ZAW e5 p1) fun y6 => cl (ZD6 p2 y6) fun y7 => br y7 (lrt ZCK (fun _ => []) (y6, true)) (vs (wa v4 1) <| ln (Zpz p1 p2 y3) (v4 + 1))) (lxe (Zvp) ())
def ZwP := fun (v4 : Nat) => (ZvI p1 p2 y3 v4).m
def Zvd : Zqq := lr ZCK (fun _ => []) (⟨#[]⟩, false)
def ZwF : Zqq := cl (ZJ4 p0) fun y3 => vz (eqL y3) <| lc (Zpz p1 p2 y3 0) ((Zad (ZwP p1 p2 y3) big 0).bind (Sum.elim (fun _ => (Zvd).m) some))
def Zv5 : Zqq := cl (ZKS p1 ⟨#[46]⟩) fun y1 => br y1.2 (cl (ZD6 p2 y1.1) fun y2 => br y2 (lr ZCK (fun _ => []) (y1.1, true)) (lr ZCK (fun _ => []) (⟨#[]⟩, false))) (lc (mkS [(0, vS p0), (1, vS p1), (2, vL Zan p2)] []) ((ZwF p0 p1 p2).m))
def Zhe (p0 : Bt) (p1 : Bt) (p2 : List Bt) : Option (Bt × Bool) := (Zv5 p0 p1 p2).m
theorem ZuN (co : CO C 0) : Kl 38 C (pa [0, 0, 1, 0, 1, 1] (Zaf Tryz.f104)) [.tmp 6, .tmp 7] 0 (Zpz p1 p2 y3) (Zvp) ZCK (fun _ => []) (ZwP p1 p2 y3) := fun v4 _ m Q Post hQ L => en co (ZvI p1 p2 y3 v4) (lf1 [1, 2, 24, 25, 26]) nl hQ m L fun r g => ⟨fun e5 y6 y7 => ⟨id, id⟩, id⟩
end
theorem ZFk (p0 : Bt) (p1 : Bt) (p2 : List Bt) : KC tp 104 [vS p0, vS p1, vL Zan p2] (Zhe p0 p1 p2) ZCK := kc1 Tryz.func104 Tryz.ntmps104 tok [.tmp 6, .tmp 7] fun C co y m Post L => mi co 2 (Zv5 p0 p1 p2) (lf1 [0, 1, 2]) nl ii m L fun r g y1 => ⟨fun y2 => ⟨id, id⟩, fun _ m L => sq (mi co 1 (ZwF p0 p1 p2) (lf1 [1, 2, 24, 25, 26]) nl ii m L fun r g y3 _ m L => bk 0 (lo (lpF (ZuN p1 p2 y3 co) ii m L (fun _ m => fo co (Zvd) m L fun r g => id))))⟩
abbrev ZLh : Bool → AV := fun y => vB y
def ZMO (pf1 : Enm → Option Bool) : Cl := fun no l H θ => (∀ (z0 : Enm) y, pf1 z0 = some y → ZfO tp l no H (θ 1) [.agg ((Zag z0).map .d)] (vB y))
def ZvP (p0 : List Enm) (pf1 : Enm → Option Bool) : PT 0 (Bool) := cs tp 54 [vL Zag p0, .fn (.yield 1) [] []] [] [] (ZbK p0 pf1) (fun y => vI y) fun y1 => lr ZLh (fun _ => []) (decide ((0 : Int) ≤ y1))
def ZcV (p0 : List Enm) (pf1 : Enm → Option Bool) : Option (Bool) := (ZvP p0 pf1).m
theorem ZK4 (p0 : List Enm) (pf1 : Enm → Option Bool) : KO tp 128 0 [vL Zag p0, .fn (.yield 1) [] []] [] (ZMO pf1) (ZcV p0 pf1) ZLh (fun _ => []) := ko1 Tryz.func128 Tryz.ntmps128 tok [.tmp 4] 0 (fun C co hT y m Post L => fo co (ZvP p0 pf1) m L fun r g => ⟨fun y hy => ZaG (ZLl p0 pf1) hy co g [] [] (lkS [(1, r.θ 1)]) (fun H' hg ho => (fun z0 y hz => ZaV co g [] ho (hT z0 y hz))) (fun H => trivial), fun y1 => id⟩)
abbrev ZMc : Bool → AV := fun y => vB y
@[reducible] def ZLY (w0 : Bt) : Bool → List Blk := fun y => [⟨0, true, 9, 1, [vS w0]⟩]
def Zwz (p0 : Enm) (w0 : Bt) : PT 1 (Bool) := vw .go <| vw .go <| lr ZMc (ZLY w0) (decide (p0.name = w0))
def ZbO (p0 : Enm) (w0 : Bt) : Option (Bool) := (Zwz p0 w0).m
theorem ZKX (p0 : Enm) (w0 : Bt) : KO tp 129 1 [.agg ((Zag p0).map .d), .ptr (0, 0) 0 0] [⟨0, true, 9, 1, [vS w0]⟩] (fun _ _ _ _ => True) (ZbO p0 w0) ZMc (ZLY w0) := ko1 Tryz.func129 Tryz.ntmps129 tok [.tmp 3] 1 (fun C co hT y m Post L => fo co (Zwz p0 w0) m L fun r g => id) (hB := fun y => ⟨.inr (by kernel_rfl), rfl, trivial⟩)
abbrev ZMt : Bool → AV := fun y => vB y
@[reducible] def ZLq (p0 : Lnk) : Bool → List Blk := fun y => [⟨0, true, 94, 10, [vL ZaE p0.files, vS p0.f.name, vS p0.f.space, vL Zan p0.f.imports, vL Zaj p0.f.messages, vL Zag p0.f.enums, vL Zal p0.f.services, vL Zan p0.known, vL Zan p0.messages, vL Zag p0.enums]⟩]
def Zwd (p0 : Lnk) (p1 : Bt) : PT 1 (Bool) := vw .go <| cs tp 128 [vL Zag p0.enums, .fn (.func 129) [] [.ptr (1, 3) 1 0]] [(1, 3)] [((1, 3), ⟨1, true, 9, 1, [vS p1]⟩)] (ZcV p0.enums (fun (z0 : Enm) => ZbO z0 p1)) (fun y => vB y) fun y1 => lr ZMt (ZLq p0) y1
def ZcN (p0 : Lnk) (p1 : Bt) : Option (Bool) := (Zwd p0 p1).m
theorem ZJY (p0 : Lnk) (p1 : Bt) : KO tp 105 1 [.ptr (0, 0) 0 0, vS p1] [⟨0, true, 94, 10, [vL ZaE p0.files, vS p0.f.name, vS p0.f.space, vL Zan p0.f.imports, vL Zaj p0.f.messages, vL Zag p0.f.enums, vL Zal p0.f.services, vL Zan p0.known, vL Zan p0.messages, vL Zag p0.enums]⟩] (fun _ _ _ _ => True) (ZcN p0 p1) ZMt (ZLq p0) := ko1 Tryz.func105 Tryz.ntmps105 tok [.tmp 4] 1 (fun C co hT y m Post L => fo co (Zwd p0 p1) m L fun r g => ⟨fun y hy => ZaG (ZK4 p0.enums (fun (z0 : Enm) => ZbO z0 p1)) hy co g [] [((1, 3), ⟨1, true, 9, 1, [vS p1]⟩)] (lkS [(1, .fn (.func 129) [] [.ptr (r.κ (1, 3)) (r.γ (1, 3) + 1) 0])]) (fun H' hg ho => (fun z0 y hz => ZgP (ZKX z0 p1) hz co g [((1, 3), ⟨1, true, 9, 1, [vS p1]⟩)] [] hg (by simp) (fun _ => .top) (fun _ _ => trivial) (fun l H => ⟨fun _ => ⟨rfl, by kernel_rfl⟩, by kernel_rfl, trivial⟩))) (fun H => trivial), fun y1 => id⟩) (hB := fun y => ⟨.inr (by kernel_rfl), rfl, trivial⟩)
abbrev ZC8 : Int × Bool → AV := fun y => .tup [.d (.int .u64 y.1), vB y.2]
@[reducible] def ZFn (p0 : Lnk) : Int × Bool → List Blk := fun y => [⟨0, true, 94, 10, [vL ZaE p0.files, vS p0.f.name, vS p0.f.space, vL Zan p0.f.imports, vL Zaj p0.f.messages, vL Zag p0.f.enums, vL Zal p0.f.services, vL Zan p0.known, vL Zan p0.messages, vL Zag p0.enums]⟩]
section
variable {C : Cx} (co : CO C 1) (p0 : Lnk) (p1 p2 : Bt) (v1 : Nat) (e2 : Enm)
abbrev Zjs := PT 1 (Lv (Nat) (Unit) (Int × Bool))
abbrev ZgB : List (Key × Blk) := [((0, 0), ⟨0, true, 94, 10, [vL ZaE p0.files, vS p0.f.name, vS p0.f.space, vL Zan p0.f.imports, vL Zaj p0.f.messages, vL Zag p0.f.enums, vL Zal p0.f.services, vL Zan p0.known, vL Zan p0.messages, vL Zag p0.enums]⟩)]
abbrev Zlt : List (Nat × AV) := [(1, vS p1), (2, vS p2), (15, vL Zag p0.enums), (16, vN p0.enums.length), (17, vN v1)]
def Zmd : Nat → St := fun v1 => mkS (Zlt p0 p1 p2 v1) (ZgB p0)
def Zv2 : Unit → Nat × St := fun _ => (0, mkS [] (ZgB p0))
def Zp8 : Nat → St := fun v3 => mkS [(1, vS p1), (2, vS p2), (15, vL Zag p0.enums), (16, vN p0.enums.length), (17, vN v1), (26, vL Zec e2.items), (27, vN e2.items.length), (28, vN v3)] (ZgB p0)
def ZwD : Unit → Nat × St := fun _ => (2, mkS (Zlt p0 p1 p2 v1) (ZgB p0))
def Zws (v3 : Nat) : Zjs := br (decide ((v3 : Int) < (e2.items.length : Int))) (ix e2.items v3 fun e4 => vw .go <| vw .go <| br (decide (e4.name = p2)) (vw .go <| vz (wk .u64 e4.num) <| lrt ZC8 (ZFn p0) ((IntKind.u64.wrap e4.num), true)) (vs (wa v3 1) <| ln (Zp8 p0 p1 p2 v1 e2) (v3 + 1))) (lxe (ZwD p0 p1 p2 v1) ())
def Zwq := fun (v3 : Nat) => (Zws p0 p1 p2 v1 e2 v3).m
def Zvv : Zjs := vs (wa v1 1) <| ln (Zmd p0 p1 p2) (v1 + 1)
def ZvY : Zjs := vs (wa v1 1) <| ln (Zmd p0 p1 p2) (v1 + 1)
def ZwS : Zjs := ix p0.enums v1 fun e2 => vw .go <| vw .go <| br (!decide (e2.name = p1)) (lxc 1 (mkS (Zlt p0 p1 p2 v1) (ZgB p0)) ((ZvY p0 p1 p2 v1).m)) (vw .go <| vz (eqL e2.items) <| lc (Zp8 p0 p1 p2 v1 e2 0) ((Zad (Zwq p0 p1 p2 v1 e2) big 0).bind (Sum.elim (fun _ => (Zvv p0 p1 p2 v1).m) (fun z => some (.rt z)))))
def Zu7 : Zjs := br (decide ((v1 : Int) < (p0.enums.length : Int))) (lc (mkS (Zlt p0 p1 p2 v1) (ZgB p0)) ((ZwS p0 p1 p2 v1).m)) (lxe (Zv2 p0) ())
def ZuZ := fun (v1 : Nat) => (Zu7 p0 p1 p2 v1).m
def ZwU : PT 1 (Int × Bool) := lr ZC8 (ZFn p0) (0, false)
def Zvw : PT 1 (Int × Bool) := vw .go <| vz (eqL p0.enums) <| lc (Zmd p0 p1 p2 0) ((Zad (ZuZ p0 p1 p2) big 0).bind (Sum.elim (fun _ => (ZwU p0).m) some))
def ZvK : PT 1 (Int × Bool) := lc (mkS [(0, .ptr (0, 0) 0 0), (1, vS p1), (2, vS p2)] (ZgB p0)) ((Zvw p0 p1 p2).m)
def ZbQ (p0 : Lnk) (p1 : Bt) (p2 : Bt) : Option (Int × Bool) := (ZvK p0 p1 p2).m
section
include co
theorem Ztm : Kl 41 C (pa [0, 0, 1, 1, 1, 0, 0, 1, 1, 0, 0, 1, 0, 1] (Zaf Tryz.f106)) [.tmp 6, .tmp 7] 1 (Zp8 p0 p1 p2 v1 e2) (ZwD p0 p1 p2 v1) ZC8 (ZFn p0) (Zwq p0 p1 p2 v1 e2) := fun v3 _ m Q Post hQ L => en co (Zws p0 p1 p2 v1 e2 v3) (lf2 [1, 2, 15, 16, 17, 26, 27, 28] [((0, 0), false)]) (lf2 [1, 2, 15, 16, 17] [((0, 0), false)]) hQ m L fun r g => ⟨fun e4 => ⟨id, id⟩, id⟩
theorem ZuF : Kl 41 C (pa [0, 0, 1, 0, 1] (Zaf Tryz.f106)) [.tmp 6, .tmp 7] 1 (Zmd p0 p1 p2) (Zv2 p0) ZC8 (ZFn p0) (ZuZ p0 p1 p2) := fun v1 _ m Q Post hQ L => mi co 2 (Zu7 p0 p1 p2 v1) (lf2 [1, 2, 15, 16, 17] [((0, 0), false)]) (lf2 [] [((0, 0), false)]) hQ m L fun r g => ⟨fun _ m L => sq (bk 1 (mi co 3 (ZwS p0 p1 p2 v1) (lf2 [1, 2, 15, 16, 17, 26, 27, 28] [((0, 0), false)]) (lf2 [1, 2, 15, 16, 17] [((0, 0), false)]) hQ m L fun r g e2 => ⟨fun _ m L => en co (ZvY p0 p1 p2 v1) (lf2 [1, 2, 15, 16, 17] [((0, 0), false)]) nl hQ m L fun r g => id, fun _ m L => bk 2 (lo (lpL (Ztm co p0 p1 p2 v1 e2) hQ m L (fun _ m => en co (Zvv p0 p1 p2 v1) (lf2 [1, 2, 15, 16, 17] [((0, 0), false)]) nl hQ m L fun r g => id)))⟩)), id⟩
end
end
theorem Zxi (p0 : Lnk) (p1 : Bt) (p2 : Bt) : KO tp 106 1 [.ptr (0, 0) 0 0, vS p1, vS p2] [⟨0, true, 94, 10, [vL ZaE p0.files, vS p0.f.name, vS p0.f.space, vL Zan p0.f.imports, vL Zaj p0.f.messages, vL Zag p0.f.enums, vL Zal p0.f.services, vL Zan p0.known, vL Zan p0.messages, vL Zag p0.enums]⟩] (fun _ _ _ _ => True) (ZbQ p0 p1 p2) ZC8 (ZFn p0) := ko1 Tryz.func106 Tryz.ntmps106 tok [.tmp 6, .tmp 7] 1 (fun C co hT y m Post L => mi co 1 (ZvK p0 p1 p2) (lf2 [0, 1, 2] [((0, 0), false)]) nl ii m L fun r g _ m L => sq (mi co 1 (Zvw p0 p1 p2) (lf2 [1, 2, 15, 16, 17] [((0, 0), false)]) nl ii m L fun r g _ m L => bk 0 (lo (lpF (ZuF co p0 p1 p2) ii m L (fun _ m => fo co (ZwU p0) m L fun r g => id))))) (hB := fun y => ⟨.inr (by kernel_rfl), rfl, trivial⟩)
abbrev E78 : Fld × Int → AV := fun y => .tup [.agg ((ZcG y.1).map .d), vI y.2]
@[reducible] def G78 (p0 : Lnk) : Fld × Int → List Blk := fun y => [⟨0, true, 94, 10, [vL ZaE p0.files, vS p0.f.name, vS p0.f.space, vL Zan p0.f.imports, vL Zaj p0.f.messages, vL Zag p0.f.enums, vL Zal p0.f.services, vL Zan p0.known, vL Zan p0.messages, vL Zag p0.enums]⟩]
def ZFX (p0 : Lnk) (p1 : Bt) (p2 : Fld) : PT 1 (Fld × Int) := vw .go <| br (decide (p2.type.kind = (0 : Int))) (vw .go <| vw .go <| cl (ZFk p1 p2.type.name p0.known) fun y1 => br (!y1.2) (vw .go <| vw .go <| lr E78 (G78 p0) (p2, 8)) (vw .go <| cl (ZD6 p0.messages y1.1) fun y2 => br y2 (vw .go <| vw .go <| br (!p2.hasDefault) (vw .go <| vw .go <| lr E78 (G78 p0) ((.mk p2.num p2.name p2.card p2.key (.mk 10 y1.1 : Typ) p2.union p2.hasDefault p2.dflt p2.notes : Fld), 0)) (vw .go <| br (decide (p2.type.kind = (0 : Int)) || false) (vw .go <| vw .go <| lr E78 (G78 p0) ((.mk p2.num p2.name p2.card p2.key (.mk 10 y1.1 : Typ) p2.union p2.hasDefault p2.dflt p2.notes : Fld), 12)) (br (decide (p2.type.kind = (0 : Int))) (vw .go <| br (!decide (p2.dflt.kind = (9 : Int))) (vw .go <| vw .go <| lr E78 (G78 p0) ((.mk p2.num p2.name p2.card p2.key (.mk 10 y1.1 : Typ) p2.union p2.hasDefault p2.dflt p2.notes : Fld), 12)) (vw .go <| vw .go <| cs tp 106 [.ptr (0, 0) 0 0, vS y1.1, vS p2.dflt.text] [(0, 0)] [((0, 0), ⟨0, true, 94, 10, [vL ZaE p0.files, vS p0.f.name, vS p0.f.space, vL Zan p0.f.imports, vL Zaj p0.f.messages, vL Zag p0.f.enums, vL Zal p0.f.services, vL Zan p0.known, vL Zan p0.messages, vL Zag p0.enums]⟩)] (ZbQ p0 y1.1 p2.dflt.text) (fun y => .tup [.d (.int .u64 y.1), vB y.2]) fun y3 => br (!y3.2) (vw .go <| vw .go <| lr E78 (G78 p0) ((.mk p2.num p2.name p2.card p2.key (.mk 10 y1.1 : Typ) p2.union p2.hasDefault p2.dflt p2.notes : Fld), 16)) (vw .go <| vw .go <| vw .go <| lr E78 (G78 p0) ((.mk p2.num p2.name p2.card p2.key (.mk 10 y1.1 : Typ) p2.union p2.hasDefault (.mk 9 y3.1 ⟨#[]⟩ [] [] [] [] : Val) p2.notes : Fld), 0)))) (vw .go <| vw .go <| br (!decide (p2.dflt.kind = (10 : Int))) (vw .go <| vw .go <| lr E78 (G78 p0) ((.mk p2.num p2.name p2.card p2.key (.mk 10 y1.1 : Typ) p2.union p2.hasDefault p2.dflt p2.notes : Fld), 12)) (vw .go <| vw .go <| lr E78 (G78 p0) ((.mk p2.num p2.name p2.card p2.key (.mk 10 y1.1 : Typ) p2.union p2.hasDefault p2.dflt p2.notes : Fld), 0)))))) (cs tp 105 [.ptr (0, 0) 0 0, vS y1.1] [(0, 0)] [((0, 0), ⟨0, true, 94, 10, [vL ZaE p0.files, vS p0.f.name, vS p0.f.space, vL Zan p0.f.imports, vL Zaj p0.f.messages, vL Zag p0.f.enums, vL Zal p0.f.services, vL Zan p0.known, vL Zan p0.messages, vL Zag p0.enums]⟩)] (ZcN p0 y1.1) (fun y => vB y) fun y4 => br y4 (vw .go <| vw .go <| br (!p2.hasDefault) (vw .go <| vw .go <| lr E78 (G78 p0) ((.mk p2.num p2.name p2.card p2.key (.mk 9 y1.1 : Typ) p2.union p2.hasDefault p2.dflt p2.notes : Fld), 0)) (vw .go <| br (decide (p2.type.kind = (0 : Int)) && false) (vw .go <| vw .go <| lr E78 (G78 p0) ((.mk p2.num p2.name p2.card p2.key (.mk 9 y1.1 : Typ) p2.union p2.hasDefault p2.dflt p2.notes : Fld), 12)) (br (decide (p2.type.kind = (0 : Int))) (vw .go <| br (!decide (p2.dflt.kind = (9 : Int))) (vw .go <| vw .go <| lr E78 (G78 p0) ((.mk p2.num p2.name p2.card p2.key (.mk 9 y1.1 : Typ) p2.union p2.hasDefault p2.dflt p2.notes : Fld), 12)) (vw .go <| vw .go <| cs tp 106 [.ptr (0, 0) 0 0, vS y1.1, vS p2.dflt.text] [(0, 0)] [((0, 0), ⟨0, true, 94, 10, [vL ZaE p0.files, vS p0.f.name, vS p0.f.space, vL Zan p0.f.imports, vL Zaj p0.f.messages, vL Zag p0.f.enums, vL Zal p0.f.services, vL Zan p0.known, vL Zan p0.messages, vL Zag p0.enums]⟩)] (ZbQ p0 y1.1 p2.dflt.text) (fun y => .tup [.d (.int .u64 y.1), vB y.2]) fun y5 => br (!y5.2) (vw .go <| vw .go <| lr E78 (G78 p0) ((.mk p2.num p2.name p2.card p2.key (.mk 9 y1.1 : Typ) p2.union p2.hasDefault p2.dflt p2.notes : Fld), 16)) (vw .go <| vw .go <| vw .go <| lr E78 (G78 p0) ((.mk p2.num p2.name p2.card p2.key (.mk 9 y1.1 : Typ) p2.union p2.hasDefault (.mk 9 y5.1 ⟨#[]⟩ [] [] [] [] : Val) p2.notes : Fld), 0)))) (vw .go <| vw .go <| br (!decide (p2.dflt.kind = (9 : Int))) (vw .go <| vw .go <| lr E78 (G78 p0) ((.mk p2.num p2.name p2.card p2.key (.mk 9 y1.1 : Typ) p2.union p2.hasDefault p2.dflt p2.notes : Fld), 12)) (vw .go <| vw .go <| lr E78 (G78 p0) ((.mk p2.num p2.name p2.card p2.key (.mk 9 y1.1 : Typ) p2.union p2.hasDefault p2.dflt p2.notes : Fld), 0)))))) (vw .go <| vw .go <| lr E78 (G78 p0) (p2, 12))))) (vw .go <| br (!p2.hasDefault) (vw .go <| vw .go <| lr E78 (G78 p0) (p2, 0)) (vw .go <| br (decide (p2.type.kind = (0 : Int)) && decide (p2.type.kind = (10 : Int))) (vw .go <| vw .go <| lr E78 (G78 p0) (p2, 12)) (br (decide (p2.type.kind = (0 : Int))) (vw .go <| br (!decide (p2.dflt.kind = (9 : Int))) (vw .go <| vw .go <| lr E78 (G78 p0) (p2, 12)) (vw .go <| vw .go <| cs tp 106 [.ptr (0, 0) 0 0, vS p2.type.name, vS p2.dflt.text] [(0, 0)] [((0, 0), ⟨0, true, 94, 10, [vL ZaE p0.files, vS p0.f.name, vS p0.f.space, vL Zan p0.f.imports, vL Zaj p0.f.messages, vL Zag p0.f.enums, vL Zal p0.f.services, vL Zan p0.known, vL Zan p0.messages, vL Zag p0.enums]⟩)] (ZbQ p0 p2.type.name p2.dflt.text) (fun y => .tup [.d (.int .u64 y.1), vB y.2]) fun y6 => br (!y6.2) (vw .go <| vw .go <| lr E78 (G78 p0) (p2, 16)) (vw .go <| vw .go <| vw .go <| lr E78 (G78 p0) ((.mk p2.num p2.name p2.card p2.key p2.type p2.union p2.hasDefault (.mk 9 y6.1 ⟨#[]⟩ [] [] [] [] : Val) p2.notes : Fld), 0)))) (vw .go <| vw .go <| br (!decide (p2.dflt.kind = p2.type.kind)) (vw .go <| vw .go <| lr E78 (G78 p0) (p2, 12)) (vw .go <| vw .go <| lr E78 (G78 p0) (p2, 0))))))
def Zc0 (p0 : Lnk) (p1 : Bt) (p2 : Fld) : Option (Fld × Int) := (ZFX p0 p1 p2).m
theorem ZNA (p0 : Lnk) (p1 : Bt) (p2 : Fld) : KO tp 78 1 [.ptr (0, 0) 0 0, vS p1, .agg ((ZcG p2).map .d)] [⟨0, true, 94, 10, [vL ZaE p0.files, vS p0.f.name, vS p0.f.space, vL Zan p0.f.imports, vL Zaj p0.f.messages, vL Zag p0.f.enums, vL Zal p0.f.services, vL Zan p0.known, vL Zan p0.messages, vL Zag p0.enums]⟩] (fun _ _ _ _ => True) (Zc0 p0 p1 p2) E78 (G78 p0) := ko1 Tryz.func78 Tryz.ntmps78 tok [.cell 6 84, .tmp 7] 1 (fun C co hT y m Post L => fo co (ZFX p0 p1 p2) m L fun r g => ⟨fun y1 => ⟨id, fun y2 => ⟨⟨id, ⟨id, ⟨⟨id, ⟨fun y hy => ZaG (Zxi p0 y1.1 p2.dflt.text) hy co g [((0, 0), ⟨0, true, 94, 10, [vL ZaE p0.files, vS p0.f.name, vS p0.f.space, vL Zan p0.f.imports, vL Zaj p0.f.messages, vL Zag p0.f.enums, vL Zal p0.f.services, vL Zan p0.known, vL Zan p0.messages, vL Zag p0.enums]⟩)] [] (lkS []) (fun H' hg ho => trivial) (fun H => ⟨fun _ => ⟨rfl, by kernel_rfl⟩, by kernel_rfl, trivial⟩), fun y3 => ⟨id, id⟩⟩⟩, ⟨id, id⟩⟩⟩⟩, ⟨fun y hy => ZaG (ZJY p0 y1.1) hy co g [((0, 0), ⟨0, true, 94, 10, [vL ZaE p0.files, vS p0.f.name, vS p0.f.space, vL Zan p0.f.imports, vL Zaj p0.f.messages, vL Zag p0.f.enums, vL Zal p0.f.services, vL Zan p0.known, vL Zan p0.messages, vL Zag p0.enums]⟩)] [] (lkS []) (fun H' hg ho => trivial) (fun H => ⟨fun _ => ⟨rfl, by kernel_rfl⟩, by kernel_rfl, trivial⟩), fun y4 => ⟨⟨id, ⟨id, ⟨⟨id, ⟨fun y hy => ZaG (Zxi p0 y1.1 p2.dflt.text) hy co g [((0, 0), ⟨0, true, 94, 10, [vL ZaE p0.files, vS p0.f.name, vS p0.f.space, vL Zan p0.f.imports, vL Zaj p0.f.messages, vL Zag p0.f.enums, vL Zal p0.f.services, vL Zan p0.known, vL Zan p0.messages, vL Zag p0.enums]⟩)] [] (lkS []) (fun H' hg ho => trivial) (fun H => ⟨fun _ => ⟨rfl, by kernel_rfl⟩, by kernel_rfl, trivial⟩), fun y5 => ⟨id, id⟩⟩⟩, ⟨id, id⟩⟩⟩⟩, id⟩⟩⟩⟩, ⟨id, ⟨id, ⟨⟨id, ⟨fun y hy => ZaG (Zxi p0 p2.type.name p2.dflt.text) hy co g [((0, 0), ⟨0, true, 94, 10, [vL ZaE p0.files, vS p0.f.name, vS p0.f.space, vL Zan p0.f.imports, vL Zaj p0.f.messages, vL Zag p0.f.enums, vL Zal p0.f.services, vL Zan p0.known, vL Zan p0.messages, vL Zag p0.enums]⟩)] [] (lkS []) (fun H' hg ho => trivial) (fun H => ⟨fun _ => ⟨rfl, by kernel_rfl⟩, by kernel_rfl, trivial⟩), fun y6 => ⟨id, id⟩⟩⟩, ⟨id, id⟩⟩⟩⟩⟩) (hB := fun y => ⟨.inr (by kernel_rfl), rfl, trivial⟩)
abbrev E38 : Msg × Int → AV := fun y => .tup [.agg ((Zaj y.1).map .d), vI y.2]
@[reducible] def G38 (p0 : Lnk) : Msg × Int → List Blk := fun y => [⟨0, true, 94, 10, [vL ZaE p0.files, vS p0.f.name, vS p0.f.space, vL Zan p0.f.imports, vL Zaj p0.f.messages, vL Zag p0.f.enums, vL Zal p0.f.services, vL Zan p0.known, vL Zan p0.messages, vL Zag p0.enums]⟩]
section
variable {C : Cx} (p0 : Lnk) (p1 : Msg) (y1 : Bt) (y2 : List Fld)
abbrev ZoL := PT 1 (Msg × Int)
abbrev Zs2 : Blk := ⟨0, true, 94, 10, [vL ZaE p0.files, vS p0.f.name, vS p0.f.space, vL Zan p0.f.imports, vL Zaj p0.f.messages, vL Zag p0.f.enums, vL Zal p0.f.services, vL Zan p0.known, vL Zan p0.messages, vL Zag p0.enums]⟩
abbrev Zur : Blk := ⟨0, true, 48, 5, [vS ⟨#[]⟩, .e0, .e0, .e0, .e0]⟩
abbrev ZBj : Blk := ⟨0, true, 48, 5, [vS y1, .ref (1, 21) 0 0 y2.length, vL Zdh p1.reserved, vL Zan p1.gone, vL eNt p1.notes]⟩
abbrev ZEt : List (Key × Blk) := [((0, 0), (Zs2 p0)), ((1, 3), ⟨0, true, 48, 5, [vS y1, vL ZcG p1.fields, vL Zdh p1.reserved, vL Zan p1.gone, vL eNt p1.notes]⟩), ((1, 4), Zur)]
abbrev ZHI : List (Nat × AV) := [(0, .ptr (0, 0) 0 0), (3, .ptr (1, 3) 0 0), (4, .ptr (1, 4) 0 0)]
abbrev ZFy : List (Key × Bool) := [((0, 0), false), ((1, 3), false), ((1, 4), false), ((1, 21), true)]
def ZzO : Nat × List Fld → St := fun (v3, r4) => mkS [(0, .ptr (0, 0) 0 0), (3, .ptr (1, 3) 0 0), (4, .ptr (1, 4) 0 0), (24, .ref (1, 21) 0 0 y2.length), (25, vN y2.length), (26, vN v3)] [((0, 0), (Zs2 p0)), ((1, 3), (ZBj p1 y1 y2)), ((1, 4), Zur), ((1, 21), ⟨0, true, 84, 16, Zaa ZcG r4⟩)]
def ZFO : List Fld → Nat × St := fun r7 => (0, mkS [(3, .ptr (1, 3) 0 0), (4, .ptr (1, 4) 0 0)] [((0, 0), (Zs2 p0)), ((1, 3), (ZBj p1 y1 y2)), ((1, 4), Zur), ((1, 21), ⟨0, true, 84, 16, Zaa ZcG r7⟩)])
def ZHe (v3 : Nat) (r4 : List Fld) : PT 1 (Lv (Nat × List Fld) (List Fld) (Msg × Int)) := br (decide ((v3 : Int) < (y2.length : Int))) (vs (ir v3 y2.length 16) <| ca r4 v3 fun e5 => vw .go <| vw .go <| vw .go <| cs tp 78 [.ptr (0, 0) 0 0, vS y1, .agg ((ZcG e5).map .d)] [(0, 0)] [((0, 0), ⟨0, true, 94, 10, [vL ZaE p0.files, vS p0.f.name, vS p0.f.space, vL Zan p0.f.imports, vL Zaj p0.f.messages, vL Zag p0.f.enums, vL Zal p0.f.services, vL Zan p0.known, vL Zan p0.messages, vL Zag p0.enums]⟩)] (Zc0 p0 y1 e5) (fun y => .tup [.agg ((ZcG y.1).map .d), vI y.2]) fun y6 => vw .go <| br (!decide (y6.2 = (0 : Int))) (vw .go <| vw .go <| vs (frt y2.length r4) <| lrt E38 (G38 p0) ((.mk y1 r4 p1.reserved p1.gone p1.notes : Msg), y6.2)) (vw .go <| vw .go <| vs (ir v3 y2.length 16) <| vs (st r4 v3 y6.1) <| vs (wa v3 1) <| vz (fl (r4.set v3 y6.1)) <| ln (ZzO p0 p1 y1 y2) (v3 + 1, r4.set v3 y6.1))) (vz (fl r4) <| lxe (ZFO p0 p1 y1 y2) r4)
def ZEX := fun ((v3, r4) : Nat × List Fld) => (ZHe p0 p1 y1 y2 v3 r4).m
def ZEE (r7 : List Fld) : ZoL := vw .go <| vw .go <| vs (frt y2.length r7) <| lr E38 (G38 p0) ((.mk y1 r7 p1.reserved p1.gone p1.notes : Msg), 0)
def ZDH : ZoL := vw .go <| vz (eqN y2.length) <| vz (fl y2) <| lc (ZzO p0 p1 y1 y2 (0, y2)) ((Zad (ZEX p0 p1 y1 y2) big (0, y2)).bind (Sum.elim (fun r7 => (ZEE p0 p1 y1 y2 r7).m) some))
def ZCY : ZoL := vw .go <| vz (fl y2) <| lc (mkS ZHI [((0, 0), (Zs2 p0)), ((1, 3), (ZBj p1 y1 y2)), ((1, 4), Zur), ((1, 21), ⟨0, true, 84, 16, Zaa ZcG y2⟩)]) ((ZDH p0 p1 y1 y2).m)
def ZFZ : ZoL := vw .go <| lc (mkS [(0, .ptr (0, 0) 0 0), (3, .ptr (1, 3) 0 0), (4, .ptr (1, 4) 0 0), (20, vL ZcG p1.fields)] (ZEt p0 p1 y1)) ((ZeJ p1.fields).bind fun y2 => (ZCY p0 p1 y1 y2).m)
def ZEY : ZoL := vw .go <| vw .go <| cl (ZAW p0.f.space p1.name) fun y1 => vw .go <| lc (mkS ZHI (ZEt p0 p1 y1)) ((ZFZ p0 p1 y1).m)
def Zcz (p0 : Lnk) (p1 : Msg) : Option (Msg × Int) := (ZEY p0 p1).m
theorem ZxS (co : CO C 1) : Kl 50 C (pa [0, 0, 1, 0, 1, 1, 1] (Zaf Tryz.f38)) [.cell 4 48, .tmp 5] 1 (ZzO p0 p1 y1 y2) (ZFO p0 p1 y1 y2) E38 (G38 p0) (ZEX p0 p1 y1 y2) := fun (v3, r4) _ m Q Post hQ L => en co (ZHe p0 p1 y1 y2 v3 r4) (lf2 [0, 3, 4, 24, 25, 26] ZFy) (lf2 [3, 4] ZFy) hQ m L fun r g => ⟨fun e5 => ⟨fun y hy => ZaG (ZNA p0 y1 e5) hy co g [((0, 0), ⟨0, true, 94, 10, [vL ZaE p0.files, vS p0.f.name, vS p0.f.space, vL Zan p0.f.imports, vL Zaj p0.f.messages, vL Zag p0.f.enums, vL Zal p0.f.services, vL Zan p0.known, vL Zan p0.messages, vL Zag p0.enums]⟩)] [] (lkS []) (fun H' hg ho => trivial) (fun H => ⟨fun _ => ⟨rfl, by kernel_rfl⟩, by kernel_rfl, trivial⟩), fun y6 => ⟨id, id⟩⟩, id⟩
end
theorem ZNX (p0 : Lnk) (p1 : Msg) : KO tp 38 1 [.ptr (0, 0) 0 0, .agg ((Zaj p1).map .d)] [⟨0, true, 94, 10, [vL ZaE p0.files, vS p0.f.name, vS p0.f.space, vL Zan p0.f.imports, vL Zaj p0.f.messages, vL Zag p0.f.enums, vL Zal p0.f.services, vL Zan p0.known, vL Zan p0.messages, vL Zag p0.enums]⟩] (fun _ _ _ _ => True) (Zcz p0 p1) E38 (G38 p0) := ko1 Tryz.func38 Tryz.ntmps38 tok [.cell 4 48, .tmp 5] 1 (fun C co hT y m Post L => mi co 2 (ZEY p0 p1) (lf2 [0, 3, 4] [((0, 0), false), ((1, 3), false), ((1, 4), false)]) nl ii m L fun r g y1 _ m L => sq (rg (Zb8 co tok 2 (ZFZ p0 p1 y1) (lf2 [0, 3, 4, 20] [((0, 0), false), ((1, 3), false), ((1, 4), false)]) m L fun r g _ m L => ZaJ co m 77 [vL ZcG p1.fields] [(1, 21)] ([((1, 21), ⟨0, false, 0, 0, []⟩)] ++ []) (fun z => .ref (1, 21) 1 0 z.length) (fun z => [((1, 21), ⟨1, true, 84, 16, Zaa ZcG z⟩)]) [] (fun z => trivial) (trivial) (fun z hz r g => Zai (ZNS p1.fields) hz co g [((1, 21), ⟨0, false, 0, 0, []⟩)] [] [((1, 21), ⟨1, true, 84, 16, Zaa ZcG z⟩)] (lkS []) (fun H' hg ho => trivial) (fun H => ⟨(fun h => by cases h), by kernel_rfl, trivial⟩) (fun H => ⟨fun _ => ⟨rfl, bz⟩, by kernel_rfl, trivial⟩)) fun y2 m => Zca co tok (ZCY p0 p1 y1 y2) (lf2 [0, 3, 4] [((0, 0), false), ((1, 3), false), ((1, 4), false), ((1, 21), true)]) m L fun r g _ m L => sq (mi co 1 (ZDH p0 p1 y1 y2) (lf2 [0, 3, 4, 24, 25, 26] [((0, 0), false), ((1, 3), false), ((1, 4), false), ((1, 21), true)]) nl ii m L fun r g _ m L => bk 0 (lo (lpF (ZxS p0 p1 y1 y2 co) ii m L (fun r7 m => fo co (ZEE p0 p1 y1 y2 r7) m L fun r g => id))))))) (hB := fun y => ⟨.inr (by kernel_rfl), rfl, trivial⟩)
abbrev E79 : List Mth → AV := fun y => .ref (0, 0) 1 0 y.length
@[reducible] def G79 : List Mth → List Blk := fun y => [⟨1, true, 130, 5, Zaa Zc1 y⟩]
def ZHH (p0 : List Mth) : PT 1 (List Mth) := al Zc1 p0 false fun b1 => br b1 (vw .sep <| vw (.ads 2 2 130 5) <| mv 2 0 ([] : List Mth) <| lr E79 (G79) ([] : List Mth)) (a0 p0 <| mv 7 0 p0 <| lr E79 (G79) p0)
def Zew (p0 : List Mth) : Option (List Mth) := (ZHH p0).m
theorem ZOa (p0 : List Mth) : KO tp 79 1 [vL Zc1 p0] [⟨0, false, 0, 0, []⟩] (fun _ _ _ _ => True) (Zew p0) E79 (G79) := ko1 Tryz.func79 Tryz.ntmps79 tok [.tmp 2] 1 (fun C co hT y m Post L => fo co (ZHH p0) m L fun r g => ⟨fun b1 => ⟨id, id⟩, by intro b h; subst h; cases b <;> rfl⟩) (hB := fun y => ⟨.inl (Zak _ _), rfl, trivial⟩)
abbrev E80 : Bt × Int → AV := fun y => .tup [vS y.1, vI y.2]
@[reducible] def G80 (p0 : Lnk) : Bt × Int → List Blk := fun y => [⟨0, true, 94, 10, [vL ZaE p0.files, vS p0.f.name, vS p0.f.space, vL Zan p0.f.imports, vL Zaj p0.f.messages, vL Zag p0.f.enums, vL Zal p0.f.services, vL Zan p0.known, vL Zan p0.messages, vL Zag p0.enums]⟩]
def ZIg (p0 : Lnk) (p1 : Bt) : PT 1 (Bt × Int) := vw .go <| vw .go <| cl (ZFk p0.f.space p1 p0.known) fun y1 => br (!y1.2) (lr E80 (G80 p0) (⟨#[]⟩, 8)) (vw .go <| cl (ZD6 p0.messages y1.1) fun y2 => br (!y2) (lr E80 (G80 p0) (⟨#[]⟩, 12)) (lr E80 (G80 p0) (y1.1, 0)))
def Zch (p0 : Lnk) (p1 : Bt) : Option (Bt × Int) := (ZIg p0 p1).m
theorem ZLf (p0 : Lnk) (p1 : Bt) : KO tp 80 1 [.ptr (0, 0) 0 0, vS p1] [⟨0, true, 94, 10, [vL ZaE p0.files, vS p0.f.name, vS p0.f.space, vL Zan p0.f.imports, vL Zaj p0.f.messages, vL Zag p0.f.enums, vL Zal p0.f.services, vL Zan p0.known, vL Zan p0.messages, vL Zag p0.enums]⟩] (fun _ _ _ _ => True) (Zch p0 p1) E80 (G80 p0) := ko1 Tryz.func80 Tryz.ntmps80 tok [.tmp 4, .tmp 5] 1 (fun C co hT y m Post L => fo co (ZIg p0 p1) m L fun r g y1 => ⟨id, fun y2 => ⟨id, id⟩⟩) (hB := fun y => ⟨.inr (by kernel_rfl), rfl, trivial⟩)
abbrev E39 : Svc × Int → AV := fun y => .tup [.agg ((Zal y.1).map .d), vI y.2]
@[reducible] def G39 (p0 : Lnk) : Svc × Int → List Blk := fun y => [⟨0, true, 94, 10, [vL ZaE p0.files, vS p0.f.name, vS p0.f.space, vL Zan p0.f.imports, vL Zaj p0.f.messages, vL Zag p0.f.enums, vL Zal p0.f.services, vL Zan p0.known, vL Zan p0.messages, vL Zag p0.enums]⟩]
section
variable {C : Cx} (p0 : Lnk) (p1 : Svc) (y1 : Bt) (y2 : List Mth)
abbrev Zo9 := PT 1 (Svc × Int)
abbrev Zuz : Blk := ⟨0, true, 94, 10, [vL ZaE p0.files, vS p0.f.name, vS p0.f.space, vL Zan p0.f.imports, vL Zaj p0.f.messages, vL Zag p0.f.enums, vL Zal p0.f.services, vL Zan p0.known, vL Zan p0.messages, vL Zag p0.enums]⟩
abbrev ZuE : Blk := ⟨0, true, 62, 3, [vS ⟨#[]⟩, .e0, .e0]⟩
abbrev ZzP : Blk := ⟨0, true, 62, 3, [vS y1, .ref (1, 22) 0 0 y2.length, vL eNt p1.notes]⟩
abbrev ZC4 : List (Key × Blk) := [((0, 0), (Zuz p0)), ((1, 3), ⟨0, true, 62, 3, [vS y1, vL Zc1 p1.methods, vL eNt p1.notes]⟩), ((1, 4), ZuE)]
abbrev ZEL : List (Nat × AV) := [(0, .ptr (0, 0) 0 0), (3, .ptr (1, 3) 0 0), (4, .ptr (1, 4) 0 0)]
abbrev ZDV : List (Key × Bool) := [((0, 0), false), ((1, 3), false), ((1, 4), false), ((1, 22), true)]
def ZA8 : Nat × List Mth → St := fun (v3, r4) => mkS [(0, .ptr (0, 0) 0 0), (3, .ptr (1, 3) 0 0), (4, .ptr (1, 4) 0 0), (26, vN y2.length), (27, vN v3)] [((0, 0), (Zuz p0)), ((1, 3), (ZzP p1 y1 y2)), ((1, 4), ZuE), ((1, 22), ⟨0, true, 130, 5, Zaa Zc1 r4⟩)]
def ZFB : List Mth → Nat × St := fun r13 => (0, mkS [(3, .ptr (1, 3) 0 0), (4, .ptr (1, 4) 0 0)] [((0, 0), (Zuz p0)), ((1, 3), (ZzP p1 y1 y2)), ((1, 4), ZuE), ((1, 22), ⟨0, true, 130, 5, Zaa Zc1 r13⟩)])
def ZDe (v3 : Nat) (r4 : List Mth) : PT 1 (Lv (Nat × List Mth) (List Mth) (Svc × Int)) := br (decide ((v3 : Int) < (y2.length : Int))) (vw .go <| vs (ir v3 y2.length 5) <| cp r4 v3 1 1 fun e5 => cs tp 80 [.ptr (0, 0) 0 0, vS e5.inn] [(0, 0)] [((0, 0), ⟨0, true, 94, 10, [vL ZaE p0.files, vS p0.f.name, vS p0.f.space, vL Zan p0.f.imports, vL Zaj p0.f.messages, vL Zag p0.f.enums, vL Zal p0.f.services, vL Zan p0.known, vL Zan p0.messages, vL Zag p0.enums]⟩)] (Zch p0 e5.inn) (fun y => .tup [vS y.1, vI y.2]) fun y6 => br (!decide (y6.2 = (0 : Int))) (vw .go <| vw .go <| vs (frt y2.length r4) <| lrt E39 (G39 p0) ((.mk y1 r4 p1.notes : Svc), y6.2)) (cp r4 v3 2 1 fun e7 => cs tp 80 [.ptr (0, 0) 0 0, vS e7.out] [(0, 0)] [((0, 0), ⟨0, true, 94, 10, [vL ZaE p0.files, vS p0.f.name, vS p0.f.space, vL Zan p0.f.imports, vL Zaj p0.f.messages, vL Zag p0.f.enums, vL Zal p0.f.services, vL Zan p0.known, vL Zan p0.messages, vL Zag p0.enums]⟩)] (Zch p0 e7.out) (fun y => .tup [vS y.1, vI y.2]) fun y8 => br (!decide (y8.2 = (0 : Int))) (vw .go <| vw .go <| vs (frt y2.length r4) <| lrt E39 (G39 p0) ((.mk y1 r4 p1.notes : Svc), y8.2)) (stp r4 v3 1 [(.str y6.1)] (fun e9 => (.mk e9.name y6.1 e9.out e9.shape e9.notes : Mth)) (fun _ => rfl) fun l10 => stp l10 v3 2 [(.str y8.1)] (fun e11 => (.mk e11.name e11.inn y8.1 e11.shape e11.notes : Mth)) (fun _ => rfl) fun l12 => vs (wa v3 1) <| vz (fl l12) <| ln (ZA8 p0 p1 y1 y2) (v3 + 1, l12)))) (vz (fl r4) <| lxe (ZFB p0 p1 y1 y2) r4)
def ZIC := fun ((v3, r4) : Nat × List Mth) => (ZDe p0 p1 y1 y2 v3 r4).m
def ZDc (r13 : List Mth) : Zo9 := vw .go <| vw .go <| vs (frt y2.length r13) <| lr E39 (G39 p0) ((.mk y1 r13 p1.notes : Svc), 0)
def ZF7 : Zo9 := vw .go <| vz (eqN y2.length) <| vz (fl y2) <| lc (ZA8 p0 p1 y1 y2 (0, y2)) ((Zad (ZIC p0 p1 y1 y2) big (0, y2)).bind (Sum.elim (fun r13 => (ZDc p0 p1 y1 y2 r13).m) some))
def ZGU : Zo9 := vw .go <| vz (fl y2) <| lc (mkS ZEL [((0, 0), (Zuz p0)), ((1, 3), (ZzP p1 y1 y2)), ((1, 4), ZuE), ((1, 22), ⟨0, true, 130, 5, Zaa Zc1 y2⟩)]) ((ZF7 p0 p1 y1 y2).m)
def ZDy : Zo9 := vw .go <| lc (mkS [(0, .ptr (0, 0) 0 0), (3, .ptr (1, 3) 0 0), (4, .ptr (1, 4) 0 0), (21, vL Zc1 p1.methods)] (ZC4 p0 p1 y1)) ((Zew p1.methods).bind fun y2 => (ZGU p0 p1 y1 y2).m)
def ZGx : Zo9 := vw .go <| vw .go <| cl (ZAW p0.f.space p1.name) fun y1 => vw .go <| lc (mkS ZEL (ZC4 p0 p1 y1)) ((ZDy p0 p1 y1).m)
def ZcF (p0 : Lnk) (p1 : Svc) : Option (Svc × Int) := (ZGx p0 p1).m
theorem Zzw (co : CO C 1) : Kl 70 C (pa [0, 0, 1, 0, 1, 1, 1] (Zaf Tryz.f39)) [.cell 4 62, .tmp 5] 1 (ZA8 p0 p1 y1 y2) (ZFB p0 p1 y1 y2) E39 (G39 p0) (ZIC p0 p1 y1 y2) := fun (v3, r4) _ m Q Post hQ L => en co (ZDe p0 p1 y1 y2 v3 r4) (lf2 [0, 3, 4, 26, 27] ZDV) (lf2 [3, 4] ZDV) hQ m L fun r g => ⟨fun e5 => ⟨fun y hy => ZaG (ZLf p0 e5.inn) hy co g [((0, 0), ⟨0, true, 94, 10, [vL ZaE p0.files, vS p0.f.name, vS p0.f.space, vL Zan p0.f.imports, vL Zaj p0.f.messages, vL Zag p0.f.enums, vL Zal p0.f.services, vL Zan p0.known, vL Zan p0.messages, vL Zag p0.enums]⟩)] [] (lkS []) (fun H' hg ho => trivial) (fun H => ⟨fun _ => ⟨rfl, by kernel_rfl⟩, by kernel_rfl, trivial⟩), fun y6 => ⟨id, fun e7 => ⟨fun y hy => ZaG (ZLf p0 e7.out) hy co g [((0, 0), ⟨0, true, 94, 10, [vL ZaE p0.files, vS p0.f.name, vS p0.f.space, vL Zan p0.f.imports, vL Zaj p0.f.messages, vL Zag p0.f.enums, vL Zal p0.f.services, vL Zan p0.known, vL Zan p0.messages, vL Zag p0.enums]⟩)] [] (lkS []) (fun H' hg ho => trivial) (fun H => ⟨fun _ => ⟨rfl, by kernel_rfl⟩, by kernel_rfl, trivial⟩), fun y8 => ⟨id, fun l10 l12 => id⟩⟩⟩⟩, id⟩
end
theorem ZNR (p0 : Lnk) (p1 : Svc) : KO tp 39 1 [.ptr (0, 0) 0 0, .agg ((Zal p1).map .d)] [⟨0, true, 94, 10, [vL ZaE p0.files, vS p0.f.name, vS p0.f.space, vL Zan p0.f.imports, vL Zaj p0.f.messages, vL Zag p0.f.enums, vL Zal p0.f.services, vL Zan p0.known, vL Zan p0.messages, vL Zag p0.enums]⟩] (fun _ _ _ _ => True) (ZcF p0 p1) E39 (G39 p0) := ko1 Tryz.func39 Tryz.ntmps39 tok [.cell 4 62, .tmp 5] 1 (fun C co hT y m Post L => mi co 2 (ZGx p0 p1) (lf2 [0, 3, 4] [((0, 0), false), ((1, 3), false), ((1, 4), false)]) nl ii m L fun r g y1 _ m L => sq (rg (Zb8 co tok 2 (ZDy p0 p1 y1) (lf2 [0, 3, 4, 21] [((0, 0), false), ((1, 3), false), ((1, 4), false)]) m L fun r g _ m L => ZaJ co m 79 [vL Zc1 p1.methods] [(1, 22)] ([((1, 22), ⟨0, false, 0, 0, []⟩)] ++ []) (fun z => .ref (1, 22) 1 0 z.length) (fun z => [((1, 22), ⟨1, true, 130, 5, Zaa Zc1 z⟩)]) [] (fun z => trivial) (trivial) (fun z hz r g => Zai (ZOa p1.methods) hz co g [((1, 22), ⟨0, false, 0, 0, []⟩)] [] [((1, 22), ⟨1, true, 130, 5, Zaa Zc1 z⟩)] (lkS []) (fun H' hg ho => trivial) (fun H => ⟨(fun h => by cases h), by kernel_rfl, trivial⟩) (fun H => ⟨fun _ => ⟨rfl, bz⟩, by kernel_rfl, trivial⟩)) fun y2 m => Zca co tok (ZGU p0 p1 y1 y2) (lf2 [0, 3, 4] [((0, 0), false), ((1, 3), false), ((1, 4), false), ((1, 22), true)]) m L fun r g _ m L => sq (mi co 1 (ZF7 p0 p1 y1 y2) (lf2 [0, 3, 4, 26, 27] [((0, 0), false), ((1, 3), false), ((1, 4), false), ((1, 22), true)]) nl ii m L fun r g _ m L => bk 0 (lo (lpF (Zzw p0 p1 y1 y2 co) ii m L (fun r13 m => fo co (ZDc p0 p1 y1 y2 r13) m L fun r g => id))))))) (hB := fun y => ⟨.inr (by kernel_rfl), rfl, trivial⟩)
end
end Go.Proofs.YthagpbkmakocjaaGreat
