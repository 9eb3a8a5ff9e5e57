import Derived.Test.YthagpbkmakocjaaGreatCy19
import Derived.Test.YthagpbkmakocjaaGreatCy13
namespace Go.Proofs.YthagpbkmakocjaaGreat
set_option linter.all false
set_option maxRecDepth 100000
open Go Go.Eng
noncomputable section
abbrev E9 : Scm × Bt × Int → AV := fun y => .tup [.agg ((Zeb y.1).map .d), vS y.2.1, vI y.2.2]
section
variable {C : Cx} (co : CO C 0) (p0 : List Fil) (v3 : Nat) (r4 : List Bt) (e6 : Fil) (y7 : List Bt × List Bt × List Bt) (v8 : Nat) (r9 : List Enm) (e10 : Enm) (y11 : Bt) (r5 r14 y15 : List Enm) (v16 : Nat) (r18 : List Svc) (c26 : List Bt) (e27 : Fil) (y28 : List Bt) (y32 : Msg × Int) (v29 : Nat) (r30 r33 : List Msg) (y37 : Svc × Int) (v34 : Nat) (r35 : List Svc) (r17 : List Msg) (y41 : List Msg × List Enm × List Svc) (r13 : List Bt)
abbrev ZDS := PT 0 (Lv (Nat × List Msg × List Svc × Bt × Bt × List Bt × List Msg × List Enm × List Svc × List Bt × List Bt) (List Msg × List Svc) (Scm × Bt × Int))
abbrev ZKI := PT 0 (Lv (Nat × List Bt × List Enm) (List Bt × List Enm) (Scm × Bt × Int))
abbrev ZI0 := PT 0 (Lv (Nat × List Enm) (List Enm) (Scm × Bt × Int))
abbrev Zu4 := PT 0 (Lv (Nat × List Msg) (List Msg) (Scm × Bt × Int))
abbrev Zww := PT 0 (Lv (Nat × List Svc) (List Svc) (Scm × Bt × Int))
abbrev Zrf := PT 0 (Scm × Bt × Int)
abbrev Zqv : Blk := ⟨0, true, 94, 10, [vL ZaE p0, vS e27.name, vS e27.space, vL Zan e27.imports, vL Zaj e27.messages, vL Zag e27.enums, vL Zal e27.services, vL Zan y28, vL Zan c26, vL Zag r14]⟩
abbrev ZKE : List (Key × Blk) := [((1, 2), ⟨0, true, 26, 3, [.e0, .e0, .e0]⟩), ((1, 18), ⟨0, true, 26, 3, [.ref (1, 1180) 0 0 r30.length, .ref (1, 103) 0 0 y15.length, .ref (1, 1182) 0 0 r18.length]⟩), ((1, 20), ⟨0, true, 86, 6, [vS e27.name, vS e27.space, vL Zan e27.imports, vL Zaj e27.messages, vL Zag e27.enums, vL Zal e27.services]⟩), ((1, 23), ⟨0, true, 48, 5, [vS y32.1.name, vL ZcG y32.1.fields, vL Zdh y32.1.reserved, vL Zan y32.1.gone, vL eNt y32.1.notes]⟩), ((1, 52), (Zqv p0 r14 c26 e27 y28)), ((1, 103), ⟨0, true, 55, 5, Zaa Zag y15⟩), ((1, 1180), ⟨0, true, 48, 5, Zaa Zaj r30⟩), ((1, 1182), ⟨0, true, 62, 3, Zaa Zal r18⟩)]
abbrev Zfz : Blk := ⟨0, true, 26, 3, [.e0, .e0, .e0]⟩
abbrev ZBx : List (Key × Blk) := [((1, 2), Zfz), ((1, 18), ⟨0, true, 26, 3, [.ref (1, 1180) 0 0 r33.length, .ref (1, 103) 0 0 y15.length, .ref (1, 1182) 0 0 r35.length]⟩), ((1, 27), ⟨0, true, 62, 3, [vS y37.1.name, vL Zc1 y37.1.methods, vL eNt y37.1.notes]⟩), ((1, 52), (Zqv p0 r14 c26 e27 y28)), ((1, 103), ⟨0, true, 55, 5, Zaa Zag y15⟩), ((1, 1180), ⟨0, true, 48, 5, Zaa Zaj r33⟩), ((1, 1182), ⟨0, true, 62, 3, Zaa Zal r35⟩)]
abbrev Zk0 : List (Key × Bool) := [((1, 2), false), ((1, 18), false), ((1, 52), false), ((1, 103), true), ((1, 1180), true), ((1, 1182), true)]
abbrev ZmU : List (Key × Bool) := [((1, 2), false), ((1, 18), false), ((1, 20), false), ((1, 52), false), ((1, 103), true), ((1, 1180), true), ((1, 1182), true)]
abbrev ZpB : Blk := ⟨0, true, 86, 6, [vS e27.name, vS e27.space, vL Zan e27.imports, vL Zaj e27.messages, vL Zag e27.enums, vL Zal e27.services]⟩
abbrev ZyC : List (Nat × AV) := [(0, vL ZaE p0), (2, .ptr (1, 2) 0 0), (10, .ptr (1, 52) 0 0), (18, .ptr (1, 18) 0 0), (20, .ptr (1, 20) 0 0), (105, vL ZaE p0), (106, vN p0.length), (107, vN v16), (122, vL Zaj e27.messages), (123, vN e27.messages.length), (124, vN v29)]
abbrev ZHD : List (Key × Blk) := [((1, 2), Zfz), ((1, 12), ⟨0, true, 86, 6, [vS e6.name, vS e6.space, vL Zan e6.imports, vL Zaj e6.messages, vL Zag e6.enums, vL Zal e6.services]⟩), ((1, 52), ⟨0, true, 94, 10, [vL ZaE p0, vS ⟨#[]⟩, vS ⟨#[]⟩, .e0, .e0, .e0, .e0, .e0, .ref (1, 1528) 0 0 (r4 ++ y7.1).length, .ref (1, 1529) 0 0 r9.length]⟩), ((1, 1528), ⟨0, true, 9, 1, Zaa Zan (r4 ++ y7.1)⟩), ((1, 1529), ⟨0, true, 55, 5, Zaa Zag r9⟩)]
abbrev Zzi : List (Nat × AV) := [(0, vL ZaE p0), (2, .ptr (1, 2) 0 0), (10, .ptr (1, 52) 0 0), (18, .ptr (1, 18) 0 0), (105, vL ZaE p0), (106, vN p0.length), (107, vN v16), (148, vL Zal e27.services), (149, vN e27.services.length), (150, vN v34)]
abbrev ZB6 : List (Nat × AV) := [(0, vL ZaE p0), (2, .ptr (1, 2) 0 0), (10, .ptr (1, 52) 0 0), (12, .ptr (1, 12) 0 0), (53, vL ZaE p0), (54, vN p0.length), (55, vN v3), (75, vL Zag e6.enums), (76, vN e6.enums.length), (77, vN v8)]
abbrev ZHb : List (Key × Blk) := [((1, 2), Zfz), ((1, 18), ⟨0, true, 26, 3, [.e0, .ref (1, 103) 0 0 y15.length, .e0]⟩), ((1, 52), ⟨0, true, 94, 10, [vL ZaE p0, vS ⟨#[]⟩, vS ⟨#[]⟩, .e0, .e0, .e0, .e0, .e0, .ref (1, 1528) 0 0 r13.length, vL Zag r14]⟩), ((1, 103), ⟨0, true, 55, 5, Zaa Zag y15⟩), ((1, 1528), ⟨0, true, 9, 1, Zaa Zan r13⟩)]
abbrev ZBZ : List (Key × Bool) := [((1, 2), false), ((1, 18), false), ((1, 20), false), ((1, 23), false), ((1, 52), false), ((1, 103), true), ((1, 1180), true), ((1, 1182), true)]
abbrev ZsX : List (Key × Bool) := [((1, 2), false), ((1, 12), false), ((1, 52), false), ((1, 1528), true), ((1, 1529), true)]
abbrev ZwY : List (Nat × AV) := [(0, vL ZaE p0), (2, .ptr (1, 2) 0 0), (10, .ptr (1, 52) 0 0), (18, .ptr (1, 18) 0 0), (105, vL ZaE p0), (106, vN p0.length), (107, vN v16)]
abbrev ZCQ : List (Key × Blk) := [((1, 2), Zfz), ((1, 52), ⟨0, true, 94, 10, [vL ZaE p0, vS ⟨#[]⟩, vS ⟨#[]⟩, .e0, .e0, .e0, .e0, .e0, .ref (1, 1528) 0 0 r4.length, .ref (1, 1529) 0 0 r5.length]⟩), ((1, 1528), ⟨0, true, 9, 1, Zaa Zan r4⟩), ((1, 1529), ⟨0, true, 55, 5, Zaa Zag r5⟩)]
abbrev ZAZ : List (Key × Bool) := [((1, 2), false), ((1, 18), false), ((1, 27), false), ((1, 52), false), ((1, 103), true), ((1, 1180), true), ((1, 1182), true)]
abbrev ZrS : List (Key × Bool) := [((1, 2), false), ((1, 52), false), ((1, 1528), true), ((1, 1529), true)]
abbrev Zz4 : List (Nat × AV) := [(0, vL ZaE p0), (2, .ptr (1, 2) 0 0), (10, .ptr (1, 52) 0 0), (53, vL ZaE p0), (54, vN p0.length), (55, vN v3)]
abbrev ZId : List (Nat × AV) := [(0, vL ZaE p0), (2, .ptr (1, 2) 0 0), (10, .ptr (1, 52) 0 0), (18, .ptr (1, 18) 0 0), (20, .ptr (1, 20) 0 0), (105, vL ZaE p0), (106, vN p0.length), (107, vN v16)]
abbrev Zsr : List Nat := [0, 2, 10, 18, 20, 105, 106, 107, 122, 123, 124]
abbrev Zrw : List Nat := [0, 2, 10, 18, 105, 106, 107, 148, 149, 150]
abbrev ZHJ : List (Key × Blk) := [((1, 2), Zfz), ((1, 52), ⟨0, true, 94, 10, [vL ZaE p0, vS ⟨#[]⟩, vS ⟨#[]⟩, .e0, .e0, .e0, .e0, .e0, .e0, .e0]⟩)]
abbrev Ztl : List Nat := [0, 2, 10, 12, 53, 54, 55, 75, 76, 77]
abbrev Zyk : List Nat := [0, 2, 10, 18, 105, 106, 107]
abbrev ZqF (t : List (Nat × AV)) : List (Nat × AV) := (0, vL ZaE p0) :: (2, .ptr (1, 2) 0 0) :: (10, .ptr (1, 52) 0 0) :: t
def ZKc : Nat × List Bt × List Enm → St := fun (v3, r4, r5) => mkS (Zz4 p0 v3) (ZCQ p0 r4 r5)
def ZMv : List Bt × List Enm → Nat × St := fun (r13, r14) => (0, mkS [(0, vL ZaE p0), (2, .ptr (1, 2) 0 0), (10, .ptr (1, 52) 0 0)] [((1, 2), Zfz), ((1, 52), ⟨0, true, 94, 10, [vL ZaE p0, vS ⟨#[]⟩, vS ⟨#[]⟩, .e0, .e0, .e0, .e0, .e0, .ref (1, 1528) 0 0 r13.length, .ref (1, 1529) 0 0 r14.length]⟩), ((1, 1528), ⟨0, true, 9, 1, Zaa Zan r13⟩), ((1, 1529), ⟨0, true, 55, 5, Zaa Zag r14⟩)])
def ZKG : Nat × List Enm → St := fun (v8, r9) => mkS (ZB6 p0 v3 e6 v8) (ZHD p0 r4 e6 y7 r9)
def ZLg : List Enm → Nat × St := fun r12 => (2, mkS (Zz4 p0 v3) [((1, 2), Zfz), ((1, 52), ⟨0, true, 94, 10, [vL ZaE p0, vS ⟨#[]⟩, vS ⟨#[]⟩, .e0, .e0, .e0, .e0, .e0, .ref (1, 1528) 0 0 (r4 ++ y7.1).length, .ref (1, 1529) 0 0 r12.length]⟩), ((1, 1528), ⟨0, true, 9, 1, Zaa Zan (r4 ++ y7.1)⟩), ((1, 1529), ⟨0, true, 55, 5, Zaa Zag r12⟩)])
def ZMo : ZI0 := vs (wa v8 1) <| vz (fl (r4 ++ y7.1)) <| vz (fl (r9 ++ ([(.mk y11 e10.opn e10.items e10.reserved e10.notes : Enm)]))) <| ln (ZKG p0 v3 r4 e6 y7) (v8 + 1, r9 ++ ([(.mk y11 e10.opn e10.items e10.reserved e10.notes : Enm)]))
def ZLE : ZI0 := vw .go <| vw .go <| vw .sep <| ap r9 ((.mk y11 e10.opn e10.items e10.reserved e10.notes : Enm) : Enm) <| vw .go <| vz (fl (r4 ++ y7.1)) <| vz (fl (r9 ++ ([(.mk y11 e10.opn e10.items e10.reserved e10.notes : Enm)]))) <| lc (mkS (ZB6 p0 v3 e6 v8) [((1, 2), Zfz), ((1, 12), ⟨0, true, 86, 6, [vS e6.name, vS e6.space, vL Zan e6.imports, vL Zaj e6.messages, vL Zag e6.enums, vL Zal e6.services]⟩), ((1, 52), ⟨0, true, 94, 10, [vL ZaE p0, vS ⟨#[]⟩, vS ⟨#[]⟩, .e0, .e0, .e0, .e0, .e0, .ref (1, 1528) 0 0 (r4 ++ y7.1).length, .ref (1, 1529) 0 0 (r9 ++ ([(.mk y11 e10.opn e10.items e10.reserved e10.notes : Enm)])).length]⟩), ((1, 1528), ⟨0, true, 9, 1, Zaa Zan (r4 ++ y7.1)⟩), ((1, 1529), ⟨0, true, 55, 5, Zaa Zag (r9 ++ ([(.mk y11 e10.opn e10.items e10.reserved e10.notes : Enm)]))⟩)]) ((ZMo p0 v3 r4 e6 y7 v8 r9 e10 y11).m)
def ZLF : ZI0 := ix e6.enums v8 fun e10 => vw .go <| vw .go <| vw .go <| cl (ZAW e6.space e10.name) fun y11 => vw .go <| vz (fl (r4 ++ y7.1)) <| vz (fl r9) <| lc (mkS (ZqF p0 [(12, .ptr (1, 12) 0 0), (17, .ptr (1, 17) 0 0), (53, vL ZaE p0), (54, vN p0.length), (55, vN v3), (75, vL Zag e6.enums), (76, vN e6.enums.length), (77, vN v8)]) [((1, 2), Zfz), ((1, 12), ⟨0, true, 86, 6, [vS e6.name, vS e6.space, vL Zan e6.imports, vL Zaj e6.messages, vL Zag e6.enums, vL Zal e6.services]⟩), ((1, 17), ⟨0, true, 55, 5, [vS y11, vB e10.opn, vL Zec e10.items, vL Zdh e10.reserved, vL eNt e10.notes]⟩), ((1, 52), ⟨0, true, 94, 10, [vL ZaE p0, vS ⟨#[]⟩, vS ⟨#[]⟩, .e0, .e0, .e0, .e0, .e0, .ref (1, 1528) 0 0 (r4 ++ y7.1).length, .ref (1, 1529) 0 0 r9.length]⟩), ((1, 1528), ⟨0, true, 9, 1, Zaa Zan (r4 ++ y7.1)⟩), ((1, 1529), ⟨0, true, 55, 5, Zaa Zag r9⟩)]) ((ZLE p0 v3 r4 e6 y7 v8 r9 e10 y11).m)
def ZLp : ZI0 := br (decide ((v8 : Int) < (e6.enums.length : Int))) (vz (fl (r4 ++ y7.1)) <| vz (fl r9) <| lc (mkS (ZB6 p0 v3 e6 v8) (ZHD p0 r4 e6 y7 r9)) ((ZLF p0 v3 r4 e6 y7 v8 r9).m)) (vz (fl (r4 ++ y7.1)) <| vz (fl r9) <| lxe (ZLg p0 v3 r4 y7) r9)
def ZLH := fun ((v8, r9) : Nat × List Enm) => (ZLp p0 v3 r4 e6 y7 v8 r9).m
def ZLv (r12 : List Enm) : ZKI := vs (wa v3 1) <| vz (fl (r4 ++ y7.1)) <| vz (fl r12) <| ln (ZKc p0) (v3 + 1, r4 ++ y7.1, r12)
def ZLe : ZKI := ix p0 v3 fun e6 => vw .go <| vw .go <| cl (ZIJ e6) fun y7 => vw .go <| aq r4 y7.1 <| vw .go <| vw .go <| vz (eqL e6.enums) <| vz (fl (r4 ++ y7.1)) <| vz (fl r5) <| lc (ZKG p0 v3 r4 e6 y7 (0, r5)) ((Zad (ZLH p0 v3 r4 e6 y7) big (0, r5)).bind (Sum.elim (fun r12 => (ZLv p0 v3 r4 y7 r12).m) (fun z => some (.rt z))))
def ZLN : ZKI := br (decide ((v3 : Int) < (p0.length : Int))) (vz (fl r4) <| vz (fl r5) <| lc (mkS (Zz4 p0 v3) (ZCQ p0 r4 r5)) ((ZLe p0 v3 r4 r5).m)) (vz (fl r4) <| vz (fl r5) <| lxe (ZMv p0) (r4, r5))
def ZMq := fun ((v3, r4, r5) : Nat × List Bt × List Enm) => (ZLN p0 v3 r4 r5).m
def ZJL : Nat × List Msg × List Svc × Bt × Bt × List Bt × List Msg × List Enm × List Svc × List Bt × List Bt → St := fun (v16, r17, r18, c19, c20, c21, c22, c23, c24, c25, c26) => mkS (ZwY p0 v16) [((1, 2), Zfz), ((1, 18), ⟨0, true, 26, 3, [.ref (1, 1180) 0 0 r17.length, .ref (1, 103) 0 0 y15.length, .ref (1, 1182) 0 0 r18.length]⟩), ((1, 52), ⟨0, true, 94, 10, [vL ZaE p0, vS c19, vS c20, vL Zan c21, vL Zaj c22, vL Zag c23, vL Zal c24, vL Zan c25, vL Zan c26, vL Zag r14]⟩), ((1, 103), ⟨0, true, 55, 5, Zaa Zag y15⟩), ((1, 1180), ⟨0, true, 48, 5, Zaa Zaj r17⟩), ((1, 1182), ⟨0, true, 62, 3, Zaa Zal r18⟩)]
def ZMz : List Msg × List Svc → Nat × St := fun (r39, r40) => (4, mkS [(2, .ptr (1, 2) 0 0), (18, .ptr (1, 18) 0 0)] [((1, 2), Zfz), ((1, 18), ⟨0, true, 26, 3, [.ref (1, 1180) 0 0 r39.length, .ref (1, 103) 0 0 y15.length, .ref (1, 1182) 0 0 r40.length]⟩), ((1, 103), ⟨0, true, 55, 5, Zaa Zag y15⟩), ((1, 1180), ⟨0, true, 48, 5, Zaa Zaj r39⟩), ((1, 1182), ⟨0, true, 62, 3, Zaa Zal r40⟩)])
def ZKO : Nat × List Msg → St := fun (v29, r30) => mkS (ZyC p0 v16 e27 v29) [((1, 2), Zfz), ((1, 18), ⟨0, true, 26, 3, [.ref (1, 1180) 0 0 r30.length, .ref (1, 103) 0 0 y15.length, .ref (1, 1182) 0 0 r18.length]⟩), ((1, 20), (ZpB e27)), ((1, 52), (Zqv p0 r14 c26 e27 y28)), ((1, 103), ⟨0, true, 55, 5, Zaa Zag y15⟩), ((1, 1180), ⟨0, true, 48, 5, Zaa Zaj r30⟩), ((1, 1182), ⟨0, true, 62, 3, Zaa Zal r18⟩)]
def ZMa : List Msg → Nat × St := fun r33 => (6, mkS (ZId p0 v16) [((1, 2), Zfz), ((1, 18), ⟨0, true, 26, 3, [.ref (1, 1180) 0 0 r33.length, .ref (1, 103) 0 0 y15.length, .ref (1, 1182) 0 0 r18.length]⟩), ((1, 20), (ZpB e27)), ((1, 52), (Zqv p0 r14 c26 e27 y28)), ((1, 103), ⟨0, true, 55, 5, Zaa Zag y15⟩), ((1, 1180), ⟨0, true, 48, 5, Zaa Zaj r33⟩), ((1, 1182), ⟨0, true, 62, 3, Zaa Zal r18⟩)])
def ZMG : Zu4 := lrt E9 (fun _ => []) ((.mk [] [] [] : Scm), y32.1.name, y32.2)
def ZL0 : Zu4 := vw (.fzb 23 [23]) <| vw .sep <| vw .go <| lc (mkS [(2, .ptr (1, 2) 0 0), (3, vS y32.1.name), (4, vI y32.2)] [((1, 2), Zfz)]) ((ZMG y32).m)
def ZGS : Zu4 := vs (wa v29 1) <| vz (fl y15) <| vz (fl (r30 ++ [y32.1])) <| vz (fl r18) <| ln (ZKO p0 r14 y15 v16 r18 c26 e27 y28) (v29 + 1, r30 ++ [y32.1])
def ZDG : Zu4 := vw .go <| vw .go <| vw .sep <| ap r30 (y32.1 : Msg) <| vw .go <| vz (fl y15) <| vz (fl (r30 ++ [y32.1])) <| vz (fl r18) <| lc (mkS (ZyC p0 v16 e27 v29) [((1, 2), Zfz), ((1, 18), ⟨0, true, 26, 3, [.ref (1, 1180) 0 0 (r30 ++ [y32.1]).length, .ref (1, 103) 0 0 y15.length, .ref (1, 1182) 0 0 r18.length]⟩), ((1, 20), (ZpB e27)), ((1, 52), (Zqv p0 r14 c26 e27 y28)), ((1, 103), ⟨0, true, 55, 5, Zaa Zag y15⟩), ((1, 1180), ⟨0, true, 48, 5, Zaa Zaj (r30 ++ [y32.1])⟩), ((1, 1182), ⟨0, true, 62, 3, Zaa Zal r18⟩)]) ((ZGS p0 r14 y15 v16 r18 c26 e27 y28 y32 v29 r30).m)
def ZEB : Zu4 := vz (fl y15) <| vz (fl r30) <| vz (fl r18) <| lc (mkS (ZqF p0 [(18, .ptr (1, 18) 0 0), (20, .ptr (1, 20) 0 0), (23, .ptr (1, 23) 0 0), (105, vL ZaE p0), (106, vN p0.length), (107, vN v16), (122, vL Zaj e27.messages), (123, vN e27.messages.length), (124, vN v29)]) (ZKE p0 r14 y15 r18 c26 e27 y28 y32 r30)) ((ZDG p0 r14 y15 v16 r18 c26 e27 y28 y32 v29 r30).m)
def ZHn : Zu4 := vz (fl y15) <| vz (fl r30) <| vz (fl r18) <| lc (mkS (ZqF p0 [(18, .ptr (1, 18) 0 0), (20, .ptr (1, 20) 0 0), (23, .ptr (1, 23) 0 0), (24, vI y32.2), (105, vL ZaE p0), (106, vN p0.length), (107, vN v16), (122, vL Zaj e27.messages), (123, vN e27.messages.length), (124, vN v29), (135, vB (!decide (y32.2 = (0 : Int))))]) (ZKE p0 r14 y15 r18 c26 e27 y28 y32 r30)) (if (!decide (y32.2 = (0 : Int))) = true then (ZL0 y32).m else (ZEB p0 r14 y15 v16 r18 c26 e27 y28 y32 v29 r30).m)
def ZFW : Zu4 := ix e27.messages v29 fun e31 => vw .go <| vw .go <| cs tp 38 [.ptr (1, 52) 0 0, .agg ((Zaj e31).map .d)] [(1, 52)] [((1, 52), ⟨0, true, 94, 10, [vL ZaE p0, vS e27.name, vS e27.space, vL Zan e27.imports, vL Zaj e27.messages, vL Zag e27.enums, vL Zal e27.services, vL Zan y28, vL Zan c26, vL Zag r14]⟩)] (Zcz (.mk p0 e27 y28 c26 r14 : Lnk) e31) (fun y => .tup [.agg ((Zaj y.1).map .d), vI y.2]) fun y32 => vw .go <| vz (fl y15) <| vz (fl r30) <| vz (fl r18) <| lc (mkS (ZqF p0 [(18, .ptr (1, 18) 0 0), (20, .ptr (1, 20) 0 0), (23, .ptr (1, 23) 0 0), (24, vI y32.2), (105, vL ZaE p0), (106, vN p0.length), (107, vN v16), (122, vL Zaj e27.messages), (123, vN e27.messages.length), (124, vN v29)]) (ZKE p0 r14 y15 r18 c26 e27 y28 y32 r30)) ((ZHn p0 r14 y15 v16 r18 c26 e27 y28 y32 v29 r30).m)
def ZFF : Zu4 := br (decide ((v29 : Int) < (e27.messages.length : Int))) (vz (fl y15) <| vz (fl r30) <| vz (fl r18) <| lc (mkS (ZyC p0 v16 e27 v29) [((1, 2), Zfz), ((1, 18), ⟨0, true, 26, 3, [.ref (1, 1180) 0 0 r30.length, .ref (1, 103) 0 0 y15.length, .ref (1, 1182) 0 0 r18.length]⟩), ((1, 20), (ZpB e27)), ((1, 52), (Zqv p0 r14 c26 e27 y28)), ((1, 103), ⟨0, true, 55, 5, Zaa Zag y15⟩), ((1, 1180), ⟨0, true, 48, 5, Zaa Zaj r30⟩), ((1, 1182), ⟨0, true, 62, 3, Zaa Zal r18⟩)]) ((ZFW p0 r14 y15 v16 r18 c26 e27 y28 v29 r30).m)) (vz (fl y15) <| vz (fl r30) <| vz (fl r18) <| lxe (ZMa p0 r14 y15 v16 r18 c26 e27 y28) r30)
def ZMh := fun ((v29, r30) : Nat × List Msg) => (ZFF p0 r14 y15 v16 r18 c26 e27 y28 v29 r30).m
def ZKv : Nat × List Svc → St := fun (v34, r35) => mkS (Zzi p0 v16 e27 v34) [((1, 2), Zfz), ((1, 18), ⟨0, true, 26, 3, [.ref (1, 1180) 0 0 r33.length, .ref (1, 103) 0 0 y15.length, .ref (1, 1182) 0 0 r35.length]⟩), ((1, 52), (Zqv p0 r14 c26 e27 y28)), ((1, 103), ⟨0, true, 55, 5, Zaa Zag y15⟩), ((1, 1180), ⟨0, true, 48, 5, Zaa Zaj r33⟩), ((1, 1182), ⟨0, true, 62, 3, Zaa Zal r35⟩)]
def ZMH : List Svc → Nat × St := fun r38 => (8, mkS (ZwY p0 v16) [((1, 2), Zfz), ((1, 18), ⟨0, true, 26, 3, [.ref (1, 1180) 0 0 r33.length, .ref (1, 103) 0 0 y15.length, .ref (1, 1182) 0 0 r38.length]⟩), ((1, 52), (Zqv p0 r14 c26 e27 y28)), ((1, 103), ⟨0, true, 55, 5, Zaa Zag y15⟩), ((1, 1180), ⟨0, true, 48, 5, Zaa Zaj r33⟩), ((1, 1182), ⟨0, true, 62, 3, Zaa Zal r38⟩)])
def ZFu : Zww := lrt E9 (fun _ => []) ((.mk [] [] [] : Scm), y37.1.name, y37.2)
def ZG4 : Zww := vw (.fzb 27 [27]) <| vw .sep <| vw .go <| lc (mkS [(2, .ptr (1, 2) 0 0), (3, vS y37.1.name), (4, vI y37.2)] [((1, 2), Zfz)]) ((ZFu y37).m)
def ZFb : Zww := vs (wa v34 1) <| vz (fl y15) <| vz (fl r33) <| vz (fl (r35 ++ [y37.1])) <| ln (ZKv p0 r14 y15 v16 c26 e27 y28 r33) (v34 + 1, r35 ++ [y37.1])
def ZIx : Zww := vw .go <| vw .go <| vw .sep <| ap r35 (y37.1 : Svc) <| vw .go <| vz (fl y15) <| vz (fl r33) <| vz (fl (r35 ++ [y37.1])) <| lc (mkS (Zzi p0 v16 e27 v34) [((1, 2), Zfz), ((1, 18), ⟨0, true, 26, 3, [.ref (1, 1180) 0 0 r33.length, .ref (1, 103) 0 0 y15.length, .ref (1, 1182) 0 0 (r35 ++ [y37.1]).length]⟩), ((1, 52), (Zqv p0 r14 c26 e27 y28)), ((1, 103), ⟨0, true, 55, 5, Zaa Zag y15⟩), ((1, 1180), ⟨0, true, 48, 5, Zaa Zaj r33⟩), ((1, 1182), ⟨0, true, 62, 3, Zaa Zal (r35 ++ [y37.1])⟩)]) ((ZFb p0 r14 y15 v16 c26 e27 y28 r33 y37 v34 r35).m)
def ZD7 : Zww := vz (fl y15) <| vz (fl r33) <| vz (fl r35) <| lc (mkS (ZqF p0 [(18, .ptr (1, 18) 0 0), (27, .ptr (1, 27) 0 0), (105, vL ZaE p0), (106, vN p0.length), (107, vN v16), (148, vL Zal e27.services), (149, vN e27.services.length), (150, vN v34)]) (ZBx p0 r14 y15 c26 e27 y28 r33 y37 r35)) ((ZIx p0 r14 y15 v16 c26 e27 y28 r33 y37 v34 r35).m)
def ZDp : Zww := vz (fl y15) <| vz (fl r33) <| vz (fl r35) <| lc (mkS (ZqF p0 [(18, .ptr (1, 18) 0 0), (27, .ptr (1, 27) 0 0), (28, vI y37.2), (105, vL ZaE p0), (106, vN p0.length), (107, vN v16), (148, vL Zal e27.services), (149, vN e27.services.length), (150, vN v34), (161, vB (!decide (y37.2 = (0 : Int))))]) (ZBx p0 r14 y15 c26 e27 y28 r33 y37 r35)) (if (!decide (y37.2 = (0 : Int))) = true then (ZG4 y37).m else (ZD7 p0 r14 y15 v16 c26 e27 y28 r33 y37 v34 r35).m)
def ZH1 : Zww := ix e27.services v34 fun e36 => vw .go <| vw .go <| cs tp 39 [.ptr (1, 52) 0 0, .agg ((Zal e36).map .d)] [(1, 52)] [((1, 52), ⟨0, true, 94, 10, [vL ZaE p0, vS e27.name, vS e27.space, vL Zan e27.imports, vL Zaj e27.messages, vL Zag e27.enums, vL Zal e27.services, vL Zan y28, vL Zan c26, vL Zag r14]⟩)] (ZcF (.mk p0 e27 y28 c26 r14 : Lnk) e36) (fun y => .tup [.agg ((Zal y.1).map .d), vI y.2]) fun y37 => vw .go <| vz (fl y15) <| vz (fl r33) <| vz (fl r35) <| lc (mkS (ZqF p0 [(18, .ptr (1, 18) 0 0), (27, .ptr (1, 27) 0 0), (28, vI y37.2), (105, vL ZaE p0), (106, vN p0.length), (107, vN v16), (148, vL Zal e27.services), (149, vN e27.services.length), (150, vN v34)]) (ZBx p0 r14 y15 c26 e27 y28 r33 y37 r35)) ((ZDp p0 r14 y15 v16 c26 e27 y28 r33 y37 v34 r35).m)
def ZIp : Zww := br (decide ((v34 : Int) < (e27.services.length : Int))) (vz (fl y15) <| vz (fl r33) <| vz (fl r35) <| lc (mkS (Zzi p0 v16 e27 v34) [((1, 2), Zfz), ((1, 18), ⟨0, true, 26, 3, [.ref (1, 1180) 0 0 r33.length, .ref (1, 103) 0 0 y15.length, .ref (1, 1182) 0 0 r35.length]⟩), ((1, 52), (Zqv p0 r14 c26 e27 y28)), ((1, 103), ⟨0, true, 55, 5, Zaa Zag y15⟩), ((1, 1180), ⟨0, true, 48, 5, Zaa Zaj r33⟩), ((1, 1182), ⟨0, true, 62, 3, Zaa Zal r35⟩)]) ((ZH1 p0 r14 y15 v16 c26 e27 y28 r33 v34 r35).m)) (vz (fl y15) <| vz (fl r33) <| vz (fl r35) <| lxe (ZMH p0 r14 y15 v16 c26 e27 y28 r33) r35)
def ZLS := fun ((v34, r35) : Nat × List Svc) => (ZIp p0 r14 y15 v16 c26 e27 y28 r33 v34 r35).m
def ZEo (r38 : List Svc) : ZDS := vs (wa v16 1) <| vz (fl y15) <| vz (fl r33) <| vz (fl r38) <| ln (ZJL p0 r14 y15) (v16 + 1, r33, r38, e27.name, e27.space, e27.imports, e27.messages, e27.enums, e27.services, y28, c26)
def ZGY : ZDS := vw .go <| vz (eqL e27.services) <| vz (fl y15) <| vz (fl r33) <| vz (fl r18) <| lc (ZKv p0 r14 y15 v16 c26 e27 y28 r33 (0, r18)) ((Zad (ZLS p0 r14 y15 v16 c26 e27 y28 r33) big (0, r18)).bind (Sum.elim (fun r38 => (ZEo p0 r14 y15 v16 c26 e27 y28 r33 r38).m) (fun z => some (.rt z))))
def ZGK : ZDS := vw .go <| vz (eqL e27.messages) <| vz (fl y15) <| vz (fl r17) <| vz (fl r18) <| lc (ZKO p0 r14 y15 v16 r18 c26 e27 y28 (0, r17)) ((Zad (ZMh p0 r14 y15 v16 r18 c26 e27 y28) big (0, r17)).bind (Sum.elim (fun r33 => (ZGY p0 r14 y15 v16 r18 c26 e27 y28 r33).m) (fun z => some (.rt z))))
def ZGw : ZDS := ix p0 v16 fun e27 => vw .go <| vw .go <| vw .go <| cl (ZN7 p0 e27) fun y28 => vw .go <| vw .go <| vz (fl y15) <| vz (fl r17) <| vz (fl r18) <| lc (mkS (ZId p0 v16) [((1, 2), Zfz), ((1, 18), ⟨0, true, 26, 3, [.ref (1, 1180) 0 0 r17.length, .ref (1, 103) 0 0 y15.length, .ref (1, 1182) 0 0 r18.length]⟩), ((1, 20), (ZpB e27)), ((1, 52), (Zqv p0 r14 c26 e27 y28)), ((1, 103), ⟨0, true, 55, 5, Zaa Zag y15⟩), ((1, 1180), ⟨0, true, 48, 5, Zaa Zaj r17⟩), ((1, 1182), ⟨0, true, 62, 3, Zaa Zal r18⟩)]) ((ZGK p0 r14 y15 v16 r18 c26 e27 y28 r17).m)
def ZHh (c19 : Bt) (c20 : Bt) (c21 : List Bt) (c22 : List Msg) (c23 : List Enm) (c24 : List Svc) (c25 : List Bt) : ZDS := br (decide ((v16 : Int) < (p0.length : Int))) (vz (fl y15) <| vz (fl r17) <| vz (fl r18) <| lc (mkS (ZwY p0 v16) [((1, 2), Zfz), ((1, 18), ⟨0, true, 26, 3, [.ref (1, 1180) 0 0 r17.length, .ref (1, 103) 0 0 y15.length, .ref (1, 1182) 0 0 r18.length]⟩), ((1, 52), ⟨0, true, 94, 10, [vL ZaE p0, vS c19, vS c20, vL Zan c21, vL Zaj c22, vL Zag c23, vL Zal c24, vL Zan c25, vL Zan c26, vL Zag r14]⟩), ((1, 103), ⟨0, true, 55, 5, Zaa Zag y15⟩), ((1, 1180), ⟨0, true, 48, 5, Zaa Zaj r17⟩), ((1, 1182), ⟨0, true, 62, 3, Zaa Zal r18⟩)]) ((ZGw p0 r14 y15 v16 r18 c26 r17).m)) (vz (fl y15) <| vz (fl r17) <| vz (fl r18) <| lxe (ZMz y15) (r17, r18))
def ZLx := fun ((v16, r17, r18, c19, c20, c21, c22, c23, c24, c25, c26) : Nat × List Msg × List Svc × Bt × Bt × List Bt × List Msg × List Enm × List Svc × List Bt × List Bt) => (ZHh p0 r14 y15 v16 r18 c26 r17 c19 c20 c21 c22 c23 c24 c25).m
def ZDq : Zrf := vz (fr y41.1) <| vz (fr y41.2.1) <| vz (fr y41.2.2) <| lr E9 (fun _ => []) ((.mk y41.1 y41.2.1 y41.2.2 : Scm), ⟨#[]⟩, 0)
def ZDi : Zrf := vw .go <| vz (fl y41.2.1) <| vz (fl y41.1) <| vz (fl y41.2.2) <| lc (mkS [(2, .ptr (1, 2) 0 0), (3, vS ⟨#[]⟩), (4, vI 0)] [((1, 2), ⟨0, true, 26, 3, [.ref (1, 1180) 0 0 y41.1.length, .ref (1, 103) 0 0 y41.2.1.length, .ref (1, 1182) 0 0 y41.2.2.length]⟩), ((1, 103), ⟨0, true, 55, 5, Zaa Zag y41.2.1⟩), ((1, 1180), ⟨0, true, 48, 5, Zaa Zaj y41.1⟩), ((1, 1182), ⟨0, true, 62, 3, Zaa Zal y41.2.2⟩)]) ((ZDq y41).m)
def ZIk (r39 : List Msg) (r40 : List Svc) : Zrf := vw .go <| vz (fl y15) <| vz (fl r39) <| vz (fl r40) <| lc (mkS [(2, .ptr (1, 2) 0 0), (174, .agg [.ref (1, 1180) 0 0 r39.length, .ref (1, 103) 0 0 y15.length, .ref (1, 1182) 0 0 r40.length])] [((1, 2), Zfz), ((1, 103), ⟨0, true, 55, 5, Zaa Zag y15⟩), ((1, 1180), ⟨0, true, 48, 5, Zaa Zaj r39⟩), ((1, 1182), ⟨0, true, 62, 3, Zaa Zal r40⟩)]) ((Zck r39 y15 r40).bind fun y41 => (ZDi y41).m)
def ZHL : Zrf := vw (.adc (1, 18) 0 1180 48 5) <| vw (.adc (1, 18) 2 1182 62 3) <| vw (.adc (1, 52) 3 1523 9 1) <| vw (.frz 1523 [] [((1, 52), 3, (([] : List Bt).map Zan))]) <| vz (fz ([] : List Bt)) <| vw (.adc (1, 52) 4 1524 48 5) <| vw (.frz 1524 [] [((1, 52), 4, (([] : List Msg).map Zaj))]) <| vz (fz ([] : List Msg)) <| vw (.adc (1, 52) 5 1525 55 5) <| vw (.frz 1525 [] [((1, 52), 5, (([] : List Enm).map Zag))]) <| vz (fz ([] : List Enm)) <| vw (.adc (1, 52) 6 1526 62 3) <| vw (.frz 1526 [] [((1, 52), 6, (([] : List Svc).map Zal))]) <| vz (fz ([] : List Svc)) <| vw (.adc (1, 52) 7 1527 9 1) <| vw (.frz 1527 [] [((1, 52), 7, (([] : List Bt).map Zan))]) <| vz (fz ([] : List Bt)) <| vw (.frz 1528 [] [((1, 52), 8, (r13.map Zan))]) <| vz (fz r13) <| vz (fl y15) <| vz (fl ([] : List Msg)) <| vz (fl ([] : List Svc)) <| lc (ZJL p0 r14 y15 (0, ([] : List Msg), ([] : List Svc), ⟨#[]⟩, ⟨#[]⟩, ([] : List Bt), ([] : List Msg), ([] : List Enm), ([] : List Svc), ([] : List Bt), r13)) ((Zad (ZLx p0 r14 y15) big (0, ([] : List Msg), ([] : List Svc), ⟨#[]⟩, ⟨#[]⟩, ([] : List Bt), ([] : List Msg), ([] : List Enm), ([] : List Svc), ([] : List Bt), r13)).bind (Sum.elim (fun (r39, r40) => (ZIk y15 r39 r40).m) some))
def ZGZ : Zrf := vz (eqL p0) <| vz (fl y15) <| vz (fl r13) <| lc (mkS (ZqF p0 [(18, .ptr (1, 18) 0 0), (105, vL ZaE p0), (106, vN p0.length), (107, vI 0)]) (ZHb p0 r14 y15 r13)) ((ZHL p0 r14 y15 r13).m)
def ZG3 : Zrf := vw .go <| vz (fl y15) <| vz (fl r13) <| lc (mkS (ZqF p0 [(18, .ptr (1, 18) 0 0)]) (ZHb p0 r14 y15 r13)) ((ZGZ p0 r14 y15 r13).m)
def ZDO : Zrf := vw (.frz 1529 [] [((1, 52), 9, (r14.map Zag))]) <| vz (fz r14) <| vw .sep <| vw .go <| vz (fl r13) <| lc (mkS (ZqF p0 [(102, vL Zag r14)]) [((1, 2), Zfz), ((1, 52), ⟨0, true, 94, 10, [vL ZaE p0, vS ⟨#[]⟩, vS ⟨#[]⟩, .e0, .e0, .e0, .e0, .e0, .ref (1, 1528) 0 0 r13.length, vL Zag r14]⟩), ((1, 1528), ⟨0, true, 9, 1, Zaa Zan r13⟩)]) ((ZcC r14).bind fun y15 => (ZG3 p0 r14 y15 r13).m)
def ZHk : Zrf := vw (.adc (1, 52) 8 1528 9 1) <| vw (.adc (1, 52) 9 1529 55 5) <| vz (fl ([] : List Bt)) <| vz (fl ([] : List Enm)) <| lc (ZKc p0 (0, ([] : List Bt), ([] : List Enm))) ((Zad (ZMq p0) big (0, ([] : List Bt), ([] : List Enm))).bind (Sum.elim (fun (r13, r14) => (ZDO p0 r14 r13).m) some))
def ZG6 : Zrf := vz (eqL p0) <| lc (mkS (ZqF p0 [(53, vL ZaE p0), (54, vN p0.length), (55, vI 0)]) (ZHJ p0)) ((ZHk p0).m)
def ZG5 : Zrf := cl (ZM9 p0) fun y1 => br (!decide (y1.2.2 = (0 : Int))) (vw .go <| lr E9 (fun _ => []) ((.mk [] [] [] : Scm), y1.2.1, y1.2.2)) (cl (ZOh p0) fun y2 => br (!decide (y2.2 = (0 : Int))) (vw .go <| lr E9 (fun _ => []) ((.mk [] [] [] : Scm), y2.1, y2.2)) (lc (mkS [(0, vL ZaE p0), (2, .ptr (1, 2) 0 0), (10, .ptr (1, 52) 0 0)] (ZHJ p0)) ((ZG6 p0).m)))
def ZkF (p0 : List Fil) : Option (Scm × Bt × Int) := (ZG5 p0).m
section
include co
theorem ZFS : Kl 176 C (pa [0, 0, 1, 1, 1, 1, 0, 0, 1, 1, 0, 0, 1, 0, 1, 1, 1, 1] (Zaf Tryz.f9)) [.cell 2 26, .tmp 3, .tmp 4] 0 (ZKG p0 v3 r4 e6 y7) (ZLg p0 v3 r4 y7) E9 (fun _ => []) (ZLH p0 v3 r4 e6 y7) := fun (v8, r9) _ m Q Post hQ L => mi co 2 (ZLp p0 v3 r4 e6 y7 v8 r9) (lf2 Ztl ZsX) (lf2 [0, 2, 10, 53, 54, 55] ZrS) hQ m L fun r g => ⟨fun _ m L => sq (bk 3 (mi co 2 (ZLF p0 v3 r4 e6 y7 v8 r9) (lf2 [0, 2, 10, 12, 17, 53, 54, 55, 75, 76, 77] [((1, 2), false), ((1, 12), false), ((1, 17), false), ((1, 52), false), ((1, 1528), true), ((1, 1529), true)]) nl hQ m L fun r g e10 y11 _ m L => ZBS co tok tmo (.fst 0 (.fst 1 (.fst 2 (.fst 3 (.fst 4 (.fst 5 (.fst 6 (.fst 7 (.fst 8 (.fst 9 (.fst 10 .nil))))))))))) [] (ZLE p0 v3 r4 e6 y7 v8 r9 e10 y11) (lf2 Ztl ZsX) m L fun r g _ m L => en co (ZMo p0 v3 r4 e6 y7 v8 r9 e10 y11) (lf2 Ztl ZsX) nl hQ m L fun r g => id)), id⟩
theorem ZGq : Kl 176 C (pa [0, 0, 1, 0, 1, 1, 1, 1] (Zaf Tryz.f9)) [.cell 2 26, .tmp 3, .tmp 4] 0 (ZKc p0) (ZMv p0) E9 (fun _ => []) (ZMq p0) := fun (v3, r4, r5) _ m Q Post hQ L => mi co 2 (ZLN p0 v3 r4 r5) (lf2 [0, 2, 10, 53, 54, 55] ZrS) (lf2 [0, 2, 10] ZrS) hQ m L fun r g => ⟨fun _ m L => sq (bk 1 (mi co 4 (ZLe p0 v3 r4 r5) (lf2 Ztl ZsX) nl hQ m L fun r g e6 y7 _ m L => bk 2 (lo (lpL (ZFS co p0 v3 r4 e6 y7) hQ m L (fun r12 m => en co (ZLv p0 v3 r4 y7 r12) (lf2 [0, 2, 10, 53, 54, 55] ZrS) nl hQ m L fun r g => id))))), id⟩
theorem ZFD : Kl 176 C (pa [0, 0, 1, 0, 1, 1, 0, 0, 1, 1, 0, 0, 1, 0, 1, 1, 1, 1, 1, 1] (Zaf Tryz.f9)) [.cell 2 26, .tmp 3, .tmp 4] 0 (ZKO p0 r14 y15 v16 r18 c26 e27 y28) (ZMa p0 r14 y15 v16 r18 c26 e27 y28) E9 (fun _ => []) (ZMh p0 r14 y15 v16 r18 c26 e27 y28) := fun (v29, r30) _ m Q Post hQ L => mi co 2 (ZFF p0 r14 y15 v16 r18 c26 e27 y28 v29 r30) (lf2 Zsr ZmU) (lf2 [0, 2, 10, 18, 20, 105, 106, 107] ZmU) hQ m L fun r g => ⟨fun _ m L => sq (bk 7 (mi co 2 (ZFW p0 r14 y15 v16 r18 c26 e27 y28 v29 r30) (lf2 [0, 2, 10, 18, 20, 23, 24, 105, 106, 107, 122, 123, 124] ZBZ) nl hQ m L fun r g e31 => ⟨fun y hy => ZaG (ZNX (.mk p0 e27 y28 c26 r14 : Lnk) e31) hy co g [((1, 52), ⟨0, true, 94, 10, [vL ZaE p0, vS e27.name, vS e27.space, vL Zan e27.imports, vL Zaj e27.messages, vL Zag e27.enums, vL Zal e27.services, vL Zan y28, vL Zan c26, vL Zag r14]⟩)] [] (lkS []) (fun H' hg ho => trivial) (fun H => ⟨fun _ => ⟨rfl, by kernel_rfl⟩, by kernel_rfl, trivial⟩), fun y32 _ m L => sq (mi co 1 (ZHn p0 r14 y15 v16 r18 c26 e27 y28 y32 v29 r30) (lf2 [0, 2, 10, 18, 20, 23, 24, 105, 106, 107, 122, 123, 124, 135] ZBZ) nl hQ m L fun r g _ m L => cd (!decide (y32.2 = (0 : Int))) m (fun m => sq (ZBS co tok tmo (.fst 0 (.fst 1 (.fst 2 (.fst 3 (.fst 4 (.fst 5 (.fst 6 .nil))))))) [23] (ZL0 y32) (lf2 [2, 3, 4] [((1, 2), false)]) m L fun r g _ m L => en co (ZMG y32) nl nl hQ m L fun r g => id)) (fun m => en co (ZEB p0 r14 y15 v16 r18 c26 e27 y28 y32 v29 r30) (lf2 [0, 2, 10, 18, 20, 23, 105, 106, 107, 122, 123, 124] ZBZ) nl hQ m L fun r g _ m L => en co (ZDG p0 r14 y15 v16 r18 c26 e27 y28 y32 v29 r30) (lf2 Zsr ZmU) nl hQ m L fun r g _ m L => en co (ZGS p0 r14 y15 v16 r18 c26 e27 y28 y32 v29 r30) (lf2 Zsr ZmU) nl hQ m L fun r g => id))⟩)), id⟩
theorem ZFM : Kl 176 C (pa [0, 0, 1, 1, 1, 1, 0, 0, 1, 1, 0, 0, 1, 0, 1, 1, 1, 1, 1, 1] (Zaf Tryz.f9)) [.cell 2 26, .tmp 3, .tmp 4] 0 (ZKv p0 r14 y15 v16 c26 e27 y28 r33) (ZMH p0 r14 y15 v16 c26 e27 y28 r33) E9 (fun _ => []) (ZLS p0 r14 y15 v16 c26 e27 y28 r33) := fun (v34, r35) _ m Q Post hQ L => mi co 2 (ZIp p0 r14 y15 v16 c26 e27 y28 r33 v34 r35) (lf2 Zrw Zk0) (lf2 Zyk Zk0) hQ m L fun r g => ⟨fun _ m L => sq (bk 9 (mi co 2 (ZH1 p0 r14 y15 v16 c26 e27 y28 r33 v34 r35) (lf2 [0, 2, 10, 18, 27, 28, 105, 106, 107, 148, 149, 150] ZAZ) nl hQ m L fun r g e36 => ⟨fun y hy => ZaG (ZNR (.mk p0 e27 y28 c26 r14 : Lnk) e36) hy co g [((1, 52), ⟨0, true, 94, 10, [vL ZaE p0, vS e27.name, vS e27.space, vL Zan e27.imports, vL Zaj e27.messages, vL Zag e27.enums, vL Zal e27.services, vL Zan y28, vL Zan c26, vL Zag r14]⟩)] [] (lkS []) (fun H' hg ho => trivial) (fun H => ⟨fun _ => ⟨rfl, by kernel_rfl⟩, by kernel_rfl, trivial⟩), fun y37 _ m L => sq (mi co 1 (ZDp p0 r14 y15 v16 c26 e27 y28 r33 y37 v34 r35) (lf2 [0, 2, 10, 18, 27, 28, 105, 106, 107, 148, 149, 150, 161] ZAZ) nl hQ m L fun r g _ m L => cd (!decide (y37.2 = (0 : Int))) m (fun m => sq (ZBS co tok tmo (.fst 0 (.fst 1 (.fst 2 (.fst 3 (.fst 4 (.fst 5 (.fst 6 .nil))))))) [27] (ZG4 y37) (lf2 [2, 3, 4] [((1, 2), false)]) m L fun r g _ m L => en co (ZFu y37) nl nl hQ m L fun r g => id)) (fun m => en co (ZD7 p0 r14 y15 v16 c26 e27 y28 r33 y37 v34 r35) (lf2 [0, 2, 10, 18, 27, 105, 106, 107, 148, 149, 150] ZAZ) nl hQ m L fun r g _ m L => en co (ZIx p0 r14 y15 v16 c26 e27 y28 r33 y37 v34 r35) (lf2 Zrw Zk0) nl hQ m L fun r g _ m L => en co (ZFb p0 r14 y15 v16 c26 e27 y28 r33 y37 v34 r35) (lf2 Zrw Zk0) nl hQ m L fun r g => id))⟩)), id⟩
theorem ZEl : Kl 176 C (pa [0, 0, 1, 0, 1, 1, 1, 1, 1, 1] (Zaf Tryz.f9)) [.cell 2 26, .tmp 3, .tmp 4] 0 (ZJL p0 r14 y15) (ZMz y15) E9 (fun _ => []) (ZLx p0 r14 y15) := fun (v16, r17, r18, c19, c20, c21, c22, c23, c24, c25, c26) _ m Q Post hQ L => mi co 2 (ZHh p0 r14 y15 v16 r18 c26 r17 c19 c20 c21 c22 c23 c24 c25) (lf2 Zyk Zk0) (lf2 [2, 18] [((1, 2), false), ((1, 18), false), ((1, 103), true), ((1, 1180), true), ((1, 1182), true)]) hQ m L fun r g => ⟨fun _ m L => sq (bk 5 (mi co 2 (ZGw p0 r14 y15 v16 r18 c26 r17) (lf2 [0, 2, 10, 18, 20, 105, 106, 107] ZmU) nl hQ m L fun r g e27 y28 _ m L => sq (mi co 1 (ZGK p0 r14 y15 v16 r18 c26 e27 y28 r17) (lf2 Zsr ZmU) nl hQ m L fun r g _ m L => bk 6 (lo (lpL (ZFD co p0 r14 y15 v16 r18 c26 e27 y28) hQ m L (fun r33 m => mi co 1 (ZGY p0 r14 y15 v16 r18 c26 e27 y28 r33) (lf2 Zrw Zk0) nl hQ m L fun r g _ m L => bk 8 (lo (lpL (ZFM co p0 r14 y15 v16 c26 e27 y28 r33) hQ m L (fun r38 m => en co (ZEo p0 r14 y15 v16 c26 e27 y28 r33 r38) (lf2 Zyk Zk0) nl hQ m L fun r g => id))))))))), id⟩
end
end
theorem K_9 (p0 : List Fil) : KC tp 9 [vL ZaE p0] (ZkF p0) E9 := kc1 Tryz.func9 Tryz.ntmps9 tok [.cell 2 26, .tmp 3, .tmp 4] fun C co y m Post L => mi co 4 (ZG5 p0) (lf2 [0, 2, 10] [((1, 2), false), ((1, 52), false)]) nl ii m L fun r g y1 => ⟨id, fun y2 => ⟨id, fun _ m L => sq (mi co 1 (ZG6 p0) (lf2 [0, 2, 10, 53, 54, 55] [((1, 2), false), ((1, 52), false)]) nl ii m L fun r g _ m L => bk 0 (Znw co (ZHk p0) (lf2 [0, 2, 10, 53, 54, 55] [((1, 2), false), ((1, 52), false), ((1, 1528), true), ((1, 1529), true)]) m L fun r g _ m L => lo (lpF (ZGq co p0) ii m L (fun (r13, r14) m => sq (rg (Zb8 co tok 4 (ZDO p0 r14 r13) (lf2 [0, 2, 10, 102] [((1, 2), false), ((1, 52), false), ((1, 1528), true)]) m L fun r g _ m L => ZaJ co m 36 [vL Zag r14] [(1, 103)] ([((1, 103), ⟨0, false, 0, 0, []⟩)] ++ []) (fun z => .ref (1, 103) 1 0 z.length) (fun z => [((1, 103), ⟨1, true, 55, 5, Zaa Zag z⟩)]) [(1, 1528)] (fun z => trivial) (⟨Zak _ _, trivial⟩) (fun z hz r g => Zai (ZMB r14) hz co g [((1, 103), ⟨0, false, 0, 0, []⟩)] [] [((1, 103), ⟨1, true, 55, 5, Zaa Zag z⟩)] (lkS []) (fun H' hg ho => trivial) (fun H => ⟨(fun h => by cases h), by kernel_rfl, trivial⟩) (fun H => ⟨fun _ => ⟨rfl, bz⟩, by kernel_rfl, trivial⟩)) fun y15 m => Zca co tok (ZG3 p0 r14 y15 r13) (lf2 [0, 2, 10, 18] [((1, 2), false), ((1, 18), false), ((1, 52), false), ((1, 103), true), ((1, 1528), true)]) m L fun r g _ m L => sq (mi co 1 (ZGZ p0 r14 y15 r13) (lf2 [0, 2, 10, 18, 105, 106, 107] [((1, 2), false), ((1, 18), false), ((1, 52), false), ((1, 103), true), ((1, 1528), true)]) nl ii m L fun r g _ m L => bk 4 (Znw co (ZHL p0 r14 y15 r13) (lf2 [0, 2, 10, 18, 105, 106, 107] [((1, 2), false), ((1, 18), false), ((1, 52), false), ((1, 103), true), ((1, 1180), true), ((1, 1182), true)]) m L fun r g _ m L => lo (lpF (ZEl co p0 r14 y15) ii m L (fun (r39, r40) m => sq (rg (Zb8 co tok 1 (ZIk y15 r39 r40) (lf2 [2, 174] [((1, 2), false), ((1, 103), true), ((1, 1180), true), ((1, 1182), true)]) m L fun r g _ m L => ZaJ co m 22 [.agg [.ref (1, 1180) 0 0 r39.length, .ref (1, 103) 0 0 y15.length, .ref (1, 1182) 0 0 r40.length]] [(1, 1180), (1, 103), (1, 1182)] ([((1, 1180), ⟨0, true, 48, 5, Zaa Zaj r39⟩), ((1, 103), ⟨0, true, 55, 5, Zaa Zag y15⟩), ((1, 1182), ⟨0, true, 62, 3, Zaa Zal r40⟩)] ++ []) (fun z => .agg [.ref (1, 1180) 0 0 z.1.length, .ref (1, 103) 0 0 z.2.1.length, .ref (1, 1182) 0 0 z.2.2.length]) (fun z => [((1, 1180), ⟨0, true, 48, 5, Zaa Zaj z.1⟩), ((1, 103), ⟨0, true, 55, 5, Zaa Zag z.2.1⟩), ((1, 1182), ⟨0, true, 62, 3, Zaa Zal z.2.2⟩)]) [] (fun z => trivial) (trivial) (fun z hz r g => Zai (ZLX r39 y15 r40) hz co g [((1, 1180), ⟨0, true, 48, 5, Zaa Zaj r39⟩), ((1, 103), ⟨0, true, 55, 5, Zaa Zag y15⟩), ((1, 1182), ⟨0, true, 62, 3, Zaa Zal r40⟩)] [] [((1, 1180), ⟨0, true, 48, 5, Zaa Zaj z.1⟩), ((1, 103), ⟨0, true, 55, 5, Zaa Zag z.2.1⟩), ((1, 1182), ⟨0, true, 62, 3, Zaa Zal z.2.2⟩)] (lkS []) (fun H' hg ho => trivial) (fun H => ⟨fun _ => ⟨rfl, bz⟩, by kernel_rfl, ⟨fun _ => ⟨rfl, bz⟩, by kernel_rfl, ⟨fun _ => ⟨rfl, bz⟩, by kernel_rfl, trivial⟩⟩⟩) (fun H => ⟨fun _ => ⟨rfl, bz⟩, by kernel_rfl, ⟨fun _ => ⟨rfl, bz⟩, by kernel_rfl, ⟨fun _ => ⟨rfl, bz⟩, by kernel_rfl, trivial⟩⟩⟩)) fun y41 m => Zca co tok (ZDi y41) (lf2 [2, 3, 4] [((1, 2), false), ((1, 103), true), ((1, 1180), true), ((1, 1182), true)]) m L fun r g _ m L => fo co (ZDq y41) m L fun r g => id))))))))))))⟩⟩
abbrev E8 : Bool → AV := fun y => vB y
def ZLi : PT 0 (Bool) := vw .sep <| vw .sep <| vw .sep <| vw .sep <| vw .go <| vw .go <| vw .sep <| cl (K_9 ([(.mk ⟨#[120]⟩ ⟨#[97]⟩ ([] : List Bt) ([(.mk ⟨#[77]⟩ ([(.mk 1 ⟨#[102]⟩ 2 0 (.mk 0 ⟨#[78]⟩ : Typ) ⟨#[]⟩ false (.mk 0 0 ⟨#[]⟩ ([] : List Val) ([] : List Pr) ([] : List Slt) ([] : List Raw) : Val) ([] : List Nt) : Fld)] : List Fld) ([] : List Spn) ([] : List Bt) ([] : List Nt) : Msg), (.mk (⟨#[77, 46, 78]⟩) ([] : List Fld) ([] : List Spn) ([] : List Bt) ([] : List Nt) : Msg)] : List Msg) ([] : List Enm) ([] : List Svc) : Fil)] : List Fil)) fun y1 => vw .go <| vw .go <| vy (decide (y1.2.2 = (0 : Int)) && decide (y1.2.1 = (⟨#[]⟩ : Bt))) (eqL y1.1.messages) <| vw .go <| ixg ((decide (y1.2.2 = (0 : Int)) && decide (y1.2.1 = (⟨#[]⟩ : Bt))) && decide ((y1.1.messages.length : Int) = (2 : Int))) y1.1.messages 0 fun e2 => vw .go <| ixg (((decide (y1.2.2 = (0 : Int)) && decide (y1.2.1 = (⟨#[]⟩ : Bt))) && decide ((y1.1.messages.length : Int) = (2 : Int))) && decide (e2.name = (⟨#[97, 46, 77]⟩ : Bt))) y1.1.messages 1 fun e3 => vw .go <| ixg ((((decide (y1.2.2 = (0 : Int)) && decide (y1.2.1 = (⟨#[]⟩ : Bt))) && decide ((y1.1.messages.length : Int) = (2 : Int))) && decide (e2.name = (⟨#[97, 46, 77]⟩ : Bt))) && decide (e3.name = (⟨#[97, 46, 77, 46, 78]⟩ : Bt))) y1.1.messages 0 fun e4 => vy ((((decide (y1.2.2 = (0 : Int)) && decide (y1.2.1 = (⟨#[]⟩ : Bt))) && decide ((y1.1.messages.length : Int) = (2 : Int))) && decide (e2.name = (⟨#[97, 46, 77]⟩ : Bt))) && decide (e3.name = (⟨#[97, 46, 77, 46, 78]⟩ : Bt))) (eqL e4.fields) <| vw .go <| ixg (((((decide (y1.2.2 = (0 : Int)) && decide (y1.2.1 = (⟨#[]⟩ : Bt))) && decide ((y1.1.messages.length : Int) = (2 : Int))) && decide (e2.name = (⟨#[97, 46, 77]⟩ : Bt))) && decide (e3.name = (⟨#[97, 46, 77, 46, 78]⟩ : Bt))) && decide ((e4.fields.length : Int) = (1 : Int))) y1.1.messages 0 fun e5 => ixg (((((decide (y1.2.2 = (0 : Int)) && decide (y1.2.1 = (⟨#[]⟩ : Bt))) && decide ((y1.1.messages.length : Int) = (2 : Int))) && decide (e2.name = (⟨#[97, 46, 77]⟩ : Bt))) && decide (e3.name = (⟨#[97, 46, 77, 46, 78]⟩ : Bt))) && decide ((e4.fields.length : Int) = (1 : Int))) e5.fields 0 fun e6 => lr E8 (fun _ => []) ((((((decide (y1.2.2 = (0 : Int)) && decide (y1.2.1 = (⟨#[]⟩ : Bt))) && decide ((y1.1.messages.length : Int) = (2 : Int))) && decide (e2.name = (⟨#[97, 46, 77]⟩ : Bt))) && decide (e3.name = (⟨#[97, 46, 77, 46, 78]⟩ : Bt))) && decide ((e4.fields.length : Int) = (1 : Int))) && (decide (e6.type.kind = 10) && (decide (e6.type.name = (⟨#[97, 46, 77, 46, 78]⟩)) && true)))
def Zcn : Option (Bool) := (ZLi).m
theorem K_8 : KC tp 8 [] (Zcn) E8 := kc1 Tryz.func8 Tryz.ntmps8 tok [.tmp 0] fun C co y m Post L => fo co (ZLi) m L fun r g y1 e2 e3 e4 e5 e6 => id
abbrev E3 : Bool → AV := fun y => vB y
def ZKf (p0 : Scm) (p1 : Scm) : PT 0 (Bool) := vw .go <| vw .go <| cl (K_5 p0 p1) fun y1 => vw .go <| vw .go <| vw .go <| cl (K_6 p0 p1) fun y2 => vw .go <| vw .go <| vw .go <| cl (K_7 y1.1 y2.1) fun y3 => clg (y3 && decide (y1.2 = y2.2)) (K_8) fun y4 => lr E3 (fun _ => []) ((y3 && decide (y1.2 = y2.2)) && y4)
def Zba (p0 : Scm) (p1 : Scm) : Option (Bool) := (ZKf p0 p1).m
theorem K_3 (p0 : Scm) (p1 : Scm) : KC tp 3 [.agg ((Zeb p0).map .d), .agg ((Zeb p1).map .d)] (Zba p0 p1) E3 := kc1 Tryz.func3 Tryz.ntmps3 tok [.tmp 4] fun C co y m Post L => fo co (ZKf p0 p1) m L fun r g y1 y2 y3 y4 => id
end
end Go.Proofs.YthagpbkmakocjaaGreat
namespace Go.Eng
set_option linter.all false
open Go Go.RowKit
section
variable {σ ξ ρ α β γ : Type}
theorem ZcE {B : Nat → Option (Lv Nat ξ ρ)} {N : Nat} (l : List α) (p : α → Bool) (f : Nat → ρ) (e : ξ)
  (hs : ∀ i x, l[i]? = some x → B i = some (if p x = true then .rt (f i) else .nx (i + 1))) (he : B l.length = some (.ex e)) (hN : l.length < N) :
  Zad B N 0 = some (match l.findIdx? p with | some i => .inr (f i) | none => .inl e) := by
 suffices H : ∀ k i N, i + k = l.length → k < N → Zad B N i = some (match (l.drop i).findIdx? p with | some j => .inr (f (i + j)) | none => .inl e) by
  have := H l.length 0 N (by omega) hN
  simpa using this
 intro k
 induction k with
 | zero =>
  intro i N hi hN
  obtain ⟨N, rfl⟩ : ∃ m, N = m + 1 := ⟨N - 1, by omega⟩
  have : i = l.length := by omega
  subst this
  rw [Zad, he, List.drop_length]
  rfl
 | succ k ih =>
  intro i N hi hN
  obtain ⟨N, rfl⟩ : ∃ m, N = m + 1 := ⟨N - 1, by omega⟩
  have hlt : i < l.length := by omega
  rw [Zad, hs i l[i] (List.getElem?_eq_getElem hlt), List.drop_eq_getElem_cons hlt, List.findIdx?_cons]
  cases hp : p l[i] with
  | true => simp
  | false =>
   simp only [Bool.false_eq_true, if_false]
   rw [ih (i + 1) N (by omega) (by omega)]
   cases (List.drop (i + 1) l).findIdx? p with
   | none => rfl
   | some j => simp [Nat.add_assoc, Nat.add_comm 1 j]
def Zd9 (R : List α → α → Option ρ) : List α → List α → Option ρ
 | _, [] => none
 | p, x :: l => match R p x with
  | some r => some r
  | none => Zd9 R (p ++ [x]) l
theorem ZdF {B : σ → Option (Lv σ ξ ρ)} {N : Nat} (l : List α) (S : List α → β) (R : List α → α → Option ρ) (mk : Nat → β → σ) (e : β → ξ)
  (hs : ∀ i x, l[i]? = some x → B (mk i (S (l.take i))) = some (match R (l.take i) x with | some r => .rt r | none => .nx (mk (i + 1) (S (l.take i ++ [x])))))
  (he : B (mk l.length (S l)) = some (.ex (e (S l)))) (hN : l.length < N) : Zad B N (mk 0 (S [])) = some ((Zd9 R [] l).elim (.inl (e (S l))) .inr) := by
 suffices H : ∀ k i N, i + k = l.length → k < N → Zad B N (mk i (S (l.take i))) = some ((Zd9 R (l.take i) (l.drop i)).elim (.inl (e (S l))) .inr) by
  have := H l.length 0 N (by omega) hN
  simpa using this
 intro k
 induction k with
 | zero =>
  intro i N hi hN
  obtain ⟨N, rfl⟩ : ∃ m, N = m + 1 := ⟨N - 1, by omega⟩
  have : i = l.length := by omega
  subst this
  rw [Zad, List.take_length, he, List.drop_length]
  rfl
 | succ k ih =>
  intro i N hi hN
  obtain ⟨N, rfl⟩ : ∃ m, N = m + 1 := ⟨N - 1, by omega⟩
  have hlt : i < l.length := by omega
  rw [Zad, hs i l[i] (List.getElem?_eq_getElem hlt), List.drop_eq_getElem_cons hlt, Zd9]
  cases R (l.take i) l[i] with
  | some r => rfl
  | none =>
   have := ih (i + 1) N (by omega) (by omega)
   rw [List.take_succ_eq_append_getElem hlt] at this
   exact this
theorem ZgG {R : List α → α → Option ρ} (h : ∀ p x, R p x = none) : ∀ (l p : List α), Zd9 R p l = none
 | [], p => rfl
 | x :: l, p => by rw [Zd9, h]; exact ZgG h l _
theorem Zcm {B : σ → Option (Lv σ ξ ρ)} {N : Nat} (l : List α) (S : List α → β) (mk : Nat → β → σ) (e : β → ξ)
  (hs : ∀ i x, l[i]? = some x → B (mk i (S (l.take i))) = some (.nx (mk (i + 1) (S (l.take i ++ [x])))))
  (he : B (mk l.length (S l)) = some (.ex (e (S l)))) (hN : l.length < N) : Zad B N (mk 0 (S [])) = some (.inl (e (S l))) := by
 rw [ZdF l S (fun _ _ => none) mk e hs he hN, ZgG fun _ _ => rfl]
 rfl
theorem Zcu {l : List α} {i : Nat} {x : α} (h : l[i]? = some x) : (i : Int) < (l.length : Int) := by
 have := (List.getElem?_eq_some_iff.1 h).1
 omega
theorem ZaP {n : Nat} (h : n < 4611686018427387904) : n < big := h
end
end Go.Eng
namespace Go.Proofs.YthagpbkmakocjaaGreat
set_option linter.all false
open Go Go.Eng
def gtB (a b : ByteArray) : Bool := !(sLt a b || decide (a = b))
section
variable {α : Type} [Rw α]
def Zhl (nm : α → ByteArray) (out : List α) (x : α) : Nat → Nat
 | 0 => 0
 | k + 1 => if gtB (nm (out.getD k Rw.z)) (nm x) = true then Zhl nm out x k else k + 1
theorem Zga (nm : α → ByteArray) (out : List α) (x : α) : ∀ k, Zhl nm out x k ≤ k
 | 0 => Nat.le_refl _
 | k + 1 => by
  unfold Zhl
  split
  ·have := Zga nm out x k; omega
  ·exact Nat.le_refl _
def ZnA (nm : α → ByteArray) (out : List α) (x : α) : List α := out.take (Zhl nm out x out.length) ++ [x] ++ out.drop (Zhl nm out x out.length)
def Zar (nm : α → ByteArray) (l : List α) : List α := l.foldl (ZnA nm) []
theorem Zsd (nm : α → ByteArray) (out : List α) (x : α) : (ZnA nm out x).length = out.length + 1 := by
 have := Zga nm out x out.length
 unfold ZnA
 simp only [List.length_append, List.length_take, List.length_drop, List.length_singleton]
 omega
theorem Zcb (nm : α → ByteArray) (l : List α) : (Zar nm l).length = l.length := by
 suffices H : ∀ (l out : List α), (l.foldl (ZnA nm) out).length = out.length + l.length by
  have := H l []
  simpa [Zar] using this
 intro l
 induction l with
 | nil => intro out; rfl
 | cons x l ih => intro out; rw [List.foldl_cons, ih, Zsd, List.length_cons]; omega
theorem Zd0 (nm : α → ByteArray) (l : List α) (x : α) : Zar nm (l ++ [x]) = ZnA nm (Zar nm l) x := by unfold Zar; rw [List.foldl_append]; rfl
theorem Zqr (nm : α → ByteArray) (out : List α) (x : α) : (ZnA nm out x).Perm (out ++ [x]) := by
 unfold ZnA
 generalize Zhl nm out x out.length = k
 have h1 : (out.take k ++ [x] ++ out.drop k).Perm (out.take k ++ out.drop k ++ [x]) := by
  rw [List.append_assoc, List.append_assoc]
  exact List.Perm.append_left _ List.perm_append_comm
 rwa [List.take_append_drop] at h1
theorem Zd2 (nm : α → ByteArray) (l : List α) : (Zar nm l).Perm l := by
 suffices H : ∀ (l out : List α), (l.foldl (ZnA nm) out).Perm (out ++ l) by
  have := H l []
  simpa [Zar] using this
 intro l
 induction l with
 | nil => intro out; simp
 | cons x l ih =>
  intro out
  rw [List.foldl_cons]
  refine (ih _).trans ?_
  have := (Zqr nm out x).append_right l
  simpa using this
end
theorem ZHT (s : Scm) (v1 : Nat) (c : List Msg) (x : Msg) (hc : c.length ≤ 1048576) : ∀ (k N : Nat), k ≤ c.length → k < N → Zad (Zp9 s v1 c x) N (k : Int) = some (.inl (Zhl (fun y : Msg => y.name) c x k : Int))
 | 0, N, _, hN => by
  obtain ⟨N, rfl⟩ : ∃ m, N = m + 1 := ⟨N - 1, by omega⟩
  rw [Zad]
  simp [Zp9, Zrt, vw, Zhl]
 | k + 1, N, hk, hN => by
  obtain ⟨N, rfl⟩ : ∃ m, N = m + 1 := ⟨N - 1, by omega⟩
  have ih := ZHT s v1 c x hc k N (by omega) (by omega)
  have g1 : (0 : Int) < ((k + 1 : Nat) : Int) := by omega
  have g2 : ((k + 1 : Nat) : Int) - 1 = (k : Int) := by omega
  have g3 : -9223372036854775808 ≤ (k : Int) ∧ (k : Int) < 9223372036854775808 := by omega
  have g4 : (0 : Int) ≤ (k : Int) := by omega
  have g5 : k < c.length := by omega
  rw [Zad, Zhl]
  simp only [Zp9, Zrt, vw, g1, g2, g3, g4, g5, decide_true, Bool.true_and, and_self, forall_const, if_true, Int.toNat_natCast, Int.ofNat_lt]
  unfold gtB
  cases hg : !(sLt (c.getD k Rw.z).name x.name || decide ((c.getD k Rw.z).name = x.name)) with
  | true => simp only [if_true]; exact ih
  | false => simp only [Bool.false_eq_true, if_false]
theorem ZJw (s : Scm) (hc : s.messages.length ≤ 1048576) : Zad (Zn9 s ) big (0, []) = some (.inl (Zar (fun y : Msg => y.name) s.messages)) :=
 Zcm (B := Zn9 s ) (N := big) s.messages (fun p => Zar (fun y : Msg => y.name) p) (fun i c => (i, c)) id (hN := ZaP (by omega)) (he := by simp [Zn9, ZrQ, Zsi, Zr4, ZuW, br, ix, vw, vs, Bd.c, Bd.vl]) (hs := by
  intro i x hx
  have g1 := (List.getElem?_eq_some_iff.1 hx).1
  have g2 : i + 1 < 9223372036854775808 := by omega
  have g3 : (Zar (fun y : Msg => y.name) (s.messages.take i)).length = i := by rw [Zcb, List.length_take]; omega
  have g4 := fun v1 => ZHT s v1 (Zar (fun y : Msg => y.name) (s.messages.take i)) x (by omega) _ big (Nat.le_refl _) (ZaP (by omega))
  have g5 := Zga (fun y : Msg => y.name) (Zar (fun y : Msg => y.name) (s.messages.take i)) x (Zar (fun y : Msg => y.name) (s.messages.take i)).length
  rw [Zd0]
  unfold ZnA
  generalize Zhl (fun y : Msg => y.name) (Zar (fun y : Msg => y.name) (s.messages.take i)) x (Zar (fun y : Msg => y.name) (s.messages.take i)).length = k at *
  generalize Zar (fun y : Msg => y.name) (s.messages.take i) = c at *
  have h1 : (0 : Int) ≤ (k : Int) := by omega
  have h2 : (c.take k).length = k := by rw [List.length_take]; omega
  have h3 : k < 549755813887 := by omega
  have h3' : k < 549755813888 := by omega
  have h4 : (c.take k ++ [x]).length + (c.drop k).length < 549755813888 := by rw [List.length_append, h2, List.length_drop, List.length_singleton]; omega
  have h5 : c.length = i := g3
  simp only [Zn9, ZrQ, Zsi, Zr4, ZuW, br, ix, vw, vs, Bd.c, Bd.vl, g1, g2, g4, hx, Option.bind_some, Int.ofNat_lt, decide_true, if_true, Sum.elim_inl]
  simp only [Int.toNat_natCast, h1, g5, Nat.zero_le, Nat.le_refl, and_self, if_true, List.drop_zero, Nat.sub_zero, h2, h3, h3']
  rw [List.take_of_length_le (l := c.drop k) (by rw [List.length_drop]; exact Nat.le_refl _)]
  rw [if_pos h4])
theorem ZG0 (s : Scm) (c9 : List Msg) (v1 : Nat) (c : List Enm) (x : Enm) (hc : c.length ≤ 1048576) : ∀ (k N : Nat), k ≤ c.length → k < N → Zad (Zp3 s c9 v1 c x) N (k : Int) = some (.inl (Zhl (fun y : Enm => y.name) c x k : Int))
 | 0, N, _, hN => by
  obtain ⟨N, rfl⟩ : ∃ m, N = m + 1 := ⟨N - 1, by omega⟩
  rw [Zad]
  simp [Zp3, ZsC, vw, Zhl]
 | k + 1, N, hk, hN => by
  obtain ⟨N, rfl⟩ : ∃ m, N = m + 1 := ⟨N - 1, by omega⟩
  have ih := ZG0 s c9 v1 c x hc k N (by omega) (by omega)
  have g1 : (0 : Int) < ((k + 1 : Nat) : Int) := by omega
  have g2 : ((k + 1 : Nat) : Int) - 1 = (k : Int) := by omega
  have g3 : -9223372036854775808 ≤ (k : Int) ∧ (k : Int) < 9223372036854775808 := by omega
  have g4 : (0 : Int) ≤ (k : Int) := by omega
  have g5 : k < c.length := by omega
  rw [Zad, Zhl]
  simp only [Zp3, ZsC, vw, g1, g2, g3, g4, g5, decide_true, Bool.true_and, and_self, forall_const, if_true, Int.toNat_natCast, Int.ofNat_lt]
  unfold gtB
  cases hg : !(sLt (c.getD k Rw.z).name x.name || decide ((c.getD k Rw.z).name = x.name)) with
  | true => simp only [if_true]; exact ih
  | false => simp only [Bool.false_eq_true, if_false]
theorem ZJK (s : Scm) (c9 : List Msg) (hc : s.enums.length ≤ 1048576) : Zad (ZnI s c9 ) big (0, []) = some (.inl (Zar (fun y : Enm => y.name) s.enums)) :=
 Zcm (B := ZnI s c9 ) (N := big) s.enums (fun p => Zar (fun y : Enm => y.name) p) (fun i c => (i, c)) id (hN := ZaP (by omega)) (he := by simp [ZnI, Zsb, Zsf, ZuS, Zmu, br, ix, vw, vs, Bd.c, Bd.vl]) (hs := by
  intro i x hx
  have g1 := (List.getElem?_eq_some_iff.1 hx).1
  have g2 : i + 1 < 9223372036854775808 := by omega
  have g3 : (Zar (fun y : Enm => y.name) (s.enums.take i)).length = i := by rw [Zcb, List.length_take]; omega
  have g4 := fun v1 => ZG0 s c9 v1 (Zar (fun y : Enm => y.name) (s.enums.take i)) x (by omega) _ big (Nat.le_refl _) (ZaP (by omega))
  have g5 := Zga (fun y : Enm => y.name) (Zar (fun y : Enm => y.name) (s.enums.take i)) x (Zar (fun y : Enm => y.name) (s.enums.take i)).length
  rw [Zd0]
  unfold ZnA
  generalize Zhl (fun y : Enm => y.name) (Zar (fun y : Enm => y.name) (s.enums.take i)) x (Zar (fun y : Enm => y.name) (s.enums.take i)).length = k at *
  generalize Zar (fun y : Enm => y.name) (s.enums.take i) = c at *
  have h1 : (0 : Int) ≤ (k : Int) := by omega
  have h2 : (c.take k).length = k := by rw [List.length_take]; omega
  have h3 : k < 549755813887 := by omega
  have h3' : k < 549755813888 := by omega
  have h4 : (c.take k ++ [x]).length + (c.drop k).length < 549755813888 := by rw [List.length_append, h2, List.length_drop, List.length_singleton]; omega
  have h5 : c.length = i := g3
  simp only [ZnI, Zsb, Zsf, ZuS, Zmu, br, ix, vw, vs, Bd.c, Bd.vl, g1, g2, g4, hx, Option.bind_some, Int.ofNat_lt, decide_true, if_true, Sum.elim_inl]
  simp only [Int.toNat_natCast, h1, g5, Nat.zero_le, Nat.le_refl, and_self, if_true, List.drop_zero, Nat.sub_zero, h2, h3, h3']
  rw [List.take_of_length_le (l := c.drop k) (by rw [List.length_drop]; exact Nat.le_refl _)]
  rw [if_pos h4])
theorem ZIn (s : Scm) (c9 : List Msg) (c18 : List Enm) (v1 : Nat) (c : List Svc) (x : Svc) (hc : c.length ≤ 1048576) : ∀ (k N : Nat), k ≤ c.length → k < N → Zad (ZoI s c9 c18 v1 c x) N (k : Int) = some (.inl (Zhl (fun y : Svc => y.name) c x k : Int))
 | 0, N, _, hN => by
  obtain ⟨N, rfl⟩ : ∃ m, N = m + 1 := ⟨N - 1, by omega⟩
  rw [Zad]
  simp [ZoI, ZlQ, vw, Zhl]
 | k + 1, N, hk, hN => by
  obtain ⟨N, rfl⟩ : ∃ m, N = m + 1 := ⟨N - 1, by omega⟩
  have ih := ZIn s c9 c18 v1 c x hc k N (by omega) (by omega)
  have g1 : (0 : Int) < ((k + 1 : Nat) : Int) := by omega
  have g2 : ((k + 1 : Nat) : Int) - 1 = (k : Int) := by omega
  have g3 : -9223372036854775808 ≤ (k : Int) ∧ (k : Int) < 9223372036854775808 := by omega
  have g4 : (0 : Int) ≤ (k : Int) := by omega
  have g5 : k < c.length := by omega
  rw [Zad, Zhl]
  simp only [ZoI, ZlQ, vw, g1, g2, g3, g4, g5, decide_true, Bool.true_and, and_self, forall_const, if_true, Int.toNat_natCast, Int.ofNat_lt]
  unfold gtB
  cases hg : !(sLt (c.getD k Rw.z).name x.name || decide ((c.getD k Rw.z).name = x.name)) with
  | true => simp only [if_true]; exact ih
  | false => simp only [Bool.false_eq_true, if_false]
theorem ZJG (s : Scm) (c9 : List Msg) (c18 : List Enm) (hc : s.services.length ≤ 1048576) : Zad (Zm9 s c9 c18 ) big (0, []) = some (.inl (Zar (fun y : Svc => y.name) s.services)) :=
 Zcm (B := Zm9 s c9 c18 ) (N := big) s.services (fun p => Zar (fun y : Svc => y.name) p) (fun i c => (i, c)) id (hN := ZaP (by omega)) (he := by simp [Zm9, Zlo, Zml, Zlg, Zlb, br, ix, vw, vs, Bd.c, Bd.vl]) (hs := by
  intro i x hx
  have g1 := (List.getElem?_eq_some_iff.1 hx).1
  have g2 : i + 1 < 9223372036854775808 := by omega
  have g3 : (Zar (fun y : Svc => y.name) (s.services.take i)).length = i := by rw [Zcb, List.length_take]; omega
  have g4 := fun v1 => ZIn s c9 c18 v1 (Zar (fun y : Svc => y.name) (s.services.take i)) x (by omega) _ big (Nat.le_refl _) (ZaP (by omega))
  have g5 := Zga (fun y : Svc => y.name) (Zar (fun y : Svc => y.name) (s.services.take i)) x (Zar (fun y : Svc => y.name) (s.services.take i)).length
  rw [Zd0]
  unfold ZnA
  generalize Zhl (fun y : Svc => y.name) (Zar (fun y : Svc => y.name) (s.services.take i)) x (Zar (fun y : Svc => y.name) (s.services.take i)).length = k at *
  generalize Zar (fun y : Svc => y.name) (s.services.take i) = c at *
  have h1 : (0 : Int) ≤ (k : Int) := by omega
  have h2 : (c.take k).length = k := by rw [List.length_take]; omega
  have h3 : k < 549755813887 := by omega
  have h3' : k < 549755813888 := by omega
  have h4 : (c.take k ++ [x]).length + (c.drop k).length < 549755813888 := by rw [List.length_append, h2, List.length_drop, List.length_singleton]; omega
  have h5 : c.length = i := g3
  simp only [Zm9, Zlo, Zml, Zlg, Zlb, br, ix, vw, vs, Bd.c, Bd.vl, g1, g2, g4, hx, Option.bind_some, Int.ofNat_lt, decide_true, if_true, Sum.elim_inl]
  simp only [Int.toNat_natCast, h1, g5, Nat.zero_le, Nat.le_refl, and_self, if_true, List.drop_zero, Nat.sub_zero, h2, h3, h3']
  rw [List.take_of_length_le (l := c.drop k) (by rw [List.length_drop]; exact Nat.le_refl _)]
  rw [if_pos h4])
theorem m36 (s : Scm) (h1 : s.messages.length ≤ 1048576) (h2 : s.enums.length ≤ 1048576) (h3 : s.services.length ≤ 1048576) : ZbM s = some ⟨Zar (fun y => y.name) s.messages, Zar (fun y => y.name) s.enums, Zar (fun y => y.name) s.services⟩ := by
 unfold ZbM
 simp only [Zqz, Zov, Zpk, ZoS, ZoN, Zpa, ZpN, Zqj, vw, lc, ZJw s h1, ZJK s _ h2, ZJG s _ _ h3, Option.bind_some, Sum.elim_inl]
end Go.Proofs.YthagpbkmakocjaaGreat
