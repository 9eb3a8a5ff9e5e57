import Derived.Test.YthagpbkmakocjaaCn15
import Derived.Test.YthagpbkmakocjaaCn11
namespace Go.Proofs.Ythagpbkmakocjaa
set_option linter.all false
set_option maxRecDepth 100000
open Go Go.Eng
noncomputable section
abbrev E9 : Scm × Bt × Int → AV := fun y => .tup [.agg ((ZID y.1).map .d), vS y.2.1, vI y.2.2]
section
variable {C : Cx} (co : CO C 0) (p0 : List Fil) (v3 : Nat) (r4 : List Bt) (e6 : Fil) (y7 : List Bt × List Bt × List Bt) (v8 : Nat) (r9 : List Enm) (e10 : Enm) (y11 : Bt) (r5 r14 y15 : List Enm) (v16 : Nat) (r18 : List Svc) (c26 : List Bt) (e27 : Fil) (y28 : List Bt) (y32 : Msg × Int) (v29 : Nat) (r30 r33 : List Msg) (y37 : Svc × Int) (v34 : Nat) (r35 : List Svc) (r17 : List Msg) (y41 : List Msg × List Enm × List Svc) (r13 : List Bt)
abbrev ZDW := PT 0 (Lv (Nat × List Msg × List Svc × Bt × Bt × List Bt × List Msg × List Enm × List Svc × List Bt × List Bt) (List Msg × List Svc) (Scm × Bt × Int))
abbrev ZF0 := PT 0 (Lv (Nat × List Bt × List Enm) (List Bt × List Enm) (Scm × Bt × Int))
abbrev ZEm := PT 0 (Lv (Nat × List Enm) (List Enm) (Scm × Bt × Int))
abbrev Zwd := PT 0 (Lv (Nat × List Msg) (List Msg) (Scm × Bt × Int))
abbrev ZvT := PT 0 (Lv (Nat × List Svc) (List Svc) (Scm × Bt × Int))
abbrev ZrC := PT 0 (Scm × Bt × Int)
abbrev ZoC : Blk := ⟨0, true, 76, 10, [vL Zas p0, vS e27.name, vS e27.space, vL Zag e27.imports, vL Zap e27.messages, vL Zam e27.enums, vL Zaq e27.services, vL Zag y28, vL Zag c26, vL Zam r14]⟩
abbrev ZFo : List (Key × Blk) := [((1, 2), ⟨0, true, 27, 3, [.e0, .e0, .e0]⟩), ((1, 18), ⟨0, true, 27, 3, [.ref (1, 1180) 0 0 r30.length, .ref (1, 103) 0 0 y15.length, .ref (1, 1182) 0 0 r18.length]⟩), ((1, 20), ⟨0, true, 61, 6, [vS e27.name, vS e27.space, vL Zag e27.imports, vL Zap e27.messages, vL Zam e27.enums, vL Zaq e27.services]⟩), ((1, 23), ⟨0, true, 39, 5, [vS y32.1.name, vL ZeY y32.1.fields, vL ZpL y32.1.reserved, vL Zag y32.1.gone, vL eNt y32.1.notes]⟩), ((1, 52), (ZoC p0 r14 c26 e27 y28)), ((1, 103), ⟨0, true, 42, 5, Zaa Zam y15⟩), ((1, 1180), ⟨0, true, 39, 5, Zaa Zap r30⟩), ((1, 1182), ⟨0, true, 57, 3, Zaa Zaq r18⟩)]
abbrev Zfw : Blk := ⟨0, true, 27, 3, [.e0, .e0, .e0]⟩
abbrev ZAI : List (Key × Blk) := [((1, 2), Zfw), ((1, 18), ⟨0, true, 27, 3, [.ref (1, 1180) 0 0 r33.length, .ref (1, 103) 0 0 y15.length, .ref (1, 1182) 0 0 r35.length]⟩), ((1, 27), ⟨0, true, 57, 3, [vS y37.1.name, vL ZgX y37.1.methods, vL eNt y37.1.notes]⟩), ((1, 52), (ZoC p0 r14 c26 e27 y28)), ((1, 103), ⟨0, true, 42, 5, Zaa Zam y15⟩), ((1, 1180), ⟨0, true, 39, 5, Zaa Zap r33⟩), ((1, 1182), ⟨0, true, 57, 3, Zaa Zaq r35⟩)]
abbrev Zkm : List (Key × Bool) := [((1, 2), false), ((1, 18), false), ((1, 52), false), ((1, 103), true), ((1, 1180), true), ((1, 1182), true)]
abbrev Zm7 : List (Key × Bool) := [((1, 2), false), ((1, 18), false), ((1, 20), false), ((1, 52), false), ((1, 103), true), ((1, 1180), true), ((1, 1182), true)]
abbrev Zrg : Blk := ⟨0, true, 61, 6, [vS e27.name, vS e27.space, vL Zag e27.imports, vL Zap e27.messages, vL Zam e27.enums, vL Zaq e27.services]⟩
abbrev ZxN : List (Nat × AV) := [(0, vL Zas p0), (2, .ptr (1, 2) 0 0), (10, .ptr (1, 52) 0 0), (18, .ptr (1, 18) 0 0), (20, .ptr (1, 20) 0 0), (105, vL Zas p0), (106, vN p0.length), (107, vN v16), (122, vL Zap e27.messages), (123, vN e27.messages.length), (124, vN v29)]
abbrev ZCT : List (Key × Blk) := [((1, 2), Zfw), ((1, 12), ⟨0, true, 61, 6, [vS e6.name, vS e6.space, vL Zag e6.imports, vL Zap e6.messages, vL Zam e6.enums, vL Zaq e6.services]⟩), ((1, 52), ⟨0, true, 76, 10, [vL Zas p0, vS ⟨#[]⟩, vS ⟨#[]⟩, .e0, .e0, .e0, .e0, .e0, .ref (1, 1528) 0 0 (r4 ++ y7.1).length, .ref (1, 1529) 0 0 r9.length]⟩), ((1, 1528), ⟨0, true, 9, 1, Zaa Zag (r4 ++ y7.1)⟩), ((1, 1529), ⟨0, true, 42, 5, Zaa Zam r9⟩)]
abbrev ZxM : List (Nat × AV) := [(0, vL Zas p0), (2, .ptr (1, 2) 0 0), (10, .ptr (1, 52) 0 0), (18, .ptr (1, 18) 0 0), (105, vL Zas p0), (106, vN p0.length), (107, vN v16), (148, vL Zaq e27.services), (149, vN e27.services.length), (150, vN v34)]
abbrev Zzn : List (Nat × AV) := [(0, vL Zas p0), (2, .ptr (1, 2) 0 0), (10, .ptr (1, 52) 0 0), (12, .ptr (1, 12) 0 0), (53, vL Zas p0), (54, vN p0.length), (55, vN v3), (75, vL Zam e6.enums), (76, vN e6.enums.length), (77, vN v8)]
abbrev ZCW : List (Key × Blk) := [((1, 2), Zfw), ((1, 18), ⟨0, true, 27, 3, [.e0, .ref (1, 103) 0 0 y15.length, .e0]⟩), ((1, 52), ⟨0, true, 76, 10, [vL Zas p0, vS ⟨#[]⟩, vS ⟨#[]⟩, .e0, .e0, .e0, .e0, .e0, .ref (1, 1528) 0 0 r13.length, vL Zam r14]⟩), ((1, 103), ⟨0, true, 42, 5, Zaa Zam y15⟩), ((1, 1528), ⟨0, true, 9, 1, Zaa Zag r13⟩)]
abbrev ZAe : List (Key × Bool) := [((1, 2), false), ((1, 18), false), ((1, 20), false), ((1, 23), false), ((1, 52), false), ((1, 103), true), ((1, 1180), true), ((1, 1182), true)]
abbrev ZuQ : List (Key × Bool) := [((1, 2), false), ((1, 12), false), ((1, 52), false), ((1, 1528), true), ((1, 1529), true)]
abbrev ZAm : List (Nat × AV) := [(0, vL Zas p0), (2, .ptr (1, 2) 0 0), (10, .ptr (1, 52) 0 0), (18, .ptr (1, 18) 0 0), (105, vL Zas p0), (106, vN p0.length), (107, vN v16)]
abbrev ZBR : List (Key × Blk) := [((1, 2), Zfw), ((1, 52), ⟨0, true, 76, 10, [vL Zas p0, vS ⟨#[]⟩, vS ⟨#[]⟩, .e0, .e0, .e0, .e0, .e0, .ref (1, 1528) 0 0 r4.length, .ref (1, 1529) 0 0 r5.length]⟩), ((1, 1528), ⟨0, true, 9, 1, Zaa Zag r4⟩), ((1, 1529), ⟨0, true, 42, 5, Zaa Zam r5⟩)]
abbrev ZwC : List (Key × Bool) := [((1, 2), false), ((1, 18), false), ((1, 27), false), ((1, 52), false), ((1, 103), true), ((1, 1180), true), ((1, 1182), true)]
abbrev ZtW : List (Key × Bool) := [((1, 2), false), ((1, 52), false), ((1, 1528), true), ((1, 1529), true)]
abbrev ZyE : List (Nat × AV) := [(0, vL Zas p0), (2, .ptr (1, 2) 0 0), (10, .ptr (1, 52) 0 0), (53, vL Zas p0), (54, vN p0.length), (55, vN v3)]
abbrev ZBj : List (Nat × AV) := [(0, vL Zas p0), (2, .ptr (1, 2) 0 0), (10, .ptr (1, 52) 0 0), (18, .ptr (1, 18) 0 0), (20, .ptr (1, 20) 0 0), (105, vL Zas p0), (106, vN p0.length), (107, vN v16)]
abbrev Zs7 : List Nat := [0, 2, 10, 18, 20, 105, 106, 107, 122, 123, 124]
abbrev ZuO : List Nat := [0, 2, 10, 18, 105, 106, 107, 148, 149, 150]
abbrev ZD8 : List (Key × Blk) := [((1, 2), Zfw), ((1, 52), ⟨0, true, 76, 10, [vL Zas p0, vS ⟨#[]⟩, vS ⟨#[]⟩, .e0, .e0, .e0, .e0, .e0, .e0, .e0]⟩)]
abbrev ZtX : List Nat := [0, 2, 10, 12, 53, 54, 55, 75, 76, 77]
abbrev Zz1 : List Nat := [0, 2, 10, 18, 105, 106, 107]
abbrev ZqJ (t : List (Nat × AV)) : List (Nat × AV) := (0, vL Zas p0) :: (2, .ptr (1, 2) 0 0) :: (10, .ptr (1, 52) 0 0) :: t
def ZFJ : Nat × List Bt × List Enm → St := fun (v3, r4, r5) => mkS (ZyE p0 v3) (ZBR p0 r4 r5)
def ZGj : List Bt × List Enm → Nat × St := fun (r13, r14) => (0, mkS [(0, vL Zas p0), (2, .ptr (1, 2) 0 0), (10, .ptr (1, 52) 0 0)] [((1, 2), Zfw), ((1, 52), ⟨0, true, 76, 10, [vL Zas p0, vS ⟨#[]⟩, vS ⟨#[]⟩, .e0, .e0, .e0, .e0, .e0, .ref (1, 1528) 0 0 r13.length, .ref (1, 1529) 0 0 r14.length]⟩), ((1, 1528), ⟨0, true, 9, 1, Zaa Zag r13⟩), ((1, 1529), ⟨0, true, 42, 5, Zaa Zam r14⟩)])
def ZEP : Nat × List Enm → St := fun (v8, r9) => mkS (Zzn p0 v3 e6 v8) (ZCT p0 r4 e6 y7 r9)
def ZGr : List Enm → Nat × St := fun r12 => (2, mkS (ZyE p0 v3) [((1, 2), Zfw), ((1, 52), ⟨0, true, 76, 10, [vL Zas p0, vS ⟨#[]⟩, vS ⟨#[]⟩, .e0, .e0, .e0, .e0, .e0, .ref (1, 1528) 0 0 (r4 ++ y7.1).length, .ref (1, 1529) 0 0 r12.length]⟩), ((1, 1528), ⟨0, true, 9, 1, Zaa Zag (r4 ++ y7.1)⟩), ((1, 1529), ⟨0, true, 42, 5, Zaa Zam r12⟩)])
def ZEI : ZEm := vs (wa v8 1) <| vz (fl (r4 ++ y7.1)) <| vz (fl (r9 ++ ([(.mk y11 e10.opn e10.items e10.reserved e10.notes : Enm)]))) <| ln (ZEP p0 v3 r4 e6 y7) (v8 + 1, r9 ++ ([(.mk y11 e10.opn e10.items e10.reserved e10.notes : Enm)]))
def ZEx : ZEm := vw .go <| vw .go <| vw .sep <| ap r9 ((.mk y11 e10.opn e10.items e10.reserved e10.notes : Enm) : Enm) <| vw .go <| vz (fl (r4 ++ y7.1)) <| vz (fl (r9 ++ ([(.mk y11 e10.opn e10.items e10.reserved e10.notes : Enm)]))) <| lc (mkS (Zzn p0 v3 e6 v8) [((1, 2), Zfw), ((1, 12), ⟨0, true, 61, 6, [vS e6.name, vS e6.space, vL Zag e6.imports, vL Zap e6.messages, vL Zam e6.enums, vL Zaq e6.services]⟩), ((1, 52), ⟨0, true, 76, 10, [vL Zas p0, vS ⟨#[]⟩, vS ⟨#[]⟩, .e0, .e0, .e0, .e0, .e0, .ref (1, 1528) 0 0 (r4 ++ y7.1).length, .ref (1, 1529) 0 0 (r9 ++ ([(.mk y11 e10.opn e10.items e10.reserved e10.notes : Enm)])).length]⟩), ((1, 1528), ⟨0, true, 9, 1, Zaa Zag (r4 ++ y7.1)⟩), ((1, 1529), ⟨0, true, 42, 5, Zaa Zam (r9 ++ ([(.mk y11 e10.opn e10.items e10.reserved e10.notes : Enm)]))⟩)]) ((ZEI p0 v3 r4 e6 y7 v8 r9 e10 y11).m)
def ZEL : ZEm := ix e6.enums v8 fun e10 => vw .go <| vw .go <| vw .go <| cl (Zzd e6.space e10.name) fun y11 => vw .go <| vz (fl (r4 ++ y7.1)) <| vz (fl r9) <| lc (mkS (ZqJ p0 [(12, .ptr (1, 12) 0 0), (17, .ptr (1, 17) 0 0), (53, vL Zas p0), (54, vN p0.length), (55, vN v3), (75, vL Zam e6.enums), (76, vN e6.enums.length), (77, vN v8)]) [((1, 2), Zfw), ((1, 12), ⟨0, true, 61, 6, [vS e6.name, vS e6.space, vL Zag e6.imports, vL Zap e6.messages, vL Zam e6.enums, vL Zaq e6.services]⟩), ((1, 17), ⟨0, true, 42, 5, [vS y11, vB e10.opn, vL Zol e10.items, vL ZpL e10.reserved, vL eNt e10.notes]⟩), ((1, 52), ⟨0, true, 76, 10, [vL Zas p0, vS ⟨#[]⟩, vS ⟨#[]⟩, .e0, .e0, .e0, .e0, .e0, .ref (1, 1528) 0 0 (r4 ++ y7.1).length, .ref (1, 1529) 0 0 r9.length]⟩), ((1, 1528), ⟨0, true, 9, 1, Zaa Zag (r4 ++ y7.1)⟩), ((1, 1529), ⟨0, true, 42, 5, Zaa Zam r9⟩)]) ((ZEx p0 v3 r4 e6 y7 v8 r9 e10 y11).m)
def ZEK : ZEm := br (decide ((v8 : Int) < (e6.enums.length : Int))) (vz (fl (r4 ++ y7.1)) <| vz (fl r9) <| lc (mkS (Zzn p0 v3 e6 v8) (ZCT p0 r4 e6 y7 r9)) ((ZEL p0 v3 r4 e6 y7 v8 r9).m)) (vz (fl (r4 ++ y7.1)) <| vz (fl r9) <| lxe (ZGr p0 v3 r4 y7) r9)
def ZA9 := fun ((v8, r9) : Nat × List Enm) => (ZEK p0 v3 r4 e6 y7 v8 r9).m
def ZEl (r12 : List Enm) : ZF0 := vs (wa v3 1) <| vz (fl (r4 ++ y7.1)) <| vz (fl r12) <| ln (ZFJ p0) (v3 + 1, r4 ++ y7.1, r12)
def ZEv : ZF0 := ix p0 v3 fun e6 => vw .go <| vw .go <| cl (ZCp e6) fun y7 => vw .go <| aq r4 y7.1 <| vw .go <| vw .go <| vz (eqL e6.enums) <| vz (fl (r4 ++ y7.1)) <| vz (fl r5) <| lc (ZEP p0 v3 r4 e6 y7 (0, r5)) ((Zad (ZA9 p0 v3 r4 e6 y7) big (0, r5)).bind (Sum.elim (fun r12 => (ZEl p0 v3 r4 y7 r12).m) (fun z => some (.rt z))))
def ZEG : ZF0 := br (decide ((v3 : Int) < (p0.length : Int))) (vz (fl r4) <| vz (fl r5) <| lc (mkS (ZyE p0 v3) (ZBR p0 r4 r5)) ((ZEv p0 v3 r4 r5).m)) (vz (fl r4) <| vz (fl r5) <| lxe (ZGj p0) (r4, r5))
def ZAY := fun ((v3, r4, r5) : Nat × List Bt × List Enm) => (ZEG p0 v3 r4 r5).m
def ZFd : Nat × List Msg × List Svc × Bt × Bt × List Bt × List Msg × List Enm × List Svc × List Bt × List Bt → St := fun (v16, r17, r18, c19, c20, c21, c22, c23, c24, c25, c26) => mkS (ZAm p0 v16) [((1, 2), Zfw), ((1, 18), ⟨0, true, 27, 3, [.ref (1, 1180) 0 0 r17.length, .ref (1, 103) 0 0 y15.length, .ref (1, 1182) 0 0 r18.length]⟩), ((1, 52), ⟨0, true, 76, 10, [vL Zas p0, vS c19, vS c20, vL Zag c21, vL Zap c22, vL Zam c23, vL Zaq c24, vL Zag c25, vL Zag c26, vL Zam r14]⟩), ((1, 103), ⟨0, true, 42, 5, Zaa Zam y15⟩), ((1, 1180), ⟨0, true, 39, 5, Zaa Zap r17⟩), ((1, 1182), ⟨0, true, 57, 3, Zaa Zaq r18⟩)]
def ZGf : List Msg × List Svc → Nat × St := fun (r39, r40) => (4, mkS [(2, .ptr (1, 2) 0 0), (18, .ptr (1, 18) 0 0)] [((1, 2), Zfw), ((1, 18), ⟨0, true, 27, 3, [.ref (1, 1180) 0 0 r39.length, .ref (1, 103) 0 0 y15.length, .ref (1, 1182) 0 0 r40.length]⟩), ((1, 103), ⟨0, true, 42, 5, Zaa Zam y15⟩), ((1, 1180), ⟨0, true, 39, 5, Zaa Zap r39⟩), ((1, 1182), ⟨0, true, 57, 3, Zaa Zaq r40⟩)])
def ZFV : Nat × List Msg → St := fun (v29, r30) => mkS (ZxN p0 v16 e27 v29) [((1, 2), Zfw), ((1, 18), ⟨0, true, 27, 3, [.ref (1, 1180) 0 0 r30.length, .ref (1, 103) 0 0 y15.length, .ref (1, 1182) 0 0 r18.length]⟩), ((1, 20), (Zrg e27)), ((1, 52), (ZoC p0 r14 c26 e27 y28)), ((1, 103), ⟨0, true, 42, 5, Zaa Zam y15⟩), ((1, 1180), ⟨0, true, 39, 5, Zaa Zap r30⟩), ((1, 1182), ⟨0, true, 57, 3, Zaa Zaq r18⟩)]
def ZG1 : List Msg → Nat × St := fun r33 => (6, mkS (ZBj p0 v16) [((1, 2), Zfw), ((1, 18), ⟨0, true, 27, 3, [.ref (1, 1180) 0 0 r33.length, .ref (1, 103) 0 0 y15.length, .ref (1, 1182) 0 0 r18.length]⟩), ((1, 20), (Zrg e27)), ((1, 52), (ZoC p0 r14 c26 e27 y28)), ((1, 103), ⟨0, true, 42, 5, Zaa Zam y15⟩), ((1, 1180), ⟨0, true, 39, 5, Zaa Zap r33⟩), ((1, 1182), ⟨0, true, 57, 3, Zaa Zaq r18⟩)])
def ZEt : Zwd := lrt E9 (fun _ => []) ((.mk [] [] [] : Scm), y32.1.name, y32.2)
def ZEk : Zwd := vw .go <| vw .go <| lc (mkS [(2, .ptr (1, 2) 0 0), (3, vS y32.1.name), (4, vI y32.2)] [((1, 2), Zfw)]) ((ZEt y32).m)
def ZuW : Zwd := vs (wa v29 1) <| vz (fl y15) <| vz (fl (r30 ++ [y32.1])) <| vz (fl r18) <| ln (ZFV p0 r14 y15 v16 r18 c26 e27 y28) (v29 + 1, r30 ++ [y32.1])
def Zts : Zwd := vw .go <| vw .go <| vw .sep <| ap r30 (y32.1 : Msg) <| vw .go <| vz (fl y15) <| vz (fl (r30 ++ [y32.1])) <| vz (fl r18) <| lc (mkS (ZxN p0 v16 e27 v29) [((1, 2), Zfw), ((1, 18), ⟨0, true, 27, 3, [.ref (1, 1180) 0 0 (r30 ++ [y32.1]).length, .ref (1, 103) 0 0 y15.length, .ref (1, 1182) 0 0 r18.length]⟩), ((1, 20), (Zrg e27)), ((1, 52), (ZoC p0 r14 c26 e27 y28)), ((1, 103), ⟨0, true, 42, 5, Zaa Zam y15⟩), ((1, 1180), ⟨0, true, 39, 5, Zaa Zap (r30 ++ [y32.1])⟩), ((1, 1182), ⟨0, true, 57, 3, Zaa Zaq r18⟩)]) ((ZuW p0 r14 y15 v16 r18 c26 e27 y28 y32 v29 r30).m)
def Zt2 : Zwd := vz (fl y15) <| vz (fl r30) <| vz (fl r18) <| lc (mkS (ZqJ p0 [(18, .ptr (1, 18) 0 0), (20, .ptr (1, 20) 0 0), (23, .ptr (1, 23) 0 0), (105, vL Zas p0), (106, vN p0.length), (107, vN v16), (122, vL Zap e27.messages), (123, vN e27.messages.length), (124, vN v29)]) (ZFo p0 r14 y15 r18 c26 e27 y28 y32 r30)) ((Zts p0 r14 y15 v16 r18 c26 e27 y28 y32 v29 r30).m)
def ZsM : Zwd := vz (fl y15) <| vz (fl r30) <| vz (fl r18) <| lc (mkS (ZqJ p0 [(18, .ptr (1, 18) 0 0), (20, .ptr (1, 20) 0 0), (23, .ptr (1, 23) 0 0), (24, vI y32.2), (105, vL Zas p0), (106, vN p0.length), (107, vN v16), (122, vL Zap e27.messages), (123, vN e27.messages.length), (124, vN v29), (135, vB (!decide (y32.2 = (0 : Int))))]) (ZFo p0 r14 y15 r18 c26 e27 y28 y32 r30)) (if (!decide (y32.2 = (0 : Int))) = true then (ZEk y32).m else (Zt2 p0 r14 y15 v16 r18 c26 e27 y28 y32 v29 r30).m)
def ZrU : Zwd := ix e27.messages v29 fun e31 => vw .go <| vw .go <| cs tp 28 [.ptr (1, 52) 0 0, .agg ((Zap e31).map .d)] [(1, 52)] [((1, 52), ⟨0, true, 76, 10, [vL Zas p0, vS e27.name, vS e27.space, vL Zag e27.imports, vL Zap e27.messages, vL Zam e27.enums, vL Zaq e27.services, vL Zag y28, vL Zag c26, vL Zam r14]⟩)] (Za2 (.mk p0 e27 y28 c26 r14 : Lnk) e31) (fun y => .tup [.agg ((Zap y.1).map .d), vI y.2]) fun y32 => vw .go <| vz (fl y15) <| vz (fl r30) <| vz (fl r18) <| lc (mkS (ZqJ p0 [(18, .ptr (1, 18) 0 0), (20, .ptr (1, 20) 0 0), (23, .ptr (1, 23) 0 0), (24, vI y32.2), (105, vL Zas p0), (106, vN p0.length), (107, vN v16), (122, vL Zap e27.messages), (123, vN e27.messages.length), (124, vN v29)]) (ZFo p0 r14 y15 r18 c26 e27 y28 y32 r30)) ((ZsM p0 r14 y15 v16 r18 c26 e27 y28 y32 v29 r30).m)
def ZsX : Zwd := br (decide ((v29 : Int) < (e27.messages.length : Int))) (vz (fl y15) <| vz (fl r30) <| vz (fl r18) <| lc (mkS (ZxN p0 v16 e27 v29) [((1, 2), Zfw), ((1, 18), ⟨0, true, 27, 3, [.ref (1, 1180) 0 0 r30.length, .ref (1, 103) 0 0 y15.length, .ref (1, 1182) 0 0 r18.length]⟩), ((1, 20), (Zrg e27)), ((1, 52), (ZoC p0 r14 c26 e27 y28)), ((1, 103), ⟨0, true, 42, 5, Zaa Zam y15⟩), ((1, 1180), ⟨0, true, 39, 5, Zaa Zap r30⟩), ((1, 1182), ⟨0, true, 57, 3, Zaa Zaq r18⟩)]) ((ZrU p0 r14 y15 v16 r18 c26 e27 y28 v29 r30).m)) (vz (fl y15) <| vz (fl r30) <| vz (fl r18) <| lxe (ZG1 p0 r14 y15 v16 r18 c26 e27 y28) r30)
def ZA8 := fun ((v29, r30) : Nat × List Msg) => (ZsX p0 r14 y15 v16 r18 c26 e27 y28 v29 r30).m
def ZE9 : Nat × List Svc → St := fun (v34, r35) => mkS (ZxM p0 v16 e27 v34) [((1, 2), Zfw), ((1, 18), ⟨0, true, 27, 3, [.ref (1, 1180) 0 0 r33.length, .ref (1, 103) 0 0 y15.length, .ref (1, 1182) 0 0 r35.length]⟩), ((1, 52), (ZoC p0 r14 c26 e27 y28)), ((1, 103), ⟨0, true, 42, 5, Zaa Zam y15⟩), ((1, 1180), ⟨0, true, 39, 5, Zaa Zap r33⟩), ((1, 1182), ⟨0, true, 57, 3, Zaa Zaq r35⟩)]
def ZGo : List Svc → Nat × St := fun r38 => (8, mkS (ZAm p0 v16) [((1, 2), Zfw), ((1, 18), ⟨0, true, 27, 3, [.ref (1, 1180) 0 0 r33.length, .ref (1, 103) 0 0 y15.length, .ref (1, 1182) 0 0 r38.length]⟩), ((1, 52), (ZoC p0 r14 c26 e27 y28)), ((1, 103), ⟨0, true, 42, 5, Zaa Zam y15⟩), ((1, 1180), ⟨0, true, 39, 5, Zaa Zap r33⟩), ((1, 1182), ⟨0, true, 57, 3, Zaa Zaq r38⟩)])
def Ztt : ZvT := lrt E9 (fun _ => []) ((.mk [] [] [] : Scm), y37.1.name, y37.2)
def Zu1 : ZvT := vw .go <| vw .go <| lc (mkS [(2, .ptr (1, 2) 0 0), (3, vS y37.1.name), (4, vI y37.2)] [((1, 2), Zfw)]) ((Ztt y37).m)
def Ztf : ZvT := vs (wa v34 1) <| vz (fl y15) <| vz (fl r33) <| vz (fl (r35 ++ [y37.1])) <| ln (ZE9 p0 r14 y15 v16 c26 e27 y28 r33) (v34 + 1, r35 ++ [y37.1])
def Zsd : ZvT := vw .go <| vw .go <| vw .sep <| ap r35 (y37.1 : Svc) <| vw .go <| vz (fl y15) <| vz (fl r33) <| vz (fl (r35 ++ [y37.1])) <| lc (mkS (ZxM p0 v16 e27 v34) [((1, 2), Zfw), ((1, 18), ⟨0, true, 27, 3, [.ref (1, 1180) 0 0 r33.length, .ref (1, 103) 0 0 y15.length, .ref (1, 1182) 0 0 (r35 ++ [y37.1]).length]⟩), ((1, 52), (ZoC p0 r14 c26 e27 y28)), ((1, 103), ⟨0, true, 42, 5, Zaa Zam y15⟩), ((1, 1180), ⟨0, true, 39, 5, Zaa Zap r33⟩), ((1, 1182), ⟨0, true, 57, 3, Zaa Zaq (r35 ++ [y37.1])⟩)]) ((Ztf p0 r14 y15 v16 c26 e27 y28 r33 y37 v34 r35).m)
def Zvf : ZvT := vz (fl y15) <| vz (fl r33) <| vz (fl r35) <| lc (mkS (ZqJ p0 [(18, .ptr (1, 18) 0 0), (27, .ptr (1, 27) 0 0), (105, vL Zas p0), (106, vN p0.length), (107, vN v16), (148, vL Zaq e27.services), (149, vN e27.services.length), (150, vN v34)]) (ZAI p0 r14 y15 c26 e27 y28 r33 y37 r35)) ((Zsd p0 r14 y15 v16 c26 e27 y28 r33 y37 v34 r35).m)
def ZrT : ZvT := vz (fl y15) <| vz (fl r33) <| vz (fl r35) <| lc (mkS (ZqJ p0 [(18, .ptr (1, 18) 0 0), (27, .ptr (1, 27) 0 0), (28, vI y37.2), (105, vL Zas p0), (106, vN p0.length), (107, vN v16), (148, vL Zaq e27.services), (149, vN e27.services.length), (150, vN v34), (161, vB (!decide (y37.2 = (0 : Int))))]) (ZAI p0 r14 y15 c26 e27 y28 r33 y37 r35)) (if (!decide (y37.2 = (0 : Int))) = true then (Zu1 y37).m else (Zvf p0 r14 y15 v16 c26 e27 y28 r33 y37 v34 r35).m)
def ZtV : ZvT := ix e27.services v34 fun e36 => vw .go <| vw .go <| cs tp 29 [.ptr (1, 52) 0 0, .agg ((Zaq e36).map .d)] [(1, 52)] [((1, 52), ⟨0, true, 76, 10, [vL Zas p0, vS e27.name, vS e27.space, vL Zag e27.imports, vL Zap e27.messages, vL Zam e27.enums, vL Zaq e27.services, vL Zag y28, vL Zag c26, vL Zam r14]⟩)] (Za3 (.mk p0 e27 y28 c26 r14 : Lnk) e36) (fun y => .tup [.agg ((Zaq y.1).map .d), vI y.2]) fun y37 => vw .go <| vz (fl y15) <| vz (fl r33) <| vz (fl r35) <| lc (mkS (ZqJ p0 [(18, .ptr (1, 18) 0 0), (27, .ptr (1, 27) 0 0), (28, vI y37.2), (105, vL Zas p0), (106, vN p0.length), (107, vN v16), (148, vL Zaq e27.services), (149, vN e27.services.length), (150, vN v34)]) (ZAI p0 r14 y15 c26 e27 y28 r33 y37 r35)) ((ZrT p0 r14 y15 v16 c26 e27 y28 r33 y37 v34 r35).m)
def ZtG : ZvT := br (decide ((v34 : Int) < (e27.services.length : Int))) (vz (fl y15) <| vz (fl r33) <| vz (fl r35) <| lc (mkS (ZxM p0 v16 e27 v34) [((1, 2), Zfw), ((1, 18), ⟨0, true, 27, 3, [.ref (1, 1180) 0 0 r33.length, .ref (1, 103) 0 0 y15.length, .ref (1, 1182) 0 0 r35.length]⟩), ((1, 52), (ZoC p0 r14 c26 e27 y28)), ((1, 103), ⟨0, true, 42, 5, Zaa Zam y15⟩), ((1, 1180), ⟨0, true, 39, 5, Zaa Zap r33⟩), ((1, 1182), ⟨0, true, 57, 3, Zaa Zaq r35⟩)]) ((ZtV p0 r14 y15 v16 c26 e27 y28 r33 v34 r35).m)) (vz (fl y15) <| vz (fl r33) <| vz (fl r35) <| lxe (ZGo p0 r14 y15 v16 c26 e27 y28 r33) r35)
def ZBa := fun ((v34, r35) : Nat × List Svc) => (ZtG p0 r14 y15 v16 c26 e27 y28 r33 v34 r35).m
def Zur (r38 : List Svc) : ZDW := vs (wa v16 1) <| vz (fl y15) <| vz (fl r33) <| vz (fl r38) <| ln (ZFd p0 r14 y15) (v16 + 1, r33, r38, e27.name, e27.space, e27.imports, e27.messages, e27.enums, e27.services, y28, c26)
def Zso : ZDW := vw .go <| vz (eqL e27.services) <| vz (fl y15) <| vz (fl r33) <| vz (fl r18) <| lc (ZE9 p0 r14 y15 v16 c26 e27 y28 r33 (0, r18)) ((Zad (ZBa p0 r14 y15 v16 c26 e27 y28 r33) big (0, r18)).bind (Sum.elim (fun r38 => (Zur p0 r14 y15 v16 c26 e27 y28 r33 r38).m) (fun z => some (.rt z))))
def Zs1 : ZDW := vw .go <| vz (eqL e27.messages) <| vz (fl y15) <| vz (fl r17) <| vz (fl r18) <| lc (ZFV p0 r14 y15 v16 r18 c26 e27 y28 (0, r17)) ((Zad (ZA8 p0 r14 y15 v16 r18 c26 e27 y28) big (0, r17)).bind (Sum.elim (fun r33 => (Zso p0 r14 y15 v16 r18 c26 e27 y28 r33).m) (fun z => some (.rt z))))
def Zt4 : ZDW := ix p0 v16 fun e27 => vw .go <| vw .go <| vw .go <| cl (ZHE p0 e27) fun y28 => vw .go <| vw .go <| vz (fl y15) <| vz (fl r17) <| vz (fl r18) <| lc (mkS (ZBj p0 v16) [((1, 2), Zfw), ((1, 18), ⟨0, true, 27, 3, [.ref (1, 1180) 0 0 r17.length, .ref (1, 103) 0 0 y15.length, .ref (1, 1182) 0 0 r18.length]⟩), ((1, 20), (Zrg e27)), ((1, 52), (ZoC p0 r14 c26 e27 y28)), ((1, 103), ⟨0, true, 42, 5, Zaa Zam y15⟩), ((1, 1180), ⟨0, true, 39, 5, Zaa Zap r17⟩), ((1, 1182), ⟨0, true, 57, 3, Zaa Zaq r18⟩)]) ((Zs1 p0 r14 y15 v16 r18 c26 e27 y28 r17).m)
def ZuL (c19 : Bt) (c20 : Bt) (c21 : List Bt) (c22 : List Msg) (c23 : List Enm) (c24 : List Svc) (c25 : List Bt) : ZDW := br (decide ((v16 : Int) < (p0.length : Int))) (vz (fl y15) <| vz (fl r17) <| vz (fl r18) <| lc (mkS (ZAm p0 v16) [((1, 2), Zfw), ((1, 18), ⟨0, true, 27, 3, [.ref (1, 1180) 0 0 r17.length, .ref (1, 103) 0 0 y15.length, .ref (1, 1182) 0 0 r18.length]⟩), ((1, 52), ⟨0, true, 76, 10, [vL Zas p0, vS c19, vS c20, vL Zag c21, vL Zap c22, vL Zam c23, vL Zaq c24, vL Zag c25, vL Zag c26, vL Zam r14]⟩), ((1, 103), ⟨0, true, 42, 5, Zaa Zam y15⟩), ((1, 1180), ⟨0, true, 39, 5, Zaa Zap r17⟩), ((1, 1182), ⟨0, true, 57, 3, Zaa Zaq r18⟩)]) ((Zt4 p0 r14 y15 v16 r18 c26 r17).m)) (vz (fl y15) <| vz (fl r17) <| vz (fl r18) <| lxe (ZGf y15) (r17, r18))
def ZAS := fun ((v16, r17, r18, c19, c20, c21, c22, c23, c24, c25, c26) : Nat × List Msg × List Svc × Bt × Bt × List Bt × List Msg × List Enm × List Svc × List Bt × List Bt) => (ZuL p0 r14 y15 v16 r18 c26 r17 c19 c20 c21 c22 c23 c24 c25).m
def Zyf : ZrC := vz (fr y41.1) <| vz (fr y41.2.1) <| vz (fr y41.2.2) <| lr E9 (fun _ => []) ((.mk y41.1 y41.2.1 y41.2.2 : Scm), ⟨#[]⟩, 0)
def Zzw : ZrC := vw .go <| vz (fl y41.2.1) <| vz (fl y41.1) <| vz (fl y41.2.2) <| lc (mkS [(2, .ptr (1, 2) 0 0), (3, vS ⟨#[]⟩), (4, vI 0)] [((1, 2), ⟨0, true, 27, 3, [.ref (1, 1180) 0 0 y41.1.length, .ref (1, 103) 0 0 y41.2.1.length, .ref (1, 1182) 0 0 y41.2.2.length]⟩), ((1, 103), ⟨0, true, 42, 5, Zaa Zam y41.2.1⟩), ((1, 1180), ⟨0, true, 39, 5, Zaa Zap y41.1⟩), ((1, 1182), ⟨0, true, 57, 3, Zaa Zaq y41.2.2⟩)]) ((Zyf y41).m)
def ZwV (r39 : List Msg) (r40 : List Svc) : ZrC := vw .go <| vz (fl y15) <| vz (fl r39) <| vz (fl r40) <| lc (mkS [(2, .ptr (1, 2) 0 0), (174, .agg [.ref (1, 1180) 0 0 r39.length, .ref (1, 103) 0 0 y15.length, .ref (1, 1182) 0 0 r40.length])] [((1, 2), Zfw), ((1, 103), ⟨0, true, 42, 5, Zaa Zam y15⟩), ((1, 1180), ⟨0, true, 39, 5, Zaa Zap r39⟩), ((1, 1182), ⟨0, true, 57, 3, Zaa Zaq r40⟩)]) ((ZcA r39 y15 r40).bind fun y41 => (Zzw y41).m)
def ZAh : ZrC := vw (.adc (1, 18) 0 1180 39 5) <| vw (.adc (1, 18) 2 1182 57 3) <| vw (.adc (1, 52) 3 1523 9 1) <| vw (.frz 1523 [] [((1, 52), 3, (([] : List Bt).map Zag))]) <| vz (fz ([] : List Bt)) <| vw (.adc (1, 52) 4 1524 39 5) <| vw (.frz 1524 [] [((1, 52), 4, (([] : List Msg).map Zap))]) <| vz (fz ([] : List Msg)) <| vw (.adc (1, 52) 5 1525 42 5) <| vw (.frz 1525 [] [((1, 52), 5, (([] : List Enm).map Zam))]) <| vz (fz ([] : List Enm)) <| vw (.adc (1, 52) 6 1526 57 3) <| vw (.frz 1526 [] [((1, 52), 6, (([] : List Svc).map Zaq))]) <| vz (fz ([] : List Svc)) <| vw (.adc (1, 52) 7 1527 9 1) <| vw (.frz 1527 [] [((1, 52), 7, (([] : List Bt).map Zag))]) <| vz (fz ([] : List Bt)) <| vw (.frz 1528 [] [((1, 52), 8, (r13.map Zag))]) <| vz (fz r13) <| vz (fl y15) <| vz (fl ([] : List Msg)) <| vz (fl ([] : List Svc)) <| lc (ZFd p0 r14 y15 (0, ([] : List Msg), ([] : List Svc), ⟨#[]⟩, ⟨#[]⟩, ([] : List Bt), ([] : List Msg), ([] : List Enm), ([] : List Svc), ([] : List Bt), r13)) ((Zad (ZAS p0 r14 y15) big (0, ([] : List Msg), ([] : List Svc), ⟨#[]⟩, ⟨#[]⟩, ([] : List Bt), ([] : List Msg), ([] : List Enm), ([] : List Svc), ([] : List Bt), r13)).bind (Sum.elim (fun (r39, r40) => (ZwV y15 r39 r40).m) some))
def Zzq : ZrC := vz (eqL p0) <| vz (fl y15) <| vz (fl r13) <| lc (mkS (ZqJ p0 [(18, .ptr (1, 18) 0 0), (105, vL Zas p0), (106, vN p0.length), (107, vI 0)]) (ZCW p0 r14 y15 r13)) ((ZAh p0 r14 y15 r13).m)
def ZwJ : ZrC := vw .go <| vz (fl y15) <| vz (fl r13) <| lc (mkS (ZqJ p0 [(18, .ptr (1, 18) 0 0)]) (ZCW p0 r14 y15 r13)) ((Zzq p0 r14 y15 r13).m)
def ZxL : ZrC := vw (.frz 1529 [] [((1, 52), 9, (r14.map Zam))]) <| vz (fz r14) <| vw .sep <| vw .go <| vz (fl r13) <| lc (mkS (ZqJ p0 [(102, vL Zam r14)]) [((1, 2), Zfw), ((1, 52), ⟨0, true, 76, 10, [vL Zas p0, vS ⟨#[]⟩, vS ⟨#[]⟩, .e0, .e0, .e0, .e0, .e0, .ref (1, 1528) 0 0 r13.length, vL Zam r14]⟩), ((1, 1528), ⟨0, true, 9, 1, Zaa Zag r13⟩)]) ((ZcR r14).bind fun y15 => (ZwJ p0 r14 y15 r13).m)
def ZxH : ZrC := vw (.adc (1, 52) 8 1528 9 1) <| vw (.adc (1, 52) 9 1529 42 5) <| vz (fl ([] : List Bt)) <| vz (fl ([] : List Enm)) <| lc (ZFJ p0 (0, ([] : List Bt), ([] : List Enm))) ((Zad (ZAY p0) big (0, ([] : List Bt), ([] : List Enm))).bind (Sum.elim (fun (r13, r14) => (ZxL p0 r14 r13).m) some))
def Zzh : ZrC := vz (eqL p0) <| lc (mkS (ZqJ p0 [(53, vL Zas p0), (54, vN p0.length), (55, vI 0)]) (ZD8 p0)) ((ZxH p0).m)
def ZAa : ZrC := cl (ZIk p0) fun y1 => br (!decide (y1.2.2 = (0 : Int))) (vw .go <| lr E9 (fun _ => []) ((.mk [] [] [] : Scm), y1.2.1, y1.2.2)) (cl (ZHv p0) fun y2 => br (!decide (y2.2 = (0 : Int))) (vw .go <| lr E9 (fun _ => []) ((.mk [] [] [] : Scm), y2.1, y2.2)) (lc (mkS [(0, vL Zas p0), (2, .ptr (1, 2) 0 0), (10, .ptr (1, 52) 0 0)] (ZD8 p0)) ((Zzh p0).m)))
def Zdn (p0 : List Fil) : Option (Scm × Bt × Int) := (ZAa p0).m
section
include co
theorem ZDg : Kl 176 C (pa [0, 0, 1, 1, 1, 1, 0, 0, 1, 1, 0, 0, 1, 0, 1, 1, 1, 1] (Zai Try.f9)) [.cell 2 27, .tmp 3, .tmp 4] 0 (ZEP p0 v3 r4 e6 y7) (ZGr p0 v3 r4 y7) E9 (fun _ => []) (ZA9 p0 v3 r4 e6 y7) := fun (v8, r9) _ m Q Post hQ L => mi co 2 (ZEK p0 v3 r4 e6 y7 v8 r9) (lf2 ZtX ZuQ) (lf2 [0, 2, 10, 53, 54, 55] ZtW) hQ m L fun r g => ⟨fun _ m L => sq (bk 3 (mi co 2 (ZEL p0 v3 r4 e6 y7 v8 r9) (lf2 [0, 2, 10, 12, 17, 53, 54, 55, 75, 76, 77] [((1, 2), false), ((1, 12), false), ((1, 17), false), ((1, 52), false), ((1, 1528), true), ((1, 1529), true)]) nl hQ m L fun r g e10 y11 _ m L => drw tmo [0, 1, 2, 3, 4, 5, 6, 7, 8, 9, 10] (Zb4 co tok (ZEx p0 v3 r4 e6 y7 v8 r9 e10 y11) (lf2 ZtX ZuQ) m L fun r g _ m L => en co (ZEI p0 v3 r4 e6 y7 v8 r9 e10 y11) (lf2 ZtX ZuQ) nl hQ m L fun r g => id))), id⟩
theorem ZBX : Kl 176 C (pa [0, 0, 1, 0, 1, 1, 1, 1] (Zai Try.f9)) [.cell 2 27, .tmp 3, .tmp 4] 0 (ZFJ p0) (ZGj p0) E9 (fun _ => []) (ZAY p0) := fun (v3, r4, r5) _ m Q Post hQ L => mi co 2 (ZEG p0 v3 r4 r5) (lf2 [0, 2, 10, 53, 54, 55] ZtW) (lf2 [0, 2, 10] ZtW) hQ m L fun r g => ⟨fun _ m L => sq (bk 1 (mi co 4 (ZEv p0 v3 r4 r5) (lf2 ZtX ZuQ) nl hQ m L fun r g e6 y7 _ m L => bk 2 (lo (lpL (ZDg co p0 v3 r4 e6 y7) hQ m L (fun r12 m => en co (ZEl p0 v3 r4 y7 r12) (lf2 [0, 2, 10, 53, 54, 55] ZtW) nl hQ m L fun r g => id))))), id⟩
theorem ZBx : Kl 176 C (pa [0, 0, 1, 0, 1, 1, 0, 0, 1, 1, 0, 0, 1, 0, 1, 1, 1, 1, 1, 1] (Zai Try.f9)) [.cell 2 27, .tmp 3, .tmp 4] 0 (ZFV p0 r14 y15 v16 r18 c26 e27 y28) (ZG1 p0 r14 y15 v16 r18 c26 e27 y28) E9 (fun _ => []) (ZA8 p0 r14 y15 v16 r18 c26 e27 y28) := fun (v29, r30) _ m Q Post hQ L => mi co 2 (ZsX p0 r14 y15 v16 r18 c26 e27 y28 v29 r30) (lf2 Zs7 Zm7) (lf2 [0, 2, 10, 18, 20, 105, 106, 107] Zm7) hQ m L fun r g => ⟨fun _ m L => sq (bk 7 (mi co 2 (ZrU p0 r14 y15 v16 r18 c26 e27 y28 v29 r30) (lf2 [0, 2, 10, 18, 20, 23, 24, 105, 106, 107, 122, 123, 124] ZAe) nl hQ m L fun r g e31 => ⟨fun y hy => Zbh (ZHI (.mk p0 e27 y28 c26 r14 : Lnk) e31) hy co g [((1, 52), ⟨0, true, 76, 10, [vL Zas p0, vS e27.name, vS e27.space, vL Zag e27.imports, vL Zap e27.messages, vL Zam e27.enums, vL Zaq e27.services, vL Zag y28, vL Zag c26, vL Zam r14]⟩)] [] (lkS []) (fun H' hg ho => trivial) (fun H => ⟨fun _ => ⟨rfl, by kernel_rfl⟩, by kernel_rfl, trivial⟩), fun y32 _ m L => sq (mi co 1 (ZsM p0 r14 y15 v16 r18 c26 e27 y28 y32 v29 r30) (lf2 [0, 2, 10, 18, 20, 23, 24, 105, 106, 107, 122, 123, 124, 135] ZAe) nl hQ m L fun r g _ m L => cd (!decide (y32.2 = (0 : Int))) m (fun m => sq (ZGx co tmo [0, 1, 3, 2, 4, 5, 6] [2, 23] [(23, 2)] (Zb4 co tok (ZEk y32) (lf2 [2, 3, 4] [((1, 2), false)]) m L fun r g _ m L => en co (ZEt y32) nl nl hQ m L fun r g => id))) (fun m => en co (Zt2 p0 r14 y15 v16 r18 c26 e27 y28 y32 v29 r30) (lf2 [0, 2, 10, 18, 20, 23, 105, 106, 107, 122, 123, 124] ZAe) nl hQ m L fun r g _ m L => en co (Zts p0 r14 y15 v16 r18 c26 e27 y28 y32 v29 r30) (lf2 Zs7 Zm7) nl hQ m L fun r g _ m L => en co (ZuW p0 r14 y15 v16 r18 c26 e27 y28 y32 v29 r30) (lf2 Zs7 Zm7) nl hQ m L fun r g => id))⟩)), id⟩
theorem ZDX : Kl 176 C (pa [0, 0, 1, 1, 1, 1, 0, 0, 1, 1, 0, 0, 1, 0, 1, 1, 1, 1, 1, 1] (Zai Try.f9)) [.cell 2 27, .tmp 3, .tmp 4] 0 (ZE9 p0 r14 y15 v16 c26 e27 y28 r33) (ZGo p0 r14 y15 v16 c26 e27 y28 r33) E9 (fun _ => []) (ZBa p0 r14 y15 v16 c26 e27 y28 r33) := fun (v34, r35) _ m Q Post hQ L => mi co 2 (ZtG p0 r14 y15 v16 c26 e27 y28 r33 v34 r35) (lf2 ZuO Zkm) (lf2 Zz1 Zkm) hQ m L fun r g => ⟨fun _ m L => sq (bk 9 (mi co 2 (ZtV p0 r14 y15 v16 c26 e27 y28 r33 v34 r35) (lf2 [0, 2, 10, 18, 27, 28, 105, 106, 107, 148, 149, 150] ZwC) nl hQ m L fun r g e36 => ⟨fun y hy => Zbh (ZHF (.mk p0 e27 y28 c26 r14 : Lnk) e36) hy co g [((1, 52), ⟨0, true, 76, 10, [vL Zas p0, vS e27.name, vS e27.space, vL Zag e27.imports, vL Zap e27.messages, vL Zam e27.enums, vL Zaq e27.services, vL Zag y28, vL Zag c26, vL Zam r14]⟩)] [] (lkS []) (fun H' hg ho => trivial) (fun H => ⟨fun _ => ⟨rfl, by kernel_rfl⟩, by kernel_rfl, trivial⟩), fun y37 _ m L => sq (mi co 1 (ZrT p0 r14 y15 v16 c26 e27 y28 r33 y37 v34 r35) (lf2 [0, 2, 10, 18, 27, 28, 105, 106, 107, 148, 149, 150, 161] ZwC) nl hQ m L fun r g _ m L => cd (!decide (y37.2 = (0 : Int))) m (fun m => sq (ZGx co tmo [0, 1, 3, 2, 4, 5, 6] [2, 27] [(27, 2)] (Zb4 co tok (Zu1 y37) (lf2 [2, 3, 4] [((1, 2), false)]) m L fun r g _ m L => en co (Ztt y37) nl nl hQ m L fun r g => id))) (fun m => en co (Zvf p0 r14 y15 v16 c26 e27 y28 r33 y37 v34 r35) (lf2 [0, 2, 10, 18, 27, 105, 106, 107, 148, 149, 150] ZwC) nl hQ m L fun r g _ m L => en co (Zsd p0 r14 y15 v16 c26 e27 y28 r33 y37 v34 r35) (lf2 ZuO Zkm) nl hQ m L fun r g _ m L => en co (Ztf p0 r14 y15 v16 c26 e27 y28 r33 y37 v34 r35) (lf2 ZuO Zkm) nl hQ m L fun r g => id))⟩)), id⟩
theorem ZCx : Kl 176 C (pa [0, 0, 1, 0, 1, 1, 1, 1, 1, 1] (Zai Try.f9)) [.cell 2 27, .tmp 3, .tmp 4] 0 (ZFd p0 r14 y15) (ZGf y15) E9 (fun _ => []) (ZAS p0 r14 y15) := fun (v16, r17, r18, c19, c20, c21, c22, c23, c24, c25, c26) _ m Q Post hQ L => mi co 2 (ZuL p0 r14 y15 v16 r18 c26 r17 c19 c20 c21 c22 c23 c24 c25) (lf2 Zz1 Zkm) (lf2 [2, 18] [((1, 2), false), ((1, 18), false), ((1, 103), true), ((1, 1180), true), ((1, 1182), true)]) hQ m L fun r g => ⟨fun _ m L => sq (bk 5 (mi co 2 (Zt4 p0 r14 y15 v16 r18 c26 r17) (lf2 [0, 2, 10, 18, 20, 105, 106, 107] Zm7) nl hQ m L fun r g e27 y28 _ m L => sq (mi co 1 (Zs1 p0 r14 y15 v16 r18 c26 e27 y28 r17) (lf2 Zs7 Zm7) nl hQ m L fun r g _ m L => bk 6 (lo (lpL (ZBx co p0 r14 y15 v16 r18 c26 e27 y28) hQ m L (fun r33 m => mi co 1 (Zso p0 r14 y15 v16 r18 c26 e27 y28 r33) (lf2 ZuO Zkm) nl hQ m L fun r g _ m L => bk 8 (lo (lpL (ZDX co p0 r14 y15 v16 c26 e27 y28 r33) hQ m L (fun r38 m => en co (Zur p0 r14 y15 v16 c26 e27 y28 r33 r38) (lf2 Zz1 Zkm) nl hQ m L fun r g => id))))))))), id⟩
end
end
theorem K_9 (p0 : List Fil) : KC tp 9 [vL Zas p0] (Zdn p0) E9 := kc1 Try.func9 Try.ntmps9 tok [.cell 2 27, .tmp 3, .tmp 4] fun C co y m Post L => mi co 4 (ZAa p0) (lf2 [0, 2, 10] [((1, 2), false), ((1, 52), false)]) nl ii m L fun r g y1 => ⟨id, fun y2 => ⟨id, fun _ m L => sq (mi co 1 (Zzh p0) (lf2 [0, 2, 10, 53, 54, 55] [((1, 2), false), ((1, 52), false)]) nl ii m L fun r g _ m L => bk 0 (Zn7 co (ZxH p0) (lf2 [0, 2, 10, 53, 54, 55] [((1, 2), false), ((1, 52), false), ((1, 1528), true), ((1, 1529), true)]) m L fun r g _ m L => lo (lpF (ZBX co p0) ii m L (fun (r13, r14) m => sq (rg (Zb8 co tok 4 (ZxL p0 r14 r13) (lf2 [0, 2, 10, 102] [((1, 2), false), ((1, 52), false), ((1, 1528), true)]) m L fun r g _ m L => ZaS co m 26 [vL Zam r14] [(1, 103)] ([((1, 103), ⟨0, false, 0, 0, []⟩)] ++ []) (fun z => .ref (1, 103) 1 0 z.length) (fun z => [((1, 103), ⟨1, true, 42, 5, Zaa Zam z⟩)]) [(1, 1528)] (fun z => trivial) (⟨Zaj _ _, trivial⟩) (fun z hz r g => Zae (ZIs r14) hz co g [((1, 103), ⟨0, false, 0, 0, []⟩)] [] [((1, 103), ⟨1, true, 42, 5, Zaa Zam z⟩)] (lkS []) (fun H' hg ho => trivial) (fun H => ⟨(fun h => by cases h), by kernel_rfl, trivial⟩) (fun H => ⟨fun _ => ⟨rfl, bz⟩, by kernel_rfl, trivial⟩)) fun y15 m => Zb4 co tok (ZwJ p0 r14 y15 r13) (lf2 [0, 2, 10, 18] [((1, 2), false), ((1, 18), false), ((1, 52), false), ((1, 103), true), ((1, 1528), true)]) m L fun r g _ m L => sq (mi co 1 (Zzq p0 r14 y15 r13) (lf2 [0, 2, 10, 18, 105, 106, 107] [((1, 2), false), ((1, 18), false), ((1, 52), false), ((1, 103), true), ((1, 1528), true)]) nl ii m L fun r g _ m L => bk 4 (Zn7 co (ZAh p0 r14 y15 r13) (lf2 [0, 2, 10, 18, 105, 106, 107] [((1, 2), false), ((1, 18), false), ((1, 52), false), ((1, 103), true), ((1, 1180), true), ((1, 1182), true)]) m L fun r g _ m L => lo (lpF (ZCx co p0 r14 y15) ii m L (fun (r39, r40) m => sq (rg (Zb8 co tok 1 (ZwV y15 r39 r40) (lf2 [2, 174] [((1, 2), false), ((1, 103), true), ((1, 1180), true), ((1, 1182), true)]) m L fun r g _ m L => ZaS co m 30 [.agg [.ref (1, 1180) 0 0 r39.length, .ref (1, 103) 0 0 y15.length, .ref (1, 1182) 0 0 r40.length]] [(1, 1180), (1, 103), (1, 1182)] ([((1, 1180), ⟨0, true, 39, 5, Zaa Zap r39⟩), ((1, 103), ⟨0, true, 42, 5, Zaa Zam y15⟩), ((1, 1182), ⟨0, true, 57, 3, Zaa Zaq r40⟩)] ++ []) (fun z => .agg [.ref (1, 1180) 0 0 z.1.length, .ref (1, 103) 0 0 z.2.1.length, .ref (1, 1182) 0 0 z.2.2.length]) (fun z => [((1, 1180), ⟨0, true, 39, 5, Zaa Zap z.1⟩), ((1, 103), ⟨0, true, 42, 5, Zaa Zam z.2.1⟩), ((1, 1182), ⟨0, true, 57, 3, Zaa Zaq z.2.2⟩)]) [] (fun z => trivial) (trivial) (fun z hz r g => Zae (ZHV r39 y15 r40) hz co g [((1, 1180), ⟨0, true, 39, 5, Zaa Zap r39⟩), ((1, 103), ⟨0, true, 42, 5, Zaa Zam y15⟩), ((1, 1182), ⟨0, true, 57, 3, Zaa Zaq r40⟩)] [] [((1, 1180), ⟨0, true, 39, 5, Zaa Zap z.1⟩), ((1, 103), ⟨0, true, 42, 5, Zaa Zam z.2.1⟩), ((1, 1182), ⟨0, true, 57, 3, Zaa Zaq z.2.2⟩)] (lkS []) (fun H' hg ho => trivial) (fun H => ⟨fun _ => ⟨rfl, bz⟩, by kernel_rfl, ⟨fun _ => ⟨rfl, bz⟩, by kernel_rfl, ⟨fun _ => ⟨rfl, bz⟩, by kernel_rfl, trivial⟩⟩⟩) (fun H => ⟨fun _ => ⟨rfl, bz⟩, by kernel_rfl, ⟨fun _ => ⟨rfl, bz⟩, by kernel_rfl, ⟨fun _ => ⟨rfl, bz⟩, by kernel_rfl, trivial⟩⟩⟩)) fun y41 m => Zb4 co tok (Zzw y41) (lf2 [2, 3, 4] [((1, 2), false), ((1, 103), true), ((1, 1180), true), ((1, 1182), true)]) m L fun r g _ m L => fo co (Zyf y41) m L fun r g => id))))))))))))⟩⟩
abbrev E45 : Bool → AV := fun y => vB y
section
variable {C : Cx} (p0 : List Bt) (p1 : Bt)
def ZxS : Nat → St := fun v1 => mkS [(0, vL Zag p0), (1, vS p1), (5, vN v1)] []
def ZBS : Unit → Nat × St := fun _ => (0, mkS [] [])
def Zr4 (v1 : Nat) : PT 0 (Lv (Nat) (Unit) (Bool)) := vz (eqL p0) <| br (decide ((v1 : Int) < (p0.length : Int))) (ix p0 v1 fun e2 => br (decide (e2 = p1)) (lrt E45 (fun _ => []) true) (vs (wa v1 1) <| ln (ZxS p0 p1) (v1 + 1))) (lxe (ZBS) ())
def ZrK := fun (v1 : Nat) => (Zr4 p0 p1 v1).m
def ZzW : PT 0 (Bool) := lr E45 (fun _ => []) false
def Zxp : PT 0 (Bool) := lc (ZxS p0 p1 0) ((Zad (ZrK p0 p1) big 0).bind (Sum.elim (fun _ => (ZzW).m) some))
def ZAQ : PT 0 (Bool) := lc (mkS [(0, vL Zag p0), (1, vS p1)] []) ((Zxp p0 p1).m)
def ZbJ (p0 : List Bt) (p1 : Bt) : Option (Bool) := (ZAQ p0 p1).m
theorem Zw1 (co : CO C 0) : Kl 18 C (pa [0, 0, 1, 0, 1] (Zai Try.f45)) [.tmp 4] 0 (ZxS p0 p1) (ZBS) E45 (fun _ => []) (ZrK p0 p1) := fun v1 _ m Q Post hQ L => en co (Zr4 p0 p1 v1) (lf1 [0, 1, 5]) nl hQ m L fun r g => ⟨fun e2 => ⟨id, id⟩, id⟩
end
theorem ZIw (p0 : List Bt) (p1 : Bt) : KC tp 45 [vL Zag p0, vS p1] (ZbJ p0 p1) E45 := kc1 Try.func45 Try.ntmps45 tok [.tmp 4] fun C co y m Post L => mi co 1 (ZAQ p0 p1) (lf1 [0, 1]) nl ii m L fun r g _ m L => sq (mi co 1 (Zxp p0 p1) (lf1 [0, 1, 5]) nl ii m L fun r g _ m L => bk 0 (lo (lpF (Zw1 p0 p1 co) ii m L (fun _ m => fo co (ZzW) m L fun r g => id))))
abbrev E35 : Bt → AV := fun y => vS y
def ZwB (p0 : Bt) (p1 : Bt) : PT 0 (Bt) := br (decide (p0 = (⟨#[]⟩ : Bt))) (lr E35 (fun _ => []) p1) (ad p0 (⟨#[46]⟩ : Bt) fun s1 => ad s1 p1 fun s2 => lr E35 (fun _ => []) s2)
def ZbF (p0 : Bt) (p1 : Bt) : Option (Bt) := (ZwB p0 p1).m
theorem ZFs (p0 : Bt) (p1 : Bt) : KC tp 35 [vS p0, vS p1] (ZbF p0 p1) E35 := kc1 Try.func35 Try.ntmps35 tok [.tmp 4] fun C co y m Post L => fo co (ZwB p0 p1) m L fun r g => ⟨id, fun s1 s2 => id⟩
abbrev E50 : List Bt → AV := fun y => vL Zag y
section
variable {C : Cx} (co : CO C 0) (p0 : Fil)
abbrev Zob := PT 0 (List Bt)
abbrev Zlb : Blk := ⟨0, true, 61, 6, [vS p0.name, vS p0.space, vL Zag p0.imports, vL Zap p0.messages, vL Zam p0.enums, vL Zaq p0.services]⟩
abbrev ZoO : List (Key × Bool) := [((1, 1), false), ((1, 3), true)]
def Zya : List Bt × Nat → St := fun (r1, v2) => mkS [(1, .ptr (1, 1) 0 0), (3, .ref (1, 3) 0 0 r1.length), (11, vL Zap p0.messages), (12, vN p0.messages.length), (13, vN v2)] [((1, 1), (Zlb p0)), ((1, 3), ⟨0, true, 9, 1, Zaa Zag r1⟩)]
def ZD7 : List Bt → Nat × St := fun r5 => (0, mkS [(1, .ptr (1, 1) 0 0), (3, .ref (1, 3) 0 0 r5.length)] [((1, 1), (Zlb p0)), ((1, 3), ⟨0, true, 9, 1, Zaa Zag r5⟩)])
def Zse (r1 : List Bt) (v2 : Nat) : PT 0 (Lv (List Bt × Nat) (List Bt) (List Bt)) := br (decide ((v2 : Int) < (p0.messages.length : Int))) (ix p0.messages v2 fun e3 => vw .go <| vw .go <| vw .go <| cl (ZFs p0.space e3.name) fun y4 => vw .sep <| ap r1 (y4 : Bt) <| vs (wa v2 1) <| vz (fl (r1 ++ [y4])) <| ln (Zya p0) (r1 ++ [y4], v2 + 1)) (vz (fl r1) <| lxe (ZD7 p0) r1)
def ZoR := fun ((r1, v2) : List Bt × Nat) => (Zse p0 r1 v2).m
def Zx5 : List Bt × Nat → St := fun (r6, v7) => mkS [(1, .ptr (1, 1) 0 0), (3, .ref (1, 3) 0 0 r6.length), (27, vL Zam p0.enums), (28, vN p0.enums.length), (29, vN v7)] [((1, 1), (Zlb p0)), ((1, 3), ⟨0, true, 9, 1, Zaa Zag r6⟩)]
def ZC1 : List Bt → Nat × St := fun r10 => (2, mkS [(1, .ptr (1, 1) 0 0), (3, .ref (1, 3) 0 0 r10.length)] [((1, 1), (Zlb p0)), ((1, 3), ⟨0, true, 9, 1, Zaa Zag r10⟩)])
def Zr2 (r6 : List Bt) (v7 : Nat) : PT 0 (Lv (List Bt × Nat) (List Bt) (List Bt)) := br (decide ((v7 : Int) < (p0.enums.length : Int))) (ix p0.enums v7 fun e8 => vw .go <| vw .go <| vw .go <| cl (ZFs p0.space e8.name) fun y9 => vw .sep <| ap r6 (y9 : Bt) <| vs (wa v7 1) <| vz (fl (r6 ++ [y9])) <| ln (Zx5 p0) (r6 ++ [y9], v7 + 1)) (vz (fl r6) <| lxe (ZC1 p0) r6)
def Zo8 := fun ((r6, v7) : List Bt × Nat) => (Zr2 p0 r6 v7).m
def Zwn : List Bt × Nat → St := fun (r11, v12) => mkS [(1, .ptr (1, 1) 0 0), (3, .ref (1, 3) 0 0 r11.length), (43, vL Zaq p0.services), (44, vN p0.services.length), (45, vN v12)] [((1, 1), (Zlb p0)), ((1, 3), ⟨0, true, 9, 1, Zaa Zag r11⟩)]
def ZBv : List Bt → Nat × St := fun r15 => (4, mkS [(3, .ref (1, 3) 0 0 r15.length)] [((1, 3), ⟨0, true, 9, 1, Zaa Zag r15⟩)])
def ZsH (r11 : List Bt) (v12 : Nat) : PT 0 (Lv (List Bt × Nat) (List Bt) (List Bt)) := br (decide ((v12 : Int) < (p0.services.length : Int))) (ix p0.services v12 fun e13 => vw .go <| vw .go <| vw .go <| cl (ZFs p0.space e13.name) fun y14 => vw .sep <| ap r11 (y14 : Bt) <| vs (wa v12 1) <| vz (fl (r11 ++ [y14])) <| ln (Zwn p0) (r11 ++ [y14], v12 + 1)) (vz (fl r11) <| lxe (ZBv) r11)
def Zop := fun ((r11, v12) : List Bt × Nat) => (ZsH p0 r11 v12).m
def Zyo (r15 : List Bt) : Zob := vz (fr r15) <| lr E50 (fun _ => []) r15
def ZxE (r10 : List Bt) : Zob := vw .go <| vz (eqL p0.services) <| vz (fl r10) <| lc (Zwn p0 (r10, 0)) ((Zad (Zop p0) big (r10, 0)).bind (Sum.elim (fun r15 => (Zyo r15).m) some))
def ZwA (r5 : List Bt) : Zob := vw .go <| vz (eqL p0.enums) <| vz (fl r5) <| lc (Zx5 p0 (r5, 0)) ((Zad (Zo8 p0) big (r5, 0)).bind (Sum.elim (fun r10 => (ZxE p0 r10).m) some))
def Zw5 : Zob := vw (.ads 3 3 9 1) <| vz (fl ([] : List Bt)) <| lc (Zya p0 (([] : List Bt), 0)) ((Zad (ZoR p0) big (([] : List Bt), 0)).bind (Sum.elim (fun r5 => (ZwA p0 r5).m) some))
def Zzy : Zob := vw .go <| vz (eqL p0.messages) <| lc (mkS [(1, .ptr (1, 1) 0 0), (3, .e0), (11, vL Zap p0.messages), (12, vN p0.messages.length), (13, vI 0)] [((1, 1), (Zlb p0))]) ((Zw5 p0).m)
def ZAo : Zob := lc (mkS [(1, .ptr (1, 1) 0 0), (3, .e0)] [((1, 1), (Zlb p0))]) ((Zzy p0).m)
def Zbl (p0 : Fil) : Option (List Bt) := (ZAo p0).m
section
include co
theorem Zyq : Kl 59 C (pa [0, 0, 1, 0, 1, 1] (Zai Try.f50)) [.tmp 2] 0 (Zya p0) (ZD7 p0) E50 (fun _ => []) (ZoR p0) := fun (r1, v2) _ m Q Post hQ L => en co (Zse p0 r1 v2) (lf2 [1, 3, 11, 12, 13] ZoO) (lf2 [1, 3] ZoO) hQ m L fun r g => ⟨fun e3 y4 => id, id⟩
theorem ZwL : Kl 59 C (pa [0, 0, 1, 0, 1, 1, 1] (Zai Try.f50)) [.tmp 2] 0 (Zx5 p0) (ZC1 p0) E50 (fun _ => []) (Zo8 p0) := fun (r6, v7) _ m Q Post hQ L => en co (Zr2 p0 r6 v7) (lf2 [1, 3, 27, 28, 29] ZoO) (lf2 [1, 3] ZoO) hQ m L fun r g => ⟨fun e8 y9 => id, id⟩
theorem ZzN : Kl 59 C (pa [0, 0, 1, 0, 1, 1, 1, 1] (Zai Try.f50)) [.tmp 2] 0 (Zwn p0) (ZBv) E50 (fun _ => []) (Zop p0) := fun (r11, v12) _ m Q Post hQ L => en co (ZsH p0 r11 v12) (lf2 [1, 3, 43, 44, 45] ZoO) (lf2 [3] [((1, 3), true)]) hQ m L fun r g => ⟨fun e13 y14 => id, id⟩
end
end
theorem ZIr (p0 : Fil) : KC tp 50 [.agg ((Zas p0).map .d)] (Zbl p0) E50 := kc1 Try.func50 Try.ntmps50 tok [.tmp 2] fun C co y m Post L => mi co 2 (ZAo p0) (lf2 [1, 3] [((1, 1), false)]) nl ii m L fun r g _ m L => sq (mi co 1 (Zzy p0) (lf2 [1, 3, 11, 12, 13] [((1, 1), false)]) nl ii m L fun r g _ m L => bk 0 (Zn7 co (Zw5 p0) (lf2 [1, 3, 11, 12, 13] [((1, 1), false), ((1, 3), true)]) m L fun r g _ m L => lo (lpF (Zyq co p0) ii m L (fun r5 m => sq (mi co 1 (ZwA p0 r5) (lf2 [1, 3, 27, 28, 29] [((1, 1), false), ((1, 3), true)]) nl ii m L fun r g _ m L => bk 2 (lo (lpF (ZwL co p0) ii m L (fun r10 m => sq (mi co 1 (ZxE p0 r10) (lf2 [1, 3, 43, 44, 45] [((1, 1), false), ((1, 3), true)]) nl ii m L fun r g _ m L => bk 4 (lo (lpF (ZzN co p0) ii m L (fun r15 m => fo co (Zyo r15) m L fun r g => id))))))))))))
end
end Go.Proofs.Ythagpbkmakocjaa
namespace Go.Proofs.Ythagpbkmakocjaa
set_option linter.all false
set_option maxRecDepth 100000
open Go Go.Eng
noncomputable section
abbrev E12 : Bool → AV := fun y => vB y
def ZC8 : PT 0 (Bool) := vw .sep <| vw .sep <| vw .sep <| vw .sep <| vw .go <| vw .go <| vw .sep <| cl (K_9 ([(.mk ⟨#[120]⟩ ⟨#[97]⟩ ([] : List Bt) ([(.mk ⟨#[77]⟩ ([(.mk 1 ⟨#[102]⟩ 2 0 (.mk 0 ⟨#[78]⟩ : Typ) ⟨#[]⟩ false (.mk 0 0 ⟨#[]⟩ ([] : List Val) ([] : List Pr) ([] : List Slt) ([] : List Raw) : Val) ([] : List Nt) : Fld)] : List Fld) ([] : List Spn) ([] : List Bt) ([] : List Nt) : Msg), (.mk (⟨#[77, 46, 78]⟩) ([] : List Fld) ([] : List Spn) ([] : List Bt) ([] : List Nt) : Msg)] : List Msg) ([] : List Enm) ([] : List Svc) : Fil)] : List Fil)) fun y1 => vw .go <| vw .go <| vy (decide (y1.2.2 = (0 : Int)) && decide (y1.2.1 = (⟨#[]⟩ : Bt))) (eqL y1.1.messages) <| vw .go <| ixg ((decide (y1.2.2 = (0 : Int)) && decide (y1.2.1 = (⟨#[]⟩ : Bt))) && decide ((y1.1.messages.length : Int) = (2 : Int))) y1.1.messages 0 fun e2 => vw .go <| ixg (((decide (y1.2.2 = (0 : Int)) && decide (y1.2.1 = (⟨#[]⟩ : Bt))) && decide ((y1.1.messages.length : Int) = (2 : Int))) && decide (e2.name = (⟨#[97, 46, 77]⟩ : Bt))) y1.1.messages 1 fun e3 => vw .go <| ixg ((((decide (y1.2.2 = (0 : Int)) && decide (y1.2.1 = (⟨#[]⟩ : Bt))) && decide ((y1.1.messages.length : Int) = (2 : Int))) && decide (e2.name = (⟨#[97, 46, 77]⟩ : Bt))) && decide (e3.name = (⟨#[97, 46, 77, 46, 78]⟩ : Bt))) y1.1.messages 0 fun e4 => vy ((((decide (y1.2.2 = (0 : Int)) && decide (y1.2.1 = (⟨#[]⟩ : Bt))) && decide ((y1.1.messages.length : Int) = (2 : Int))) && decide (e2.name = (⟨#[97, 46, 77]⟩ : Bt))) && decide (e3.name = (⟨#[97, 46, 77, 46, 78]⟩ : Bt))) (eqL e4.fields) <| vw .go <| ixg (((((decide (y1.2.2 = (0 : Int)) && decide (y1.2.1 = (⟨#[]⟩ : Bt))) && decide ((y1.1.messages.length : Int) = (2 : Int))) && decide (e2.name = (⟨#[97, 46, 77]⟩ : Bt))) && decide (e3.name = (⟨#[97, 46, 77, 46, 78]⟩ : Bt))) && decide ((e4.fields.length : Int) = (1 : Int))) y1.1.messages 0 fun e5 => ixg (((((decide (y1.2.2 = (0 : Int)) && decide (y1.2.1 = (⟨#[]⟩ : Bt))) && decide ((y1.1.messages.length : Int) = (2 : Int))) && decide (e2.name = (⟨#[97, 46, 77]⟩ : Bt))) && decide (e3.name = (⟨#[97, 46, 77, 46, 78]⟩ : Bt))) && decide ((e4.fields.length : Int) = (1 : Int))) e5.fields 0 fun e6 => lr E12 (fun _ => []) ((((((decide (y1.2.2 = (0 : Int)) && decide (y1.2.1 = (⟨#[]⟩ : Bt))) && decide ((y1.1.messages.length : Int) = (2 : Int))) && decide (e2.name = (⟨#[97, 46, 77]⟩ : Bt))) && decide (e3.name = (⟨#[97, 46, 77, 46, 78]⟩ : Bt))) && decide ((e4.fields.length : Int) = (1 : Int))) && (decide (e6.type.kind = 10) && (decide (e6.type.name = (⟨#[97, 46, 77, 46, 78]⟩)) && true)))
def Zca : Option (Bool) := (ZC8).m
theorem ZGH : KC tp 12 [] (Zca) E12 := kc1 Try.func12 Try.ntmps12 tok [.tmp 0] fun C co y m Post L => fo co (ZC8) m L fun r g y1 e2 e3 e4 e5 e6 => id
abbrev E14 : Bool → AV := fun y => vB y
section
variable {C : Cx} (p0 : List Bt) (p1 : Bt)
def Zzo : Nat → St := fun v1 => mkS [(0, vL Zag p0), (1, vS p1), (5, vN v1)] []
def ZDE : Unit → Nat × St := fun _ => (0, mkS [] [])
def ZuF (v1 : Nat) : PT 0 (Lv (Nat) (Unit) (Bool)) := vz (eqL p0) <| br (decide ((v1 : Int) < (p0.length : Int))) (ix p0 v1 fun e2 => br (decide (e2 = p1)) (lrt E14 (fun _ => []) true) (vs (wa v1 1) <| ln (Zzo p0 p1) (v1 + 1))) (lxe (ZDE) ())
def Zss := fun (v1 : Nat) => (ZuF p0 p1 v1).m
def ZzX : PT 0 (Bool) := lr E14 (fun _ => []) false
def Zw6 : PT 0 (Bool) := lc (Zzo p0 p1 0) ((Zad (Zss p0 p1) big 0).bind (Sum.elim (fun _ => (ZzX).m) some))
def Zx3 : PT 0 (Bool) := lc (mkS [(0, vL Zag p0), (1, vS p1)] []) ((Zw6 p0 p1).m)
def Zbj (p0 : List Bt) (p1 : Bt) : Option (Bool) := (Zx3 p0 p1).m
theorem ZyJ (co : CO C 0) : Kl 18 C (pa [0, 0, 1, 0, 1] (Zai Try.f14)) [.tmp 4] 0 (Zzo p0 p1) (ZDE) E14 (fun _ => []) (Zss p0 p1) := fun v1 _ m Q Post hQ L => en co (ZuF p0 p1 v1) (lf1 [0, 1, 5]) nl hQ m L fun r g => ⟨fun e2 => ⟨id, id⟩, id⟩
end
theorem ZFf (p0 : List Bt) (p1 : Bt) : KC tp 14 [vL Zag p0, vS p1] (Zbj p0 p1) E14 := kc1 Try.func14 Try.ntmps14 tok [.tmp 4] fun C co y m Post L => mi co 1 (Zx3 p0 p1) (lf1 [0, 1]) nl ii m L fun r g _ m L => sq (mi co 1 (Zw6 p0 p1) (lf1 [0, 1, 5]) nl ii m L fun r g _ m L => bk 0 (lo (lpF (ZyJ p0 p1 co) ii m L (fun _ m => fo co (ZzX) m L fun r g => id))))
end
end Go.Proofs.Ythagpbkmakocjaa
namespace Go.Eng
set_option linter.all false
open Go Go.RowKit
section
variable {σ ξ ρ α β γ : Type}
def Zd7 (g : β → α → β ⊕ ρ) : β → List α → β ⊕ ρ
 | b, [] => .inl b
 | b, x :: l => match g b x with
  | .inl b' => Zd7 g b' l
  | .inr r => .inr r
theorem ZjF {B : σ → Option (Lv σ ξ ρ)} {N : Nat} (l : List α) (mk : Nat → β → σ) (I : Nat → β → Prop) (g : β → α → β ⊕ ρ) (e : β → ξ)
  (hs : ∀ i b x, l[i]? = some x → I i b → B (mk i b) = some (Sum.elim (fun b' => Lv.nx (mk (i + 1) b')) Lv.rt (g b x)) ∧ ∀ b', g b x = .inl b' → I (i + 1) b')
  (he : ∀ b, I l.length b → B (mk l.length b) = some (.ex (e b))) (b0 : β) (h0 : I 0 b0) (hN : l.length < N) : Zad B N (mk 0 b0) = some (Sum.map e id (Zd7 g b0 l)) := by
 suffices H : ∀ k i b N, i + k = l.length → I i b → k < N → Zad B N (mk i b) = some (Sum.map e id (Zd7 g b (l.drop i))) by
  have := H l.length 0 b0 N (by omega) h0 hN
  simpa using this
 intro k
 induction k with
 | zero =>
  intro i b N hi hI hN
  obtain ⟨N, rfl⟩ : ∃ m, N = m + 1 := ⟨N - 1, by omega⟩
  have : i = l.length := by omega
  subst this
  rw [Zad, he b hI, List.drop_length]
  rfl
 | succ k ih =>
  intro i b N hi hI hN
  obtain ⟨N, rfl⟩ : ∃ m, N = m + 1 := ⟨N - 1, by omega⟩
  have hlt : i < l.length := by omega
  obtain ⟨h1, h2⟩ := hs i b l[i] (List.getElem?_eq_getElem hlt) hI
  rw [Zad, h1, List.drop_eq_getElem_cons hlt, Zd7]
  cases hg : g b l[i] with
  | inl b' => exact ih (i + 1) b' N (by omega) (h2 b' hg) (by omega)
  | inr r => rfl
theorem ZbU {B : Nat → Option (Lv Nat ξ ρ)} {N : Nat} (l : List α) (p : α → Bool) (f : Nat → ρ) (e : ξ)
  (hs : ∀ i x, l[i]? = some x → B i = some (if p x = true then .rt (f i) else .nx (i + 1))) (he : B l.length = some (.ex e)) (hN : l.length < N) :
  Zad B N 0 = some (match l.findIdx? p with | some i => .inr (f i) | none => .inl e) := by
 suffices H : ∀ k i N, i + k = l.length → k < N → Zad B N i = some (match (l.drop i).findIdx? p with | some j => .inr (f (i + j)) | none => .inl e) by
  have := H l.length 0 N (by omega) hN
  simpa using this
 intro k
 induction k with
 | zero =>
  intro i N hi hN
  obtain ⟨N, rfl⟩ : ∃ m, N = m + 1 := ⟨N - 1, by omega⟩
  have : i = l.length := by omega
  subst this
  rw [Zad, he, List.drop_length]
  rfl
 | succ k ih =>
  intro i N hi hN
  obtain ⟨N, rfl⟩ : ∃ m, N = m + 1 := ⟨N - 1, by omega⟩
  have hlt : i < l.length := by omega
  rw [Zad, hs i l[i] (List.getElem?_eq_getElem hlt), List.drop_eq_getElem_cons hlt, List.findIdx?_cons]
  cases hp : p l[i] with
  | true => simp
  | false =>
   simp only [Bool.false_eq_true, if_false]
   rw [ih (i + 1) N (by omega) (by omega)]
   cases (List.drop (i + 1) l).findIdx? p with
   | none => rfl
   | some j => simp [Nat.add_assoc, Nat.add_comm 1 j]
theorem Zkf {g : β → α → β ⊕ ρ} (h : β → α → β) (hg : ∀ b x, g b x = .inl (h b x)) : ∀ (l : List α) (b : β), Zd7 g b l = .inl (l.foldl h b)
 | [], b => rfl
 | x :: l, b => by rw [Zd7, hg]; exact Zkf h hg l _
theorem ZhE (f : α → γ) : ∀ (l : List α) (b : List γ), l.foldl (fun b x => b ++ [f x]) b = b ++ l.map f
 | [], b => by simp
 | x :: l, b => by rw [List.foldl_cons, ZhE f l]; simp
theorem ZdU {B : List γ × Nat → Option (Lv (List γ × Nat) (List γ) ρ)} {N : Nat} (l : List α) (f : α → γ) (b0 : List γ)
  (hs : ∀ i b x, l[i]? = some x → b.length = b0.length + i → B (b, i) = some (.nx (b ++ [f x], i + 1))) (he : ∀ b, B (b, l.length) = some (.ex b)) (hN : l.length < N) :
  Zad B N (b0, 0) = some (.inl (b0 ++ l.map f)) := by
 have := ZjF (B := B) (N := N) l (fun i b => (b, i)) (fun i b => b.length = b0.length + i) (fun b x => (.inl (b ++ [f x]) : List γ ⊕ ρ)) id (fun i b x hx hb => ⟨hs i b x hx hb, fun b' e => by cases e; rw [List.length_append, hb]; rfl⟩) (fun b _ => he b) b0 rfl hN
 rw [this, Zkf (fun b x => b ++ [f x]) (fun _ _ => rfl), ZhE]
 rfl
def Za5 (R : List α → α → Option ρ) : List α → List α → Option ρ
 | _, [] => none
 | p, x :: l => match R p x with
  | some r => some r
  | none => Za5 R (p ++ [x]) l
theorem ZbW {B : σ → Option (Lv σ ξ ρ)} {N : Nat} (l : List α) (S : List α → β) (R : List α → α → Option ρ) (mk : Nat → β → σ) (e : β → ξ)
  (hs : ∀ i x, l[i]? = some x → B (mk i (S (l.take i))) = some (match R (l.take i) x with | some r => .rt r | none => .nx (mk (i + 1) (S (l.take i ++ [x])))))
  (he : B (mk l.length (S l)) = some (.ex (e (S l)))) (hN : l.length < N) : Zad B N (mk 0 (S [])) = some ((Za5 R [] l).elim (.inl (e (S l))) .inr) := by
 suffices H : ∀ k i N, i + k = l.length → k < N → Zad B N (mk i (S (l.take i))) = some ((Za5 R (l.take i) (l.drop i)).elim (.inl (e (S l))) .inr) by
  have := H l.length 0 N (by omega) hN
  simpa using this
 intro k
 induction k with
 | zero =>
  intro i N hi hN
  obtain ⟨N, rfl⟩ : ∃ m, N = m + 1 := ⟨N - 1, by omega⟩
  have : i = l.length := by omega
  subst this
  rw [Zad, List.take_length, he, List.drop_length]
  rfl
 | succ k ih =>
  intro i N hi hN
  obtain ⟨N, rfl⟩ : ∃ m, N = m + 1 := ⟨N - 1, by omega⟩
  have hlt : i < l.length := by omega
  rw [Zad, hs i l[i] (List.getElem?_eq_getElem hlt), List.drop_eq_getElem_cons hlt, Za5]
  cases R (l.take i) l[i] with
  | some r => rfl
  | none =>
   have := ih (i + 1) N (by omega) (by omega)
   rw [List.take_succ_eq_append_getElem hlt] at this
   exact this
theorem ZfR {R : List α → α → Option ρ} (h : ∀ p x, R p x = none) : ∀ (l p : List α), Za5 R p l = none
 | [], p => rfl
 | x :: l, p => by rw [Za5, h]; exact ZfR h l _
theorem Zbk {B : σ → Option (Lv σ ξ ρ)} {N : Nat} (l : List α) (S : List α → β) (mk : Nat → β → σ) (e : β → ξ)
  (hs : ∀ i x, l[i]? = some x → B (mk i (S (l.take i))) = some (.nx (mk (i + 1) (S (l.take i ++ [x])))))
  (he : B (mk l.length (S l)) = some (.ex (e (S l)))) (hN : l.length < N) : Zad B N (mk 0 (S [])) = some (.inl (e (S l))) := by
 rw [ZbW l S (fun _ _ => none) mk e hs he hN, ZfR fun _ _ => rfl]
 rfl
theorem Ziq {B : σ → Option (Lv σ ξ ρ)} (I : Nat → σ → Prop) (Q : ξ ⊕ ρ → Prop)
  (h : ∀ k v, I k v → ∃ o, B v = some o ∧ match o with | .nx v' => ∃ k', k' < k ∧ I k' v' | .ex b => Q (.inl b) | .rt y => Q (.inr y)) :
  ∀ N k v, k < N → I k v → ∃ o, Zad B N v = some o ∧ Q o
 | 0, k, v, hk, _ => absurd hk (Nat.not_lt_zero _)
 | N + 1, k, v, hk, hI => by
  obtain ⟨o, h1, h2⟩ := h k v hI
  rw [Zad, h1]
  cases o with
  | nx v' => obtain ⟨k', h3, h4⟩ := h2; exact Ziq I Q h N k' v' (by omega) h4
  | ex b => exact ⟨_, rfl, h2⟩
  | rt y => exact ⟨_, rfl, h2⟩
theorem ZiP {l : List α} {i : Nat} {x : α} (h : l[i]? = some x) : (i : Int) < (l.length : Int) := by
 have := (List.getElem?_eq_some_iff.1 h).1
 omega
theorem Zar {n : Nat} (h : n < 4611686018427387904) : n < big := h
end
end Go.Eng
