import Derived.Test.YthagpbkmakocjaaGreatCz18
import Derived.Test.YthagpbkmakocjaaGreatCz12
import Derived.Test.YthagpbkmakocjaaGreatCz00
namespace Go.Proofs.YthagpbkmakocjaaGreat
set_option linter.all false
set_option maxRecDepth 100000
open Go Go.Eng
noncomputable section
abbrev E45 : Scm → AV := fun y => .agg ((Zj4 y).map .d)
section
variable (p0 : Scm) (p1 : List (Bt × Bool))
def ZIU (y2 : List Msg) (y4 : List Enm) (y6 : List Svc) : PT 0 (Scm) := vz (fr y2) <| vz (fr y4) <| vz (fr y6) <| lr E45 (fun _ => []) (.mk y2 y4 y6 : Scm)
def ZCF : PT 0 (Scm) := vw (.fzb 2 [2]) <| vw .sep <| ch tp 46 [vL ZaC p0.messages] [(1, 7)] ([((1, 7), ⟨0, false, 0, 0, []⟩)] ++ []) (Zbh p0.messages) (fun z => .ref (1, 7) 1 0 z.length) (fun z => [((1, 7), u48 z)]) fun y1 => ch tp 84 [.ref (1, 7) 1 0 y1.length, .fn (.func 85) [] [.ptr (1, 3) 0 0]] [(1, 7), (1, 3)] ([((1, 7), u48 y1)] ++ [((1, 3), ⟨0, true, 40, 1, [.d (.map false (p1.map eEt))]⟩)]) (ZbE y1 (fun (z0 : Msg) => Zcy z0 p1)) (fun z => .ref (1, 7) 1 0 z.length) (fun z => [((1, 7), u48 z)]) fun y2 => ch tp 36 [vL Zan p0.enums] [(1, 12)] ([((1, 12), ⟨0, false, 0, 0, []⟩)] ++ []) (Zbd p0.enums) (fun z => .ref (1, 12) 1 0 z.length) (fun z => [((1, 12), u55 z)]) fun y3 => ch tp 86 [.ref (1, 12) 1 0 y3.length, .fn (.func 87) [] [.ptr (1, 3) 0 0]] [(1, 12), (1, 3)] ([((1, 12), u55 y3)] ++ [((1, 3), ⟨0, true, 40, 1, [.d (.map false (p1.map eEt))]⟩)]) (Zck y3 (fun (z0 : Enm) => ZcB z0 p1)) (fun z => .ref (1, 12) 1 0 z.length) (fun z => [((1, 12), u55 z)]) fun y4 => ch tp 58 [vL ZaG p0.services] [(1, 17)] ([((1, 17), ⟨0, false, 0, 0, []⟩)] ++ []) (Zbg p0.services) (fun z => .ref (1, 17) 1 0 z.length) (fun z => [((1, 17), u62 z)]) fun y5 => ch tp 88 [.ref (1, 17) 1 0 y5.length, .fn (.func 89) [] [.ptr (1, 3) 0 0]] [(1, 17), (1, 3)] ([((1, 17), u62 y5)] ++ [((1, 3), ⟨0, true, 40, 1, [.d (.map false (p1.map eEt))]⟩)]) (ZbC y5 (fun (z0 : Svc) => Zcv z0 p1)) (fun z => .ref (1, 17) 1 0 z.length) (fun z => [((1, 17), u62 z)]) fun y6 => vw .go <| vz (fl y2) <| vz (fl y4) <| vz (fl y6) <| lc (mkS [(4, .ptr (1, 4) 0 0)] [((1, 4), ⟨0, true, 26, 3, [.ref (1, 7) 0 0 y2.length, .ref (1, 12) 0 0 y4.length, .ref (1, 17) 0 0 y6.length]⟩), ((1, 7), o48 y2), ((1, 12), o55 y4), ((1, 17), o62 y6)]) ((ZIU y2 y4 y6).m)
def ZKA : PT 0 (Scm) := lc (mkS [(2, .ptr (1, 2) 0 0), (3, .ptr (1, 3) 0 0), (4, .ptr (1, 4) 0 0)] [((1, 2), ⟨0, true, 26, 3, [vL ZaC p0.messages, vL Zan p0.enums, vL ZaG p0.services]⟩), ((1, 3), ⟨0, true, 40, 1, [.d (.map false (p1.map eEt))]⟩), ((1, 4), ⟨0, true, 26, 3, [.e0, .e0, .e0]⟩)]) ((ZCF p0 p1).m)
def ZdM (p0 : Scm) (p1 : List (Bt × Bool)) : Option (Scm) := (ZKA p0 p1).m
end
theorem ZPm (p0 : Scm) (p1 : List (Bt × Bool)) : KC tp 45 [.agg ((Zj4 p0).map .d), .d (.map false (p1.map eEt))] (ZdM p0 p1) E45 := kc1 Tryz.func45 Tryz.ntmps45 tok [.cell 4 26] fun C co y m Post L => mK co 1 (lf2 [2, 3, 4] [((1, 2), false), ((1, 3), false), ((1, 4), false)]) m L fun r g _ m L => sq (ZJ6 co tok tmo (.fst 0 (.fst 1 (.fst 3 (.fst 5 (.fst 6 (.fst 8 (.fst 10 (.fst 11 (.fst 13 (.fst 2 (.fst 4 (.fst 7 (.fst 9 (.fst 12 (.fst 14 (.fst 15 (.fst 16 .nil))))))))))))))))) [2] (ZCF p0 p1) (lf2 [4] [((1, 4), false), ((1, 7), true), ((1, 12), true), ((1, 17), true)]) m L fun r g => ⟨fun z hz => Zei (ZOj p0.messages) hz co g [((1, 7), ⟨0, false, 0, 0, []⟩)] [] [((1, 7), u48 z)] (lkS []) (fun H' hg ho => trivial) (fun H => ⟨(fun h => by cases h), by kernel_rfl, trivial⟩) (fun H => ⟨fun _ => ⟨rfl, bz⟩, by kernel_rfl, trivial⟩), fun z => trivial, fun y1 => ⟨fun z hz => Zei (ZPB y1 (fun (z0 : Msg) => Zcy z0 p1)) hz co g [((1, 7), u48 y1)] [((1, 3), ⟨0, true, 40, 1, [.d (.map false (p1.map eEt))]⟩)] [((1, 7), u48 z)] (lkS [(1, .fn (.func 85) [] [.ptr (r.κ (1, 3)) (r.γ (1, 3) + 0) 0])]) (fun H' hg ho => (fun z0 y hz => Ze5 (ZQz z0 p1) hz co g [((1, 3), ⟨0, true, 40, 1, [.d (.map false (p1.map eEt))]⟩)] [((1, 7), u48 y1)] hg (by simp) (fun _ => .top) (fun _ _ => trivial) (fun l H => ⟨fun _ => ⟨rfl, by kernel_rfl⟩, by kernel_rfl, trivial⟩))) (fun H => ⟨fun _ => ⟨rfl, bz⟩, by kernel_rfl, trivial⟩) (fun H => ⟨fun _ => ⟨rfl, bz⟩, by kernel_rfl, trivial⟩), fun z => trivial, fun y2 => ⟨fun z hz => Zei (ZNv p0.enums) hz co g [((1, 12), ⟨0, false, 0, 0, []⟩)] [] [((1, 12), u55 z)] (lkS []) (fun H' hg ho => trivial) (fun H => ⟨(fun h => by cases h), by kernel_rfl, trivial⟩) (fun H => ⟨fun _ => ⟨rfl, bz⟩, by kernel_rfl, trivial⟩), fun z => trivial, fun y3 => ⟨fun z hz => Zei (ZRo y3 (fun (z0 : Enm) => ZcB z0 p1)) hz co g [((1, 12), u55 y3)] [((1, 3), ⟨0, true, 40, 1, [.d (.map false (p1.map eEt))]⟩)] [((1, 12), u55 z)] (lkS [(1, .fn (.func 87) [] [.ptr (r.κ (1, 3)) (r.γ (1, 3) + 0) 0])]) (fun H' hg ho => (fun z0 y hz => Ze5 (ZPC z0 p1) hz co g [((1, 3), ⟨0, true, 40, 1, [.d (.map false (p1.map eEt))]⟩)] [((1, 12), u55 y3)] hg (by simp) (fun _ => .top) (fun _ _ => trivial) (fun l H => ⟨fun _ => ⟨rfl, by kernel_rfl⟩, by kernel_rfl, trivial⟩))) (fun H => ⟨fun _ => ⟨rfl, bz⟩, by kernel_rfl, trivial⟩) (fun H => ⟨fun _ => ⟨rfl, bz⟩, by kernel_rfl, trivial⟩), fun z => trivial, fun y4 => ⟨fun z hz => Zei (ZOx p0.services) hz co g [((1, 17), ⟨0, false, 0, 0, []⟩)] [] [((1, 17), u62 z)] (lkS []) (fun H' hg ho => trivial) (fun H => ⟨(fun h => by cases h), by kernel_rfl, trivial⟩) (fun H => ⟨fun _ => ⟨rfl, bz⟩, by kernel_rfl, trivial⟩), fun z => trivial, fun y5 => ⟨fun z hz => Zei (ZQN y5 (fun (z0 : Svc) => Zcv z0 p1)) hz co g [((1, 17), u62 y5)] [((1, 3), ⟨0, true, 40, 1, [.d (.map false (p1.map eEt))]⟩)] [((1, 17), u62 z)] (lkS [(1, .fn (.func 89) [] [.ptr (r.κ (1, 3)) (r.γ (1, 3) + 0) 0])]) (fun H' hg ho => (fun z0 y hz => Ze5 (ZPx z0 p1) hz co g [((1, 3), ⟨0, true, 40, 1, [.d (.map false (p1.map eEt))]⟩)] [((1, 17), u62 y5)] hg (by simp) (fun _ => .top) (fun _ _ => trivial) (fun l H => ⟨fun _ => ⟨rfl, by kernel_rfl⟩, by kernel_rfl, trivial⟩))) (fun H => ⟨fun _ => ⟨rfl, bz⟩, by kernel_rfl, trivial⟩) (fun H => ⟨fun _ => ⟨rfl, bz⟩, by kernel_rfl, trivial⟩), fun z => trivial, fun y6 _ m L => fO co m L⟩⟩⟩⟩⟩⟩)
section
variable {C : Cx} (co : CO C 0) (p0 : Scm) (p1 : List Bt) (y1 : List (Bt × Bool)) (r8 : List Bt) (r9 : List (Bt × Bool)) (e13 : Bt) (y6 : List (Bt × Bool)) (y7 : List Bt)
abbrev ZmK := PT 0 (Lv (List Bt × List (Bt × Bool)) (List (Bt × Bool)) (Scm × Int))
abbrev ZjE := PT 0 (Scm × Int)
abbrev Zxs : Blk := ⟨0, true, 26, 3, [vL ZaC p0.messages, vL Zan p0.enums, vL ZaG p0.services]⟩
abbrev ZkL : Blk := ⟨0, true, 26, 3, [.e0, .e0, .e0]⟩
abbrev ZxI : List (Key × Blk) := [((1, 4), ZkL), ((1, 26), ⟨0, true, .m false (r9.map eEt), 0, []⟩), ((1, 28), o9 r8)]
abbrev Zl9 : List (Key × Bool) := [((1, 4), false), ((1, 26), false), ((1, 28), true)]
abbrev Zxe : List (Nat × AV) := [(2, .iptr (Zj4 p0) 0), (4, .ptr (1, 4) 0 0), (9, .mp (1, 26) 0), (10, .ref (1, 28) 0 0 r8.length)]
abbrev ZvZ : List (Key × Blk) := [((1, 2), (Zxs p0)), ((1, 4), ZkL)]
abbrev ZAN : Blk := ⟨0, true, .m false (y6.map eEt), 0, []⟩
abbrev ZwD (t : List (Nat × AV)) : List (Nat × AV) := (1, vL Zal p1) :: (2, .ptr (1, 2) 0 0) :: (4, .ptr (1, 4) 0 0) :: t
def ZCJ : Nat → St := fun v2 => mkS (ZwD p1 [(6, .d (.map false (y1.map eEt))), (13, vL Zal p1), (14, vN p1.length), (15, vN v2)]) (ZvZ p0)
def ZKQ : Unit → Nat × St := fun _ => (0, mkS [(1, vL Zal p1), (2, .ptr (1, 2) 0 0), (4, .ptr (1, 4) 0 0)] (ZvZ p0))
def ZAz (v2 : Nat) : PT 0 (Lv (Nat) (Unit) (Scm × Int)) := br (decide ((v2 : Int) < (p1.length : Int))) (ix p1 v2 fun e3 => mlk y1 e3 fun m4 b5 => br (!m4) (vw .go <| lrt E5 (fun _ => []) ((.mk [] [] [] : Scm), 10)) (vs (wa v2 1) <| ln (ZCJ p0 p1 y1) (v2 + 1))) (lxe (ZKQ p0 p1) ())
def ZtH := fun (v2 : Nat) => (ZAz p0 p1 y1 v2).m
def Zvs : List Bt × List (Bt × Bool) → St := fun (r8, r9) => mkS (Zxe p0 r8) (ZxI r8 r9)
def ZI5 : List (Bt × Bool) → Nat × St := fun r16 => (2, mkS [(2, .iptr (Zj4 p0) 0), (4, .ptr (1, 4) 0 0), (9, .mp (1, 26) 0)] [((1, 4), ZkL), ((1, 26), ⟨0, true, .m false (r16.map eEt), 0, []⟩)])
def ZH7 (y15 : List Bt) : ZmK := sR (r8 ++ y15).length 0 (.nt 1) .no <| rb 10 28 ((r8 ++ y15).length - 1) (r8 ++ y15) (0 + 1) <| vz (fl ((r8 ++ y15).drop (0 + 1))) <| ln (Zvs p0) ((r8 ++ y15).drop (0 + 1), Zgs e13 r9)
def ZES : ZmK := vs (ir 0 r8.length 1) <| ca r8 0 fun e14 => cl (ZQa p0 e14) fun y15 => aq r8 y15 <| vz (fl (r8 ++ y15)) <| lc (mkS [(2, .iptr (Zj4 p0) 0), (4, .ptr (1, 4) 0 0), (9, .mp (1, 26) 0), (10, .ref (1, 28) 0 0 (r8 ++ y15).length)] [((1, 4), ZkL), ((1, 26), ⟨0, true, .m false ((Zgs e13 r9).map eEt), 0, []⟩), ((1, 28), o9 (r8 ++ y15))]) ((ZH7 p0 r8 r9 e13 y15).m)
def ZGh : ZmK := vs (ir 0 r8.length 1) <| ca r8 0 fun e13 => mdl r9 e13 <| vz (fl r8) <| lc (mkS (Zxe p0 r8) [((1, 4), ZkL), ((1, 26), ⟨0, true, .m false ((Zgs e13 r9).map eEt), 0, []⟩), ((1, 28), o9 r8)]) ((ZES p0 r8 r9 e13).m)
def ZGR : ZmK := sR r8.length 0 (.nt 1) .no <| rb 10 28 (r8.length - 1) r8 (0 + 1) <| vz (fl (r8.drop (0 + 1))) <| ln (Zvs p0) (r8.drop (0 + 1), r9)
def ZJE : ZmK := vz (fl r8) <| lc (mkS (Zxe p0 r8) (ZxI r8 r9)) ((ZGR p0 r8 r9).m)
def ZEr : ZmK := vs (ir 0 r8.length 1) <| ca r8 0 fun e10 => mlk r9 e10 fun m11 b12 => vz (fl r8) <| lc (mkS [(2, .iptr (Zj4 p0) 0), (4, .ptr (1, 4) 0 0), (9, .mp (1, 26) 0), (10, .ref (1, 28) 0 0 r8.length), (38, vB m11)] (ZxI r8 r9)) (if m11 = true then (ZGh p0 r8 r9).m else (ZJE p0 r8 r9).m)
def Zxh : ZmK := vz (eqN r8.length) <| br (decide ((0 : Int) < (r8.length : Int))) (vz (fl r8) <| lc (mkS (Zxe p0 r8) (ZxI r8 r9)) ((ZEr p0 r8 r9).m)) (lxe (ZI5 p0) r9)
def Zlz := fun ((r8, r9) : List Bt × List (Bt × Bool)) => (Zxh p0 r8 r9).m
def ZAI (r16 : List (Bt × Bool)) : ZjE := vw (.fzm 26 [9]) <| vw .sep <| cl (ZPm p0 r16) fun y17 => vw .go <| lr E5 (fun _ => []) (y17, 0)
def ZqU : ZjE := vw (.fzb 2 [2]) <| vz (fl y7) <| lc (Zvs p0 (y7, y6)) ((Zaa (Zlz p0) big (y7, y6)).bind (Sum.elim (fun r16 => (ZAI p0 r16).m) some))
def Zs8 : ZjE := vz (fl y7) <| lc (mkS [(2, .ptr (1, 2) 0 0), (4, .ptr (1, 4) 0 0), (9, .mp (1, 26) 0), (10, .ref (1, 28) 0 0 y7.length)] [((1, 2), (Zxs p0)), ((1, 4), ZkL), ((1, 26), (ZAN y6)), ((1, 28), o9 y7)]) ((ZqU p0 y6 y7).m)
def ZsJ : ZjE := lc (mkS [(2, .ptr (1, 2) 0 0), (4, .ptr (1, 4) 0 0), (9, .mp (1, 26) 0), (27, vL Zal p1)] [((1, 2), (Zxs p0)), ((1, 4), ZkL), ((1, 26), (ZAN y6))]) ((Zc1 p1).bind fun y7 => (Zs8 p0 y6 y7).m)
def Zuq : ZjE := lc (mkS (ZwD p1 [(9, .mp (1, 26) 0)]) [((1, 2), (Zxs p0)), ((1, 4), ZkL), ((1, 26), (ZAN y6))]) ((ZsJ p0 p1 y6).m)
def ZuB : ZjE := vw .go <| lc (mkS (ZwD p1 [(25, .agg ((Zj4 p0).map .d))]) (ZvZ p0)) ((Zed p0).bind fun y6 => (Zuq p0 p1 y6).m)
def ZsE : ZjE := vz (eqL p1) <| lc (ZCJ p0 p1 y1 0) ((Zaa (ZtH p0 p1 y1) big 0).bind (Sum.elim (fun _ => (ZuB p0 p1).m) some))
def Zrt : ZjE := vw .go <| cl (ZNW p0) fun y1 => lc (mkS (ZwD p1 [(6, .d (.map false (y1.map eEt)))]) (ZvZ p0)) ((ZsE p0 p1 y1).m)
def Zfg (p0 : Scm) (p1 : List Bt) : Option (Scm × Int) := (Zrt p0 p1).m
section
include co
theorem ZFk : Kl 53 C (pa [0, 0, 1, 0, 1, 1] (Zac Tryz.f11)) [.cell 4 26, .tmp 5] 0 (ZCJ p0 p1 y1) (ZKQ p0 p1) E5 (fun _ => []) (ZtH p0 p1 y1) := fun v2 _ m Q Post hQ L => eN co (lf2 [1, 2, 4, 6, 13, 14, 15] [((1, 2), false), ((1, 4), false)]) (lf2 [1, 2, 4] [((1, 2), false), ((1, 4), false)]) hQ m L
theorem ZBj : Kl 53 C (pa [0, 0, 1, 0, 1, 1, 1, 1] (Zac Tryz.f11)) [.cell 4 26, .tmp 5] 0 (Zvs p0) (ZI5 p0) E5 (fun _ => []) (Zlz p0) := fun (r8, r9) _ m Q Post hQ L => mJ co 1 (lf2 [2, 4, 9, 10] Zl9) (lf2 [2, 4, 9] [((1, 4), false), ((1, 26), false)]) hQ m L fun r g => ⟨fun _ m L => sq (bk 3 (mJ co 1 (lf2 [2, 4, 9, 10, 38] Zl9) nl hQ m L fun r g e10 m11 b12 _ m L => cD m (fun m => mJ co 1 (lf2 [2, 4, 9, 10] Zl9) nl hQ m L fun r g e13 _ m L => ZJ6 co tok tmo (.fst 0 (.fst 1 (.fst 2 (.fst 3 (.fst 4 (.fst 5 (.fst 6 (.fst 7 .nil)))))))) [2] (ZES p0 r8 r9 e13) (lf2 [2, 4, 9, 10] Zl9) m L fun r g e14 y15 _ m L => eN co (lf2 [2, 4, 9, 10] Zl9) nl hQ m L) (fun m => eN co (lf2 [2, 4, 9, 10] Zl9) nl hQ m L fun r g _ m L => eN co (lf2 [2, 4, 9, 10] Zl9) nl hQ m L))), id⟩
end
end
theorem ZL5 (p0 : Scm) (p1 : List Bt) : KC tp 11 [.agg ((Zj4 p0).map .d), vL Zal p1] (Zfg p0 p1) E5 := kC Tryz.func11 Tryz.ntmps11 [.cell 4 26, .tmp 5] fun co m L => mK co 2 (lf2 [1, 2, 4, 6] [((1, 2), false), ((1, 4), false)]) m L fun r g y1 _ m L => sq (mK co 1 (lf2 [1, 2, 4, 6, 13, 14, 15] [((1, 2), false), ((1, 4), false)]) m L fun r g _ m L => bk 0 (lo (lpF (ZFk co p0 p1 y1) ii m L (fun _ m => sq (rg (pR co 1 (lf2 [1, 2, 4, 25] [((1, 2), false), ((1, 4), false)]) m L fun r g _ m L => c6 co m (ZNb p0) [((1, 26), ⟨0, false, 0, 0, []⟩)] [] (fun z => .mp (1, 26) 1) (fun z => [((1, 26), ⟨1, true, .m false (z.map eEt), 0, []⟩)]) [] fun y6 m => eR co (lf2 [1, 2, 4, 9] [((1, 2), false), ((1, 4), false), ((1, 26), false)]) m L fun r g _ m L => sq (sq (rg (pR co 1 (lf2 [2, 4, 9, 27] [((1, 2), false), ((1, 4), false), ((1, 26), false)]) m L fun r g _ m L => c6 co m (ZPX p1) [((1, 28), ⟨0, false, 0, 0, []⟩)] [] (fun z => .ref (1, 28) 1 0 z.length) (fun z => [((1, 28), u9 z)]) [] fun y7 m => eR co (lf2 [2, 4, 9, 10] [((1, 2), false), ((1, 4), false), ((1, 26), false), ((1, 28), true)]) m L fun r g _ m L => bk 2 (cM co (lf2 [2, 4, 9, 10] [((1, 4), false), ((1, 26), false), ((1, 28), true)]) m L fun r g _ m L => lo (lpF (ZBj co p0) ii m L (fun r16 m => fO co m L))))))))))))
section
variable {C : Cx} (co : CO C 0) (p1 p2 : List By) (y1 : Scm × Bt × Int) (y2 r10 r11 : List Bt)
abbrev ZFG : Blk := ⟨0, true, 26, 3, [vL ZaC y1.1.messages, vL Zan y1.1.enums, vL ZaG y1.1.services]⟩
abbrev ZOC : List (Key × Blk) := [((1, 7), (ZFG y1)), ((1, 11), o9 r10), ((1, 13), o9 r11)]
abbrev ZPh : List (Key × Bool) := [((1, 7), false), ((1, 11), true), ((1, 12), true), ((1, 13), true)]
def ZMz : List Bt × List Bt × Nat → St := fun (r4, r5, v6) => mkS [(2, vL eBy p2), (7, .ptr (1, 7) 0 0), (10, vL Zal y2), (11, .ref (1, 11) 0 0 r4.length), (12, .e0), (13, .ref (1, 13) 0 0 r5.length), (42, vL eBy p1), (43, vN p1.length), (44, vN v6)] [((1, 7), (ZFG y1)), ((1, 11), o9 r4), ((1, 13), o9 r5)]
def ZOT : List Bt × List Bt → Nat × St := fun (r10, r11) => (0, mkS [(2, vL eBy p2), (7, .ptr (1, 7) 0 0), (10, vL Zal y2), (11, .ref (1, 11) 0 0 r10.length), (12, .e0), (13, .ref (1, 13) 0 0 r11.length)] (ZOC y1 r10 r11))
def ZMO (r4 : List Bt) (r5 : List Bt) (v6 : Nat) : PT 0 (Lv (List Bt × List Bt × Nat) (List Bt × List Bt) (Bool)) := br (decide ((v6 : Int) < (p1.length : Int))) (ix p1 v6 fun e7 => vz (wk .i64 e7.v) <| vz (eqL y2) <| rem .i64 (IntKind.i64.wrap e7.v) (y2.length : Int) <| ixi y2 (ZFo .i64 (IntKind.i64.wrap e7.v) (y2.length : Int)) fun e8 => vw .sep <| ap r4 (e8 : Bt) <| vz (wk .i64 e7.v) <| vz (eqL y2) <| rem .i64 (IntKind.i64.wrap e7.v) (y2.length : Int) <| ixi y2 (ZFo .i64 (IntKind.i64.wrap e7.v) (y2.length : Int)) fun e9 => vw .sep <| ap r5 (e9 : Bt) <| vs (wa v6 1) <| vz (fl (r4 ++ [e8])) <| vz (fl (r5 ++ [e9])) <| ln (ZMz p1 p2 y1 y2) (r4 ++ [e8], r5 ++ [e9], v6 + 1)) (vz (fl r4) <| vz (fl r5) <| lxe (ZOT p2 y1 y2) (r4, r5))
def ZFE := fun ((r4, r5, v6) : List Bt × List Bt × Nat) => (ZMO p1 p2 y1 y2 r4 r5 v6).m
def ZL8 : List Bt × List Bt × Nat → St := fun (r12, r13, v14) => mkS [(7, .ptr (1, 7) 0 0), (10, vL Zal y2), (11, .ref (1, 11) 0 0 r10.length), (12, .ref (1, 12) 0 0 r12.length), (13, .ref (1, 13) 0 0 r13.length), (71, vL eBy p2), (72, vN p2.length), (73, vN v14)] [((1, 7), (ZFG y1)), ((1, 11), o9 r10), ((1, 12), o9 r12), ((1, 13), o9 r13)]
def ZO8 : List Bt × List Bt → Nat × St := fun (r18, r19) => (2, mkS [(7, .ptr (1, 7) 0 0), (11, .ref (1, 11) 0 0 r10.length), (12, .ref (1, 12) 0 0 r18.length), (13, .ref (1, 13) 0 0 r19.length)] [((1, 7), (ZFG y1)), ((1, 11), o9 r10), ((1, 12), o9 r18), ((1, 13), o9 r19)])
def ZMU (r12 : List Bt) (r13 : List Bt) (v14 : Nat) : PT 0 (Lv (List Bt × List Bt × Nat) (List Bt × List Bt) (Bool)) := br (decide ((v14 : Int) < (p2.length : Int))) (ix p2 v14 fun e15 => vz (wk .i64 e15.v) <| vz (eqL y2) <| rem .i64 (IntKind.i64.wrap e15.v) (y2.length : Int) <| ixi y2 (ZFo .i64 (IntKind.i64.wrap e15.v) (y2.length : Int)) fun e16 => vw .sep <| ap r12 (e16 : Bt) <| vz (wk .i64 e15.v) <| vz (eqL y2) <| rem .i64 (IntKind.i64.wrap e15.v) (y2.length : Int) <| ixi y2 (ZFo .i64 (IntKind.i64.wrap e15.v) (y2.length : Int)) fun e17 => vw .sep <| ap r13 (e17 : Bt) <| vs (wa v14 1) <| vz (fl r10) <| vz (fl (r12 ++ [e16])) <| vz (fl (r13 ++ [e17])) <| ln (ZL8 p2 y1 y2 r10) (r12 ++ [e16], r13 ++ [e17], v14 + 1)) (vz (fl r10) <| vz (fl r12) <| vz (fl r13) <| lxe (ZO8 y1 r10) (r12, r13))
def ZFD := fun ((r12, r13, v14) : List Bt × List Bt × Nat) => (ZMU p2 y1 y2 r10 r12 r13 v14).m
def ZPb (r18 : List Bt) (r19 : List Bt) : PT 0 (Bool) := vw (.frz 11 [(11, (r10.map Zal))] []) <| vz (fz r10) <| vw .sep <| vw .go <| cl (ZL5 y1.1 r10) fun y20 => vw .go <| vw (.frz 12 [(12, (r18.map Zal))] []) <| vz (fz r18) <| vw .sep <| vw .go <| cl (ZL5 y1.1 r18) fun y21 => vw .go <| vw (.frz 13 [(13, (r19.map Zal))] []) <| vz (fz r19) <| vw .sep <| vw .go <| cl (ZL5 y1.1 r19) fun y22 => vw .go <| vw .go <| vw .go <| cl (K_5 y20.1 y21.1) fun y23 => vw .go <| vw .go <| vw .go <| clg (((decide (y20.2 = (0 : Int)) && decide (y21.2 = (0 : Int))) && decide (y22.2 = (0 : Int))) && decide (y23.2 = (0 : Int))) (K_7 y23.1 y22.1) fun y24 => clg ((((decide (y20.2 = (0 : Int)) && decide (y21.2 = (0 : Int))) && decide (y22.2 = (0 : Int))) && decide (y23.2 = (0 : Int))) && y24) (K_8) fun y25 => lr E49 (fun _ => []) (((((decide (y20.2 = (0 : Int)) && decide (y21.2 = (0 : Int))) && decide (y22.2 = (0 : Int))) && decide (y23.2 = (0 : Int))) && y24) && y25)
def ZO7 : PT 0 (Bool) := vw (.ads 12 12 9 1) <| vz (fl r10) <| vz (fl ([] : List Bt)) <| vz (fl r11) <| lc (ZL8 p2 y1 y2 r10 (([] : List Bt), r11, 0)) ((Zaa (ZFD p2 y1 y2 r10) big (([] : List Bt), r11, 0)).bind (Sum.elim (fun (r18, r19) => (ZPb y1 r10 r18 r19).m) some))
def ZN9 : PT 0 (Bool) := vz (eqL p2) <| vz (fl r10) <| vz (fl r11) <| lc (mkS [(7, .ptr (1, 7) 0 0), (10, vL Zal y2), (11, .ref (1, 11) 0 0 r10.length), (12, .e0), (13, .ref (1, 13) 0 0 r11.length), (71, vL eBy p2), (72, vN p2.length), (73, vI 0)] (ZOC y1 r10 r11)) ((ZO7 p2 y1 y2 r10 r11).m)
def ZOY : PT 0 (Bool) := vw (.ads 11 11 9 1) <| vw (.ads 13 13 9 1) <| vz (fl ([] : List Bt)) <| vz (fl ([] : List Bt)) <| lc (ZMz p1 p2 y1 y2 (([] : List Bt), ([] : List Bt), 0)) ((Zaa (ZFE p1 p2 y1 y2) big (([] : List Bt), ([] : List Bt), 0)).bind (Sum.elim (fun (r10, r11) => (ZN9 p2 y1 y2 r10 r11).m) some))
def ZOL : PT 0 (Bool) := vz (eqL p1) <| lc (mkS [(2, vL eBy p2), (7, .ptr (1, 7) 0 0), (10, vL Zal y2), (11, .e0), (12, .e0), (13, .e0), (42, vL eBy p1), (43, vN p1.length), (44, vI 0)] [((1, 7), (ZFG y1))]) ((ZOY p1 p2 y1 y2).m)
def ZOu (p0 : List Fil) : PT 0 (Bool) := cl (K_9 p0) fun y1 => vw .go <| cl (ZPw p0) fun y2 => vy (!(!decide (y1.2.2 = (0 : Int)))) (eqL y2) <| br ((!decide (y1.2.2 = (0 : Int))) || decide ((y2.length : Int) = (0 : Int))) (cl (K_8) fun y3 => lr E49 (fun _ => []) y3) (lc (mkS [(1, vL eBy p1), (2, vL eBy p2), (7, .ptr (1, 7) 0 0), (10, vL Zal y2), (11, .e0), (12, .e0), (13, .e0)] [((1, 7), (ZFG y1))]) ((ZOL p1 p2 y1 y2).m))
def Zbi (p0 : List Fil) (p1 : List By) (p2 : List By) : Option (Bool) := (ZOu p1 p2 p0).m
section
include co
theorem ZKL : Kl 146 C (pa [0, 0, 1, 0, 1, 1, 1, 1, 1] (Zac Tryz.f4)) [.tmp 6] 0 (ZMz p1 p2 y1 y2) (ZOT p2 y1 y2) E49 (fun _ => []) (ZFE p1 p2 y1 y2) := fun (r4, r5, v6) _ m Q Post hQ L => eN co (lf2 [2, 7, 10, 11, 12, 13, 42, 43, 44] [((1, 7), false), ((1, 11), true), ((1, 13), true)]) (lf2 [2, 7, 10, 11, 12, 13] [((1, 7), false), ((1, 11), true), ((1, 13), true)]) hQ m L
theorem ZIm : Kl 146 C (pa [0, 0, 1, 0, 1, 1, 1, 1, 1, 1] (Zac Tryz.f4)) [.tmp 6] 0 (ZL8 p2 y1 y2 r10) (ZO8 y1 r10) E49 (fun _ => []) (ZFD p2 y1 y2 r10) := fun (r12, r13, v14) _ m Q Post hQ L => eN co (lf2 [7, 10, 11, 12, 13, 71, 72, 73] ZPh) (lf2 [7, 11, 12, 13] ZPh) hQ m L
end
end
theorem K_4 (p0 : List Fil) (p1 : List By) (p2 : List By) : KC tp 4 [vL Zat p0, vL eBy p1, vL eBy p2] (Zbi p0 p1 p2) E49 := kC Tryz.func4 Tryz.ntmps4 [.tmp 6] fun co m L => mK co 5 (lf2 [1, 2, 7, 10, 11, 12, 13] [((1, 7), false)]) m L fun r g y1 y2 => ⟨fun y3 => id, fun _ m L => sq (mK co 1 (lf2 [2, 7, 10, 11, 12, 13, 42, 43, 44] [((1, 7), false)]) m L fun r g _ m L => bk 0 (cM co (lf2 [2, 7, 10, 11, 12, 13, 42, 43, 44] [((1, 7), false), ((1, 11), true), ((1, 13), true)]) m L fun r g _ m L => lo (lpF (ZKL co p1 p2 y1 y2) ii m L (fun (r10, r11) m => sq (mK co 1 (lf2 [7, 10, 11, 12, 13, 71, 72, 73] [((1, 7), false), ((1, 11), true), ((1, 13), true)]) m L fun r g _ m L => bk 2 (cM co (lf2 [7, 10, 11, 12, 13, 71, 72, 73] [((1, 7), false), ((1, 11), true), ((1, 12), true), ((1, 13), true)]) m L fun r g _ m L => lo (lpF (ZIm co p2 y1 y2 r10) ii m L (fun (r18, r19) m => fO co m L))))))))⟩
end
end Go.Proofs.YthagpbkmakocjaaGreat
namespace Go.Eng
set_option linter.all false
open Go Go.RowKit
section
variable {σ ξ ρ α β γ : Type}
def Ze0 (g : β → α → β ⊕ ρ) : β → List α → β ⊕ ρ
 | b, [] => .inl b
 | b, x :: l => match g b x with
  | .inl b' => Ze0 g b' l
  | .inr r => .inr r
theorem ZjA {B : σ → Option (Lv σ ξ ρ)} {N : Nat} (l : List α) (mk : Nat → β → σ) (I : Nat → β → Prop) (g : β → α → β ⊕ ρ) (e : β → ξ)
  (hs : ∀ i b x, l[i]? = some x → I i b → B (mk i b) = some (Sum.elim (fun b' => Lv.nx (mk (i + 1) b')) Lv.rt (g b x)) ∧ ∀ b', g b x = .inl b' → I (i + 1) b')
  (he : ∀ b, I l.length b → B (mk l.length b) = some (.ex (e b))) (b0 : β) (h0 : I 0 b0) (hN : l.length < N) : Zaa B N (mk 0 b0) = some (Sum.map e id (Ze0 g b0 l)) := by
 suffices H : ∀ k i b N, i + k = l.length → I i b → k < N → Zaa B N (mk i b) = some (Sum.map e id (Ze0 g b (l.drop i))) by
  have := H l.length 0 b0 N (by omega) h0 hN
  simpa using this
 intro k
 induction k with
 | zero =>
  intro i b N hi hI hN
  obtain ⟨N, rfl⟩ : ∃ m, N = m + 1 := ⟨N - 1, by omega⟩
  have : i = l.length := by omega
  subst this
  rw [Zaa, he b hI, Ya2]
  rfl
 | succ k ih =>
  intro i b N hi hI hN
  obtain ⟨N, rfl⟩ : ∃ m, N = m + 1 := ⟨N - 1, by omega⟩
  have hlt : i < l.length := by omega
  obtain ⟨h1, h2⟩ := hs i b l[i] (Yc hlt) hI
  rw [Zaa, h1, Yae hlt, Ze0]
  cases hg : g b l[i] with
  | inl b' => exact ih (i + 1) b' N (by omega) (h2 b' hg) (by omega)
  | inr r => rfl
theorem Za8 {B : Nat → Option (Lv Nat ξ ρ)} {N : Nat} (l : List α) (p : α → Bool) (f : Nat → ρ) (e : ξ)
  (hs : ∀ i x, l[i]? = some x → B i = some (if p x = true then .rt (f i) else .nx (i + 1))) (he : B l.length = some (.ex e)) (hN : l.length < N) :
  Zaa B N 0 = some (match l.findIdx? p with | some i => .inr (f i) | none => .inl e) := by
 suffices H : ∀ k i N, i + k = l.length → k < N → Zaa B N i = some (match (l.drop i).findIdx? p with | some j => .inr (f (i + j)) | none => .inl e) by
  have := H l.length 0 N (by omega) hN
  simpa using this
 intro k
 induction k with
 | zero =>
  intro i N hi hN
  obtain ⟨N, rfl⟩ : ∃ m, N = m + 1 := ⟨N - 1, by omega⟩
  have : i = l.length := by omega
  subst this
  rw [Zaa, he, Ya2]
  rfl
 | succ k ih =>
  intro i N hi hN
  obtain ⟨N, rfl⟩ : ∃ m, N = m + 1 := ⟨N - 1, by omega⟩
  have hlt : i < l.length := by omega
  rw [Zaa, hs i l[i] (Yc hlt), Yae hlt, List.findIdx?_cons]
  cases hp : p l[i] with
  | true => simp
  | false =>
   simp only [Yf, if_false]
   rw [ih (i + 1) N (by omega) (by omega)]
   cases (List.drop (i + 1) l).findIdx? p with
   | none => rfl
   | some j => simp [YD, YbK 1 j]
theorem ZjF {g : β → α → β ⊕ ρ} (h : β → α → β) (hg : ∀ b x, g b x = .inl (h b x)) : ∀ (l : List α) (b : β), Ze0 g b l = .inl (l.foldl h b)
 | [], b => rfl
 | x :: l, b => by rw [Ze0, hg]; exact ZjF h hg l _
theorem ZhX (f : α → γ) : ∀ (l : List α) (b : List γ), l.foldl (fun b x => b ++ [f x]) b = b ++ l.map f
 | [], b => by simp
 | x :: l, b => by rw [Ya6, ZhX f l]; simp
theorem ZiE {B : List γ × Nat → Option (Lv (List γ × Nat) (List γ) ρ)} {N : Nat} (l : List α) (f : α → γ) (b0 : List γ)
  (hs : ∀ i b x, l[i]? = some x → b.length = b0.length + i → B (b, i) = some (.nx (b ++ [f x], i + 1))) (he : ∀ b, B (b, l.length) = some (.ex b)) (hN : l.length < N) :
  Zaa B N (b0, 0) = some (.inl (b0 ++ l.map f)) := by
 have := ZjA (B := B) (N := N) l (fun i b => (b, i)) (fun i b => b.length = b0.length + i) (fun b x => (.inl (b ++ [f x]) : List γ ⊕ ρ)) id (fun i b x hx hb => ⟨hs i b x hx hb, fun b' e => by cases e; rw [Yi, hb]; rfl⟩) (fun b _ => he b) b0 rfl hN
 rw [this, ZjF (fun b x => b ++ [f x]) (fun _ _ => rfl), ZhX]
 rfl
def ZaM (R : List α → α → Option ρ) : List α → List α → Option ρ
 | _, [] => none
 | p, x :: l => match R p x with
  | some r => some r
  | none => ZaM R (p ++ [x]) l
theorem ZbU {B : σ → Option (Lv σ ξ ρ)} {N : Nat} (l : List α) (S : List α → β) (R : List α → α → Option ρ) (mk : Nat → β → σ) (e : β → ξ)
  (hs : ∀ i x, l[i]? = some x → B (mk i (S (l.take i))) = some (match R (l.take i) x with | some r => .rt r | none => .nx (mk (i + 1) (S (l.take i ++ [x])))))
  (he : B (mk l.length (S l)) = some (.ex (e (S l)))) (hN : l.length < N) : Zaa B N (mk 0 (S [])) = some ((ZaM R [] l).elim (.inl (e (S l))) .inr) := by
 suffices H : ∀ k i N, i + k = l.length → k < N → Zaa B N (mk i (S (l.take i))) = some ((ZaM R (l.take i) (l.drop i)).elim (.inl (e (S l))) .inr) by
  have := H l.length 0 N (by omega) hN
  grind
 intro k
 induction k with
 | zero =>
  intro i N hi hN
  obtain ⟨N, rfl⟩ : ∃ m, N = m + 1 := ⟨N - 1, by omega⟩
  have : i = l.length := by omega
  subst this
  rw [Zaa, Ya1, he, Ya2]
  rfl
 | succ k ih =>
  intro i N hi hN
  obtain ⟨N, rfl⟩ : ∃ m, N = m + 1 := ⟨N - 1, by omega⟩
  have hlt : i < l.length := by omega
  rw [Zaa, hs i l[i] (Yc hlt), Yae hlt, ZaM]
  cases R (l.take i) l[i] with
  | some r => rfl
  | none =>
   have := ih (i + 1) N (by omega) (by omega)
   rw [YZ hlt] at this
   exact this
theorem Zhl {R : List α → α → Option ρ} (h : ∀ p x, R p x = none) : ∀ (l p : List α), ZaM R p l = none
 | [], p => rfl
 | x :: l, p => by rw [ZaM, h]; exact Zhl h l _
theorem Zax {B : σ → Option (Lv σ ξ ρ)} {N : Nat} (l : List α) (S : List α → β) (mk : Nat → β → σ) (e : β → ξ)
  (hs : ∀ i x, l[i]? = some x → B (mk i (S (l.take i))) = some (.nx (mk (i + 1) (S (l.take i ++ [x])))))
  (he : B (mk l.length (S l)) = some (.ex (e (S l)))) (hN : l.length < N) : Zaa B N (mk 0 (S [])) = some (.inl (e (S l))) := by
 rw [ZbU l S (fun _ _ => none) mk e hs he hN, Zhl fun _ _ => rfl]
 rfl
theorem ZgH {B : σ → Option (Lv σ ξ ρ)} (I : Nat → σ → Prop) (Q : ξ ⊕ ρ → Prop)
  (h : ∀ k v, I k v → ∃ o, B v = some o ∧ match o with | .nx v' => ∃ k', k' < k ∧ I k' v' | .ex b => Q (.inl b) | .rt y => Q (.inr y)) :
  ∀ N k v, k < N → I k v → ∃ o, Zaa B N v = some o ∧ Q o
 | 0, k, v, hk, _ => absurd hk (YQ _)
 | N + 1, k, v, hk, hI => by
  obtain ⟨o, h1, h2⟩ := h k v hI
  rw [Zaa, h1]
  cases o with
  | nx v' => obtain ⟨k', h3, h4⟩ := h2; exact ZgH I Q h N k' v' (by omega) h4
  | ex b => exact ⟨_, rfl, h2⟩
  | rt y => exact ⟨_, rfl, h2⟩
theorem Zcl {l : List α} {i : Nat} {x : α} (h : l[i]? = some x) : (i : Int) < (l.length : Int) := by
 grind
theorem Zag {n : Nat} (h : n < 4611686018427387904) : n < big := h
end
end Go.Eng
namespace Go.Proofs.YthagpbkmakocjaaGreat
set_option linter.all false
open Go Go.Eng
def ixP {α : Type} (l : List α) (p : α → Bool) : Int := match l.findIdx? p with
 | some i => (i : Int)
 | none => -1
theorem Zh5 {α : Type} {l : List α} {p : α → Bool} : decide (0 ≤ ixP l p) = l.any p := by
 unfold ixP
 grind
theorem ZPN (l : List Int) (x : Int) (h : l.length < 4611686018427387904) : Zfc l x = some (ixP l (fun y => decide (x = y))) := by
 unfold Zfc
 simp only [Zyi, Zzj, ZyV, vz, lr, lc, lf]
 rw [Za8 l (fun y => decide (x = y)) (fun i => (i : Int)) () (hN := Zag h) (he := by simp [Zon, Zs4, br]) (hs := by
  intro i y hy
  obtain ⟨h1, rfl⟩ := Ya.1 hy
  have h2 : i + 1 < 9223372036854775808 := by omega
  simp [Zon, Zs4, br, h1, h2]
  split <;> rfl)]
 unfold ixP
 cases l.findIdx? _ <;> rfl
theorem ZGz (l : List Int) (x : Int) (h : l.length < 4611686018427387904) : Zdn l x = some (ixP l (fun y => decide (x = y))) := by
 unfold Zdn
 simp only [ZnM, Znz, ZnY, vz, lr, lf]
 rw [Za8 l (fun y => decide (x = y)) (fun i => (i : Int)) () (hN := Zag h) (he := by simp [ZgB, Ziv, br]) (hs := by
  intro i y hy
  obtain ⟨h1, rfl⟩ := Ya.1 hy
  have h2 : i + 1 < 9223372036854775808 := by omega
  simp [ZgB, Ziv, br, h1, h2]
  split <;> rfl)]
 unfold ixP
 cases l.findIdx? _ <;> rfl
theorem m91 (l : List ByteArray) (x : ByteArray) (h : l.length < 4611686018427387904) : ZdN l x = some (ixP l (fun y => decide (x = y))) := by
 unfold ZdN
 simp only [ZzP, Zzp, Zx8, vz, lr, lc, lf]
 rw [Za8 l (fun y => decide (x = y)) (fun i => (i : Int)) () (hN := Zag h) (he := by simp [Zm6, ZsK, br]) (hs := by
  intro i y hy
  obtain ⟨h1, rfl⟩ := Ya.1 hy
  have h2 : i + 1 < 9223372036854775808 := by omega
  simp [Zm6, ZsK, br, h1, h2]
  split <;> rfl)]
 unfold ixP
 cases l.findIdx? _ <;> rfl
theorem m85 (l : List Fil) (f : Fil → Option Bool) (p : Fil → Bool) (hf : ∀ x ∈ l, f x = some (p x)) (h : l.length < 4611686018427387904) : Zb1 l f = some (ixP l (p)) := by
 unfold Zb1
 simp only [ZHM, ZIT, ZIP, vz, lr, lc, lf]
 rw [Za8 l (p) (fun i => (i : Int)) () (hN := Zag h) (he := by simp [ZwA, ZCy, br]) (hs := by
  intro i y hy
  obtain ⟨h1, rfl⟩ := Ya.1 hy
  have h2 : i + 1 < 9223372036854775808 := by omega
  have h3 := hf l[i] (Ye hy)
  simp [ZwA, ZCy, br, h1, h2, h3]
  cases p l[i] <;> rfl)]
 unfold ixP
 cases l.findIdx? _ <;> rfl
theorem ZQi (l : List ByteArray) (f : ByteArray → Option Bool) (p : ByteArray → Bool) (hf : ∀ x ∈ l, f x = some (p x)) (h : l.length < 4611686018427387904) : Zb9 l f = some (ixP l (p)) := by
 unfold Zb9
 simp only [Zz2, Zx5, ZzA, vz, lr, lc, lf]
 rw [Za8 l (p) (fun i => (i : Int)) () (hN := Zag h) (he := by simp [ZnW, ZsC, br]) (hs := by
  intro i y hy
  obtain ⟨h1, rfl⟩ := Ya.1 hy
  have h2 : i + 1 < 9223372036854775808 := by omega
  have h3 := hf l[i] (Ye hy)
  simp [ZnW, ZsC, br, h1, h2, h3]
  cases p l[i] <;> rfl)]
 unfold ixP
 cases l.findIdx? _ <;> rfl
theorem ZPS (l : List Enm) (f : Enm → Option Bool) (p : Enm → Bool) (hf : ∀ x ∈ l, f x = some (p x)) (h : l.length < 4611686018427387904) : Za5 l f = some (ixP l (p)) := by
 unfold Za5
 simp only [ZBy, ZAv, Zz9, vz, lr, lc, lf]
 rw [Za8 l (p) (fun i => (i : Int)) () (hN := Zag h) (he := by simp [ZpI, ZtL, br]) (hs := by
  intro i y hy
  obtain ⟨h1, rfl⟩ := Ya.1 hy
  have h2 : i + 1 < 9223372036854775808 := by omega
  have h3 := hf l[i] (Ye hy)
  simp [ZpI, ZtL, br, h1, h2, h3]
  cases p l[i] <;> rfl)]
 unfold ixP
 cases l.findIdx? _ <;> rfl
theorem m88 (l : List Int) (x : Int) (h : l.length < 4611686018427387904) : Zc5 l x = some (l.any fun y => decide (x = y)) := by
 unfold Zc5
 simp only [Zzi, cl, ZPN l x h, Option.bind_some, Zh5]
theorem ZMN (l : List Int) (x : Int) (h : l.length < 4611686018427387904) : Za6 l x = some (l.any fun y => decide (x = y)) := by
 unfold Za6
 simp only [ZmS, cs, ZGz l x h, Option.bind_some, Zh5]
theorem m54 (l : List ByteArray) (x : ByteArray) (h : l.length < 4611686018427387904) : ZaT l x = some (l.any fun y => decide (x = y)) := by
 unfold ZaT
 simp only [ZH4, cl, m91 l x h, Option.bind_some, Zh5]
theorem m89 (l : List ByteArray) (f : ByteArray → Option Bool) (p : ByteArray → Bool) (hf : ∀ x ∈ l, f x = some (p x)) (h : l.length < 4611686018427387904) : Zbo l f = some (l.any p) := by
 unfold Zbo
 simp only [Zys, cs, ZQi l f p hf h, Option.bind_some, Zh5]
theorem ZP4 (l : List Enm) (f : Enm → Option Bool) (p : Enm → Bool) (hf : ∀ x ∈ l, f x = some (p x)) (h : l.length < 4611686018427387904) : ZbS l f = some (l.any p) := by
 unfold ZbS
 simp only [ZzO, cs, ZPS l f p hf h, Option.bind_some, Zh5]
theorem m51 (l : List Fil) (x : ByteArray) (h : l.length < 4611686018427387904) : Zd4 l x = some (ixP l fun y => decide (y.name = x)) := by
 unfold Zd4
 simp only [ZLt, cs]
 rw [m85 l _ (fun y => decide (y.name = x)) (fun y _ => (by simp only [Zce, ZGc, vw] : Zce y x = _)) h]
 rfl
def Za1 (a b : ByteArray) : ByteArray := if a = ⟨#[]⟩ then b else a ++ ⟨#[46]⟩ ++ b
theorem Zic (a b : ByteArray) : (Za1 a b).size ≤ a.size + 1 + b.size := by
 unfold Za1
 split
 ·omega
 ·rw [Yb2, Yb2]; exact Nat.le_refl _
theorem m25 (a b : ByteArray) (ha : a.size < 4611686018427387904) (hb : b.size < 4611686018427387903) : ZeF a b = some (Za1 a b) := by
 unfold ZeF Za1
 simp only [ZGQ, br]
 by_cases e : a = ⟨#[]⟩
 ·simp [e]
 ·have hd : (⟨#[46]⟩ : ByteArray).size = 1 := rfl
  grind
structure SzF (f : Fil) : Prop where
 sp : f.space.size < 2147483648
 nm : f.name.size < 2147483648
 ms : f.messages.length < 2147483648
 es : f.enums.length < 2147483648
 vs : f.services.length < 2147483648
 is : f.imports.length < 2147483648
 nm1 : ∀ x ∈ f.messages, x.name.size < 2147483648
 nm2 : ∀ x ∈ f.enums, x.name.size < 2147483648
 nm3 : ∀ x ∈ f.services, x.name.size < 2147483648
def Zim (f : Fil) : List ByteArray := f.messages.map fun x => Za1 f.space x.name
def ZiA (f : Fil) : List ByteArray := f.enums.map fun x => Za1 f.space x.name
def Zl1 (f : Fil) : List ByteArray := f.services.map fun x => Za1 f.space x.name
theorem m24 (f : Fil) (hf : SzF f) : ZfW f = some (Zim f, ZiA f, Zl1 f) := by
 have g1 := hf.sp
 have g2 := hf.ms
 have g3 := hf.es
 have g4 := hf.vs
 have q1 : Zaa (Zs7 f) big ([], 0) = some (.inl ([] ++ f.messages.map fun x => Za1 f.space x.name)) := ZiE f.messages (fun x => Za1 f.space x.name) [] (hN := Zag (by omega)) (he := by intro b; simp [Zs7, ZDD, br]) (hs := by
  intro i b x hx hb
  obtain ⟨h1, rfl⟩ := Ya.1 hx
  have h2 : i + 1 < 9223372036854775808 := by omega
  have h3 := m25 f.space (f.messages[i]).name (by omega) (by have := hf.nm1 _ (Ye hx); omega)
  have h4 : b.length < 549755813887 := by simp only [Yao] at hb; omega
  simp [Zs7, ZDD, br, h1, h2, h3, h4])
 have q2 : ∀ r5 : List ByteArray, Zaa (Zug f r5) big ([], 0) = some (.inl ([] ++ f.enums.map fun x => Za1 f.space x.name)) := fun r5 => ZiE f.enums (fun x => Za1 f.space x.name) [] (hN := Zag (by omega)) (he := by intro b; simp [Zug, ZDK, br]) (hs := by
  intro i b x hx hb
  obtain ⟨h1, rfl⟩ := Ya.1 hx
  have h2 : i + 1 < 9223372036854775808 := by omega
  have h3 := m25 f.space (f.enums[i]).name (by omega) (by have := hf.nm2 _ (Ye hx); omega)
  have h4 : b.length < 549755813887 := by simp only [Yao] at hb; omega
  simp [Zug, ZDK, br, h1, h2, h3, h4])
 have q3 : ∀ r5 r10 : List ByteArray, Zaa (Zqu f r5 r10) big ([], 0) = some (.inl ([] ++ f.services.map fun x => Za1 f.space x.name)) := fun r5 r10 => ZiE f.services (fun x => Za1 f.space x.name) [] (hN := Zag (by omega)) (he := by intro b; simp [Zqu, ZBO, br]) (hs := by
  intro i b x hx hb
  obtain ⟨h1, rfl⟩ := Ya.1 hx
  have h2 : i + 1 < 9223372036854775808 := by omega
  have h3 := m25 f.space (f.services[i]).name (by omega) (by have := hf.nm3 _ (Ye hx); omega)
  have h4 : b.length < 549755813887 := by simp only [Yao] at hb; omega
  simp [Zqu, ZBO, br, h1, h2, h3, h4])
 unfold ZfW Zim ZiA Zl1
 simp only [ZGJ, ZI0, ZF7, ZLj, ZF5, ZLv, ZzK, Zy0, vz, vw, lc, q1, q2, q3, Option.bind_some, Sum.elim_inl, Yai]
theorem Zjj {α : Type} (f : α → Nat) : ∀ (l : List α) (i : Nat), ((l.take i).map f).sum ≤ (l.map f).sum
 | [], i => by simp
 | x :: l, 0 => by simp
 | x :: l, i + 1 => by simp only [List.take_succ_cons, Yo, YY]; have := Zjj f l i; omega
theorem Zc0 {α : Type} (f : α → Nat) {l : List α} {i : Nat} {x : α} (h : l[i]? = some x) : ((l.take i).map f).sum + f x ≤ (l.map f).sum := by
 obtain ⟨h1, rfl⟩ := Ya.1 h
 have := Zjj f l (i + 1)
 rw [YZ h1, YE, List.sum_append] at this
 grind
theorem m47 (ls : List (List ByteArray)) (h : (ls.map List.length).sum < 549755813888) (hl : ls.length < 4611686018427387904) : Zay ls = some ls.flatten := by
 have q1 : Zaa (ZqF ls) big (0, 0) = some (.inl (ls.map List.length).sum) := Zax ls (fun p => (p.map List.length).sum) (fun i b => (b, i)) id (hN := Zag hl) (he := by simp [ZqF, ZA5, br]) (hs := by
  intro i x hx
  have h3 := Zc0 List.length hx
  obtain ⟨h1, rfl⟩ := Ya.1 hx
  have h2 : i + 1 < 9223372036854775808 := by omega
  have h4 : ((ls.take i).map List.length).sum + (ls[i]).length < 9223372036854775808 := by omega
  have h5 : ¬ (((ls.take i).map List.length).sum : Int) + ((ls[i]).length : Int) < 0 := by omega
  simp only [YE, List.sum_append, Yo, YT, YY, Ybo, YaH]
  simp [ZqF, ZA5, br, h1, h2, h4, h5, -List.map_take])
 have q2 : Zaa (Zuh ls) big ([], 0) = some (.inl ls.flatten) := Zax ls (fun p => p.flatten) (fun i b => (b, i)) id (hN := Zag hl) (he := by simp [Zuh, ZAO, br]) (hs := by
  intro i x hx
  have h3 := Zc0 List.length hx
  obtain ⟨h1, rfl⟩ := Ya.1 hx
  have h2 : i + 1 < 9223372036854775808 := by omega
  have h4 : (ls.take i).flatten.length + (ls[i]).length < 549755813888 := by rw [List.length_flatten]; omega
  simp only [List.flatten_append, YaA, List.flatten_nil, YW]
  simp only [Zuh, ZAO, br]
  simp [h1, h2, h4, -List.length_flatten, -List.length_append])
 unfold Zay
 simp only [ZKZ, ZKW, ZHK, ZKB, ZK2, ZGD, vz, vw, lc, q1, q2, Zf1, h, if_true, Option.bind_some, Sum.elim_inl]
def tot (f : Fil) : Nat := f.messages.length + f.enums.length + f.services.length
def ZaI (f : Fil) : List ByteArray := Zim f ++ ZiA f ++ Zl1 f
theorem Zc6 (f : Fil) : (Zim f).length = f.messages.length := by unfold Zim; rw [Yk]
theorem Zec (f : Fil) : (ZiA f).length = f.enums.length := by unfold ZiA; rw [Yk]
theorem Zd7 (f : Fil) : (Zl1 f).length = f.services.length := by unfold Zl1; rw [Yk]
theorem ZdR (f : Fil) : (ZaI f).length = tot f := by unfold ZaI tot; rw [Yi, Yi, Zc6, Zec, Zd7]
structure SzA (fs : List Fil) : Prop where
 f : ∀ f ∈ fs, SzF f
 n : fs.length ≤ 1048576
 t : (fs.map tot).sum ≤ 1048576
 i : ∀ f ∈ fs, ∀ g ∈ fs, g.imports.length + tot f ≤ 1048576
def Zlk (l : List Fil) : Nat := (l.map fun f => f.messages.length).sum
def ZlG (l : List Fil) : Nat := (l.map fun f => f.enums.length).sum
def ZlX (l : List Fil) : Nat := (l.map fun f => f.services.length).sum
theorem ZLG : ∀ l : List Fil, Zlk l + ZlG l + ZlX l = (l.map tot).sum
 | [] => rfl
 | f :: l => by
  have := ZLG l
  simp only [Zlk, ZlG, ZlX, tot, Yo, YY] at *
  omega
theorem Zru (l : List Fil) (x : Fil) : Zlk (l ++ [x]) = Zlk l + x.messages.length := by simp [Zlk]
theorem ZrU (l : List Fil) (x : Fil) : ZlG (l ++ [x]) = ZlG l + x.enums.length := by simp [ZlG]
theorem ZrN (l : List Fil) (x : Fil) : ZlX (l ++ [x]) = ZlX l + x.services.length := by simp [ZlX]
theorem Zqq {l : List Fil} {i : Nat} {x : Fil} (h : l[i]? = some x) : Zlk (l.take i) + ZlG (l.take i) + ZlX (l.take i) + tot x ≤ (l.map tot).sum := by
 rw [ZLG]; exact Zc0 tot h
theorem Zn0 {α : Type} {l : List α} {p : α → Bool} (h : 0 ≤ ixP l p) : ∃ (i : Nat) (x : α), ixP l p = (i : Int) ∧ l[i]? = some x ∧ p x = true ∧ ∀ j : Nat, j < i → ∀ y, l[j]? = some y → p y = false := by
 unfold ixP at h ⊢
 cases hf : l.findIdx? p with
 | none => rw [hf] at h; exact absurd h (by decide)
 | some i =>
  rw [YX] at hf
  grind
def Zqf {ρ : Type} (n : ByteArray → ρ) (p : List ByteArray) (x : ByteArray) : Option ρ := if (p.any fun y => decide (x = y)) = true then some (n x) else none
def Zai (fs : List Fil) : List ByteArray := fs.flatMap ZaI
theorem ZiB (l : List Fil) (x : Fil) : Zai (l ++ [x]) = Zai l ++ ZaI x := by simp [Zai]
theorem ZeK : ∀ l : List Fil, (Zai l).length = (l.map tot).sum
 | [] => rfl
 | f :: l => by
  have := ZeK l
  simp only [Zai, YG, Yi, ZdR, Yo, YY] at *
  omega
def Zvz (fs : List Fil) : ByteArray × Int := if 64 < Zlk fs ∨ 64 < ZlG fs ∨ 64 < ZlX fs then (⟨#[]⟩, 3) else match ZaM (Zqf fun x => (x, (9 : Int))) [] (Zai fs) with
 | some r => r
 | none => (⟨#[]⟩, 0)
theorem m23 (fs : List Fil) (h : SzA fs) : Zd9 fs = some (Zvz fs) := by
 have hn := h.n
 have ht := h.t
 have q1 : Zaa (Zse fs) big ([], 0, 0, 0, 0) = some (.inl (Zlk fs, ZlG fs, ZlX fs, Zai fs)) := Zax fs (fun p => (Zai p, Zlk p, ZlG p, ZlX p)) (fun i b => (b.1, b.2.1, b.2.2.1, b.2.2.2, i)) (fun b => (b.2.1, b.2.2.1, b.2.2.2, b.1)) (hN := Zag (by omega)) (he := by simp [Zse, ZBo, ZFl, ZEL, ZEq, ZD9, br, ix, vz, vw, vs]) (hs := by
  intro i x hx
  have h3 := Zqq hx
  have hz := h.f x (Ye hx)
  have h7 := Zc0 tot hx
  rw [← ZeK] at h7
  obtain ⟨h1, rfl⟩ := Ya.1 hx
  have h6 : tot (fs[i]) = (fs[i]).messages.length + (fs[i]).enums.length + (fs[i]).services.length := rfl
  have h2 : i + 1 < 9223372036854775808 := by omega
  have g1 : Zlk (fs.take i) + (Zim fs[i]).length < 9223372036854775808 := by rw [Zc6]; omega
  have g2 : ZlG (fs.take i) + (ZiA fs[i]).length < 9223372036854775808 := by rw [Zec]; omega
  have g3 : ZlX (fs.take i) + (Zl1 fs[i]).length < 9223372036854775808 := by rw [Zd7]; omega
  have g4 : Zay [Zim fs[i], ZiA fs[i], Zl1 fs[i]] = some (ZaI fs[i]) := by
   rw [m47 _ (by simp only [Yo, YT, YY, Ybo, Zc6, Zec, Zd7]; omega) (by simp)]
   simp [ZaI]
  have g5 : (Zai (fs.take i)).length + (ZaI fs[i]).length < 549755813888 := by rw [ZdR]; omega
  simp only [ZiB, Zru, ZrU, ZrN, Zse, ZBo, ZFl, ZEL, ZEq, ZD9, br, ix, vz, vw, vs]
  have h8 := m24 _ hz
  simp only [← Zc6, ← Zec, ← Zd7]
  simp [h1, h2, h8, g1, g2, g3, g4, g5])
 have hl : (Zai fs).length ≤ 1048576 := by rw [ZeK]; exact ht
 have q2 : Zaa (Zpn (Zai fs)) big 0 = some ((ZaM (Zqf fun x => (x, (9 : Int))) [] (Zai fs)).elim (.inl ()) .inr) := ZbU (B := Zpn (Zai fs)) (Zai fs) (fun _ => ()) (Zqf fun x => (x, (9 : Int))) (fun i _ => i) id (hN := Zag (by omega)) (he := by simp [Zpn, ZCQ, br, Bd.vl]) (hs := by
  intro i x hx
  obtain ⟨h1, rfl⟩ := Ya.1 hx
  have h2 : i + 1 < 9223372036854775808 := by omega
  have h3 : i ≤ (Zai fs).length := by omega
  have h4 := m54 ((Zai fs).take i) (Zai fs)[i] (by rw [Yr]; omega)
  simp only [Zpn, ZCQ, br, Bd.c, Bd.vl, Zqf]
  simp only [h1, h2, h3, h4, Option.bind_some, decide_true, if_true, Y7, and_self, Yaq, YbM, YaT, hx]
  cases ((Zai fs).take i).any fun y => decide ((Zai fs)[i] = y) <;> rfl)
 unfold Zd9
 simp only [ZKR, ZJl, ZJ8, ZyA, Zya, Zyp, ZyX, br, vz, vw, lr, lc, lf, q1, q2, Option.bind_some, Sum.elim_inl]
 unfold Zvz
 have hmm : (64 : Int) < mmI true (mmI true (Zlk fs : Int) (ZlG fs : Int)) (ZlX fs : Int) ↔ (64 < Zlk fs ∨ 64 < ZlG fs ∨ 64 < ZlX fs) := by
  simp only [mmI, if_true]
  omega
 simp only [decide_eq_true_eq, hmm]
 split
 ·rfl
 ·cases ZaM (Zqf fun x => (x, (9 : Int))) [] (Zai fs) <;> rfl
theorem sq4 (a b : Nat) : 4 * (a * b) ≤ (a + b) * (a + b) := by
 rcases Nat.le_total a b with h | h
 ·obtain ⟨d, rfl⟩ := Nat.le.dest h
  grind
 ·obtain ⟨d, rfl⟩ := Nat.le.dest h
  grind
theorem ZM9 {a b : Nat} (h : a + b ≤ 1048576) : a * b ≤ 274877906944 := by
 have h1 := sq4 a b
 have h2 : (a + b) * (a + b) ≤ 1048576 * 1048576 := Nat.mul_le_mul h h
 omega
theorem Zzt {α : Type} (f : α → Nat) (c : Nat) : ∀ l : List α, (∀ x ∈ l, f x ≤ c) → (l.map f).sum ≤ l.length * c
 | [], _ => by simp
 | x :: l, h => by
  have h1 := Zzt f c l fun y hy => h y (Yq _ hy)
  have h2 := h x (Yt ..)
  simp only [Yo, YY, YU, YF, Ya5]
  omega
def Zda (fs : List Fil) (s : ByteArray) : Fil := fs.getD (ixP fs fun y => decide (y.name = s)).toNat Zjs
theorem ZjZ {fs : List Fil} {s : ByteArray} (h : 0 ≤ ixP fs fun y => decide (y.name = s)) : fs[(ixP fs fun y => decide (y.name = s)).toNat]? = some (Zda fs s) ∧ (Zda fs s).name = s ∧ Zda fs s ∈ fs := by
 obtain ⟨i, x, h1, h2, h3, _⟩ := Zn0 h
 have : Zda fs s = x := by unfold Zda; rw [h1, Yj, Yac, h2]; rfl
 grind
def Zti (fs : List Fil) (f : Fil) (p : List ByteArray) : List ByteArray := ZaI f ++ p.flatMap fun s => ZaI (Zda fs s)
theorem Zsc (fs : List Fil) (f : Fil) (p : List ByteArray) (s : ByteArray) : Zti fs f (p ++ [s]) = Zti fs f p ++ ZaI (Zda fs s) := by simp [Zti]
theorem Zfi {α β : Type} (f : α → List β) : ∀ l : List α, (l.flatMap f).length = (l.map fun x => (f x).length).sum
 | [] => rfl
 | x :: l => by rw [YG, Yi, Zfi f l]; rfl
def Zh3 (fs : List Fil) (f : Fil) : Prop := ∀ s ∈ f.imports, 0 ≤ ixP fs fun y => decide (y.name = s)
theorem ZnZ {fs : List Fil} {f : Fil} (h : SzA fs) (hf : f ∈ fs) (hF : Zh3 fs f) {i : Nat} : (Zti fs f (f.imports.take i)).length ≤ 274878955520 := by
 unfold Zti
 rw [Yi, ZdR, Zfi]
 have h0 := h.i f hf f hf
 have h1 := Zjj (fun s => (ZaI (Zda fs s)).length) f.imports i
 have h2 := Zzt (fun s => (ZaI (Zda fs s)).length) (1048576 - f.imports.length) f.imports fun s hs => by
  have := h.i (Zda fs s) (ZjZ (hF s hs)).2.2 f hf
  simp only [ZdR]
  omega
 have h3 := ZM9 (a := f.imports.length) (b := 1048576 - f.imports.length) (by omega)
 omega
def Zfa (fs : List Fil) (f : Fil) : List ByteArray := Zti fs f f.imports
theorem m27 (fs : List Fil) (f : Fil) (h : SzA fs) (hf : f ∈ fs) (hF : Zh3 fs f) : ZdI fs f = some (Zfa fs f) := by
 have hn := h.n
 have hz := h.f f hf
 have hi := hz.is
 have hl : f.imports.length + tot f ≤ 1048576 := h.i f hf f hf
 have cc : ∀ g : Fil, SzF g → tot g ≤ 1048576 → Zay [Zim g, ZiA g, Zl1 g] = some (ZaI g) := fun g hg ht => by
  have h6 : tot g = g.messages.length + g.enums.length + g.services.length := rfl
  rw [m47 _ (by simp only [Yo, YT, YY, Ybo, Zc6, Zec, Zd7]; omega) (by simp)]
  simp [ZaI]
 have q1 : Zaa (Zo0 fs f) big (ZaI f, 0) = some (.inl (Zfa fs f)) := by
  have := Zax (B := Zo0 fs f) (N := big) f.imports (Zti fs f) (fun i b => (b, i)) id (hN := Zag (by omega)) (he := by simp [Zo0, ZAV, ZAx, ZEJ, ZFw, ZCR, br, ix, vz, vw, vs]) (hs := by
   intro i x hx
   obtain ⟨e1, e2, e3⟩ := ZjZ (hF x (Ye hx))
   have g0 := hF x (Ye hx)
   have g1 := ZnZ h hf hF (i := i)
   have g2 := h.f _ e3
   have g3 := h.i _ e3 f hf
   have g4 := m51 fs x (by omega)
   have g5 := m24 _ g2
   have g6 : Zay [Zti fs f (f.imports.take i), Zim (Zda fs x), ZiA (Zda fs x), Zl1 (Zda fs x)] = some (Zti fs f (f.imports.take i ++ [x])) := by
    have h6 : tot (Zda fs x) = (Zda fs x).messages.length + (Zda fs x).enums.length + (Zda fs x).services.length := rfl
    rw [m47 _ (by simp only [Yo, YT, YY, Ybo, Zc6, Zec, Zd7]; omega) (by simp), Zsc]
    simp [ZaI]
   obtain ⟨h1, rfl⟩ := Ya.1 hx
   have h2 : i + 1 < 9223372036854775808 := by omega
   simp only [Zo0, ZAV, ZAx, ZEJ, ZFw, ZCR, br, ix, vz, vw, vs]
   simp only [h1, h2, g0, e1, g4, g5, g6, Option.bind_some, decide_true, if_true, Y7, hx])
  have e : Zti fs f [] = ZaI f := by simp [Zti]
  rw [e] at this
  exact this
 unfold ZdI
 simp only [ZFT, ZLo, ZIc, ZIf, ZyB, Zyg, vz, vw, lr, lf, m24 f hz, cc f hz (by omega), q1, Option.bind_some, Sum.elim_inl]
def Zu7 (s : ByteArray) : Nat → Option Nat
 | 0 => none
 | n + 1 => if ((s.data.toList.getD n 0).toNat : Int) = 46 then some n else Zu7 s n
theorem ZmB {s : ByteArray} : ∀ {n i : Nat}, Zu7 s n = some i → i < n
 | 0, i, h => by cases h
 | n + 1, i, h => by
  unfold Zu7 at h
  split at h
  ·grind
  ·have := ZmB h; omega
theorem ZyZ (s : ByteArray) (hs : s.size < 4611686018427387904) : ∀ (n N : Nat), n ≤ s.size → n < N → Zaa (Zkd s 46) N ((n : Int) - 1) = some (match Zu7 s n with | some i => .inr (i : Int) | none => .inl ())
 | 0, N, _, hN => by
  obtain ⟨N, rfl⟩ : ∃ m, N = m + 1 := ⟨N - 1, by omega⟩
  rw [Zaa]
  simp only [Zkd, Zq3, br]
  rfl
 | n + 1, N, hn, hN => by
  obtain ⟨N, rfl⟩ : ∃ m, N = m + 1 := ⟨N - 1, by omega⟩
  have ih := ZyZ s hs n N (by omega) (by omega)
  have h1 : n < s.data.toList.length := by simpa using (show n < s.size by omega)
  rw [Zaa, Zu7]
  have e : ((n + 1 : Nat) : Int) - 1 = (n : Int) := by omega
  have g1 : (0 : Int) ≤ (n : Int) := by omega
  have g2 : ((n : Int)).toNat = n := by omega
  have g3 : -9223372036854775808 ≤ (n : Int) - 1 ∧ (n : Int) - 1 < 9223372036854775808 := by omega
  have g4 : (n : Int) < (s.size : Int) := by omega
  have g5 : s.data.toList[n]? = some (s.data.toList.getD n 0) := by rw [Yj, Yc h1]; rfl
  simp only [Zkd, Zq3, br, e, g1, g2, g3, g4, decide_true, if_true, and_self]
  grind
theorem ZQs (s : ByteArray) (hs : s.size < 4611686018427387904) : ZbT s 46 = some (match Zu7 s s.size with | some i => (i : Int) | none => -1) := by
 have g3 : -9223372036854775808 ≤ (s.size : Int) - 1 ∧ (s.size : Int) - 1 < 9223372036854775808 := by omega
 unfold ZbT
 simp only [ZzJ, vz, lr, lc, lf, cl, Zb4, Zy8, ZzC, Zz0, g3, and_self, if_true, ZyZ s hs s.size big (Nat.le_refl _) (Zag hs), Option.bind_some]
 grind
def ZfO (s : ByteArray) : ByteArray × ByteArray := match Zu7 s s.size with
 | some i => (s.extract 0 i, s.extract (i + 1) s.size)
 | none => (⟨#[]⟩, s)
theorem ZRb (s : ByteArray) (hs : s.size < 4611686018427387904) : Zej s = some (ZfO s) := by
 unfold Zej ZfO
 simp only [ZyR, cl, Bd.c, Bd.vl, ZQs s hs, Option.bind_some]
 cases h : Zu7 s s.size with
 | none => rfl
 | some i =>
  have h1 := ZmB h
  grind
theorem Zh8 {s : ByteArray} (h : s ≠ ⟨#[]⟩) : (ZfO s).1.size < s.size := by
 have h0 : s.size ≠ 0 := fun e => h (by
  obtain ⟨d⟩ := s
  have : d = #[] := Yau e
  rw [this])
 unfold ZfO
 cases hl : Zu7 s s.size with
 | none => exact Nat.pos_of_ne_zero h0
 | some i =>
  have := ZmB hl
  simp only [ByteArray.size_extract]
  omega
def upF : Nat → ByteArray → List ByteArray
 | 0, _ => []
 | n + 1, s => if s = ⟨#[]⟩ then [] else (ZfO s).1 :: upF n (ZfO s).1
theorem ZnC : ∀ (n : Nat) (s : ByteArray), ∀ x ∈ upF n s, x.size ≤ s.size
 | 0, s, x, h => by cases h
 | n + 1, s, x, h => by
  unfold upF at h
  split at h
  ·cases h
  ·rename_i hs
   have := Zh8 hs
   rcases Yx.1 h with rfl | h
   ·omega
   ·have := ZnC n _ x h; omega
theorem Zui : ∀ (n : Nat) (s : ByteArray), (upF n s).length ≤ n
 | 0, s => Nat.le_refl _
 | n + 1, s => by
  unfold upF
  split
  ·simp
  ·have := Zui n (ZfO s).1
   grind
def upB (s : ByteArray) : List ByteArray := s :: upF (s.size + 1) s
theorem ZuU {s x : ByteArray} (h : x ∈ upB s) : x.size ≤ s.size := by
 rcases Yx.1 h with rfl | h
 ·grind
 ·exact ZnC _ _ x h
theorem ZCk (s : ByteArray) : (upB s).length ≤ s.size + 2 := by
 have := Zui (s.size + 1) s
 simp only [upB, YU]
 omega
theorem ZyU : ∀ (n : Nat) (s : ByteArray) (r : List ByteArray) (N : Nat), s.size < n → n ≤ N → r.length + n < 549755813887 → Zaa Zot N (s, r) = some (.inl (r ++ upF n s))
 | 0, s, r, N, h, _, _ => absurd h (YQ _)
 | n + 1, s, r, N, h, hN, hr => by
  obtain ⟨N, rfl⟩ : ∃ m, N = m + 1 := ⟨N - 1, by omega⟩
  have g1 := ZRb s (by omega)
  have g2 : r.length < 549755813887 := by omega
  rw [Zaa, upF]
  simp only [Zot, ZxZ, br, g1, g2, Option.bind_some, if_true]
  by_cases hs : s = ⟨#[]⟩
  ·simp [hs]
  ·have := Zh8 hs
   have ih := ZyU n (ZfO s).1 (r ++ [(ZfO s).1]) N (by omega) (by omega) (by rw [Yi, YaO]; omega)
   grind
theorem ZP3 (s : ByteArray) (hs : s.size < 274877906944) : ZfV s = some (upB s) := by
 unfold ZfV upB
 simp only [Zzl, ZzM, vz, vw, ZyU (s.size + 1) s [s] big (by omega) (Nat.le_of_lt (Zag (by omega))) (by simp only [YaO]; omega), Option.bind_some]
 rfl
def Zlo (l : List ByteArray) (x : ByteArray) : Bool := l.any fun y => decide (x = y)
def Zlm (scope name : ByteArray) (known : List ByteArray) : ByteArray × Bool :=
 if 0 < name.size ∧ ((name.data.toList.getD 0 0).toNat : Int) = 46 then (if Zlo known (name.extract 1 name.size) = true then (name.extract 1 name.size, true) else (⟨#[]⟩, false))
 else match (upB scope).find? fun s => Zlo known (Za1 s name) with
  | some s => (Za1 s name, true)
  | none => (⟨#[]⟩, false)
theorem ZjW {s : ByteArray} (h : 0 < s.size) : s.extract 0 1 = ⟨#[46]⟩ ↔ ((s.data.toList.getD 0 0).toNat : Int) = 46 := by
 obtain ⟨d⟩ := s
 have h' : 0 < d.size := h
 have e : (ByteArray.extract ⟨d⟩ 0 1).data = d.extract 0 1 := by rw [ByteArray.data_extract]
 have e2 : d.extract 0 1 = #[d[0]] := by
  grind
 have e3 : d.toList.getD 0 0 = d[0] := by simp [Yj, h']
 show _ ↔ ((d.toList.getD 0 0).toNat : Int) = 46
 rw [e3]
 constructor
 ·intro hh
  have := congrArg ByteArray.data hh
  rw [e, e2] at this
  simp at this
  rw [this]; rfl
 ·intro hh
  have : d[0] = 46 := UInt8.toNat_inj.1 (by have : (46 : UInt8).toNat = 46 := rfl; omega)
  apply ByteArray.ext
  grind
theorem ZRf (s : ByteArray) (hs : s.size < 4611686018427387904) : ZcH s ⟨#[46]⟩ = some (if 0 < s.size ∧ ((s.data.toList.getD 0 0).toNat : Int) = 46 then (s.extract 1 s.size, true) else (s, false)) := by
 have e : (⟨#[46]⟩ : ByteArray).size = 1 := rfl
 simp only [ZcH, ZcR, ZcU, Zyu, Zyl, Zyr, vz, cl, Bd.c, Bd.vl, e]
 by_cases h : 0 < s.size
 ·have h1 : (1 : Int) ≤ (s.size : Int) := by omega
  have h2 : 1 ≤ s.size := h
  by_cases hd : ((s.data.toList.getD 0 0).toNat : Int) = 46
  ·have h3 := (ZjW h).2 hd
   grind
  ·have h3 : ¬ s.extract 0 1 = ⟨#[46]⟩ := fun q => hd ((ZjW h).1 q)
   grind
 grind
theorem Znu {α : Type} (l : List α) (p : α → Bool) : l.find? p = (l.findIdx? p).bind fun i => l[i]? := by
 induction l with
 | nil => rfl
 | cons x l ih =>
  rw [Ybp, List.findIdx?_cons]
  cases p x with
  | true => simp
  | false =>
   simp only [Yf, if_false]
   rw [ih]
   cases l.findIdx? p <;> simp
theorem m92 (scope name : ByteArray) (known : List ByteArray) (h1 : scope.size < 274877906944) (h2 : name.size < 274877906944) (h3 : known.length < 4611686018427387904) : Zdt scope name known = some (Zlm scope name known) := by
 have hl := ZCk scope
 have q1 : Zaa (Zj7 name known (upB scope)) big 0 = some (match (upB scope).findIdx? (fun s => Zlo known (Za1 s name)) with | some i => .inr (Za1 ((upB scope).getD i ⟨#[]⟩) name, true) | none => .inl ()) := by
  refine Za8 (upB scope) (fun s => Zlo known (Za1 s name)) (fun i => (Za1 ((upB scope).getD i ⟨#[]⟩) name, true)) () (hN := Zag (by omega)) (he := by simp [Zj7, Ztw, br]) (hs := ?_)
  intro i x hx
  have g := ZuU (Ye hx)
  have e : (upB scope).getD i ⟨#[]⟩ = x := by rw [Yj, hx]; rfl
  have g1 := m25 x name (by omega) (by omega)
  have g2 : ZaT known (Za1 x name) = some (Zlo known (Za1 x name)) := m54 known (Za1 x name) h3
  have g3 := (Ya.1 hx).1
  have g4 : i + 1 < 9223372036854775808 := by omega
  simp only [Zj7, Ztw, br, g1, g2, g3, g4, e, hx, Option.bind_some, Y7, decide_true, if_true]
  grind
 unfold Zdt Zlm
 simp only [ZzW, Zx4, ZzV, lr, lf, cl, ZRf name (by omega), Option.bind_some]
 by_cases hd : 0 < name.size ∧ ((name.data.toList.getD 0 0).toNat : Int) = 46
 ·have g2 : ZaT known (name.extract 1 name.size) = some (Zlo known (name.extract 1 name.size)) := m54 known _ h3
  grind
 ·simp only [if_neg hd, Yf, if_false, ZP3 scope h1, Option.bind_some, q1]
  rw [Znu]
  cases hf : (upB scope).findIdx? (fun s => Zlo known (Za1 s name)) with
  | none => rfl
  | some i =>
   have hlt : i < (upB scope).length := (YX.1 hf).1
   grind
end Go.Proofs.YthagpbkmakocjaaGreat
