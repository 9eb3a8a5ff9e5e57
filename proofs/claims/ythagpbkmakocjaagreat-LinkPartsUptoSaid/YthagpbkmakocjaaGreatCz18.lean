import Derived.Test.YthagpbkmakocjaaGreatCz17
import Derived.Test.YthagpbkmakocjaaGreatCz00
namespace Go.Proofs.YthagpbkmakocjaaGreat
set_option linter.all false
set_option maxRecDepth 100000
open Go Go.Eng
noncomputable section
@[reducible] def Zye (w0 : List Int) (w1 : List Fil) : Bool → List Blk := fun y => [⟨0, true, 87, 1, [.ref (0, 2) 0 0 w0.length]⟩, ⟨0, true, 32, 1, [vL Zat w1]⟩, o3 w0]
def Znl (p0 : Bt) (w0 : List Int) (w1 : List Fil) : PT 3 (Bool) := vw .go <| vw .go <| cl (ZBC w1 p0) fun y1 => cs tp 100 [.ref (0, 2) 0 0 w0.length, vI y1] [(0, 2)] [((0, 2), o3 w0)] (Za6 w0 y1) (fun y => vB y) fun y2 => lr E49 (Zye w0 w1) (!y2)
def ZaU (p0 : Bt) (w0 : List Int) (w1 : List Fil) : Option (Bool) := (Znl p0 w0 w1).m
theorem ZBK (p0 : Bt) (w0 : List Int) (w1 : List Fil) : KO tp 102 3 [vS p0, .ptr (0, 0) 0 0, .ptr (0, 1) 0 0] [⟨0, true, 87, 1, [.ref (0, 2) 0 0 w0.length]⟩, ⟨0, true, 32, 1, [vL Zat w1]⟩, o3 w0] ct (ZaU p0 w0 w1) E49 (Zye w0 w1) := ko1 Tryz.func102 Tryz.ntmps102 tok [.tmp 4] 3 (fun C co hT y m Post L => fO co m L fun r g y1 => ⟨fun y hy => s6 (Zt8 w0 y1) hy co g [((0, 2), o3 w0)] [], fun y2 => id⟩)
@[reducible] def ZDJ (w0 : List Int) (w1 : List Fil) : Bool → List Blk := fun y => [⟨0, true, 87, 1, [.ref (0, 2) 0 0 w0.length]⟩, ⟨0, true, 32, 1, [vL Zat w1]⟩, o3 w0]
def ZqI (p0 : Fil) (w0 : List Int) (w1 : List Fil) : PT 3 (Bool) := vw .go <| vw .go <| vw .go <| cl (ZBC w1 p0.name) fun y1 => cs tp 100 [.ref (0, 2) 0 0 w0.length, vI y1] [(0, 2)] [((0, 2), o3 w0)] (Za6 w0 y1) (fun y => vB y) fun y2 => br y2 (lr E49 (ZDJ w0 w1) false) (vw .go <| cs tp 101 [vL Zal p0.imports, .fn (.func 102) [] [.ptr (0, 0) 0 0, .ptr (0, 1) 0 0]] [(0, 0), (0, 1), (0, 2)] [((0, 0), ⟨0, true, 87, 1, [.ref (0, 2) 0 0 w0.length]⟩), ((0, 1), ⟨0, true, 32, 1, [vL Zat w1]⟩), ((0, 2), o3 w0)] (Zbo p0.imports (fun (z0 : Bt) => ZaU z0 w0 w1)) (fun y => vB y) fun y3 => lr E49 (ZDJ w0 w1) (!y3))
def Zbe (p0 : Fil) (w0 : List Int) (w1 : List Fil) : Option (Bool) := (ZqI p0 w0 w1).m
theorem ZK0 (p0 : Fil) (w0 : List Int) (w1 : List Fil) : KO tp 99 3 [.agg ((Zat p0).map .d), .ptr (0, 0) 0 0, .ptr (0, 1) 0 0] [⟨0, true, 87, 1, [.ref (0, 2) 0 0 w0.length]⟩, ⟨0, true, 32, 1, [vL Zat w1]⟩, o3 w0] ct (Zbe p0 w0 w1) E49 (ZDJ w0 w1) := ko1 Tryz.func99 Tryz.ntmps99 tok [.tmp 4] 3 (fun C co hT y m Post L => fO co m L fun r g y1 => ⟨fun y hy => s6 (Zt8 w0 y1) hy co g [((0, 2), o3 w0)] [], fun y2 => ⟨id, ⟨fun y hy => Zbm (ZMk p0.imports (fun (z0 : Bt) => ZaU z0 w0 w1)) hy co g [] [((0, 0), ⟨0, true, 87, 1, [.ref (0, 2) 0 0 w0.length]⟩), ((0, 1), ⟨0, true, 32, 1, [vL Zat w1]⟩), ((0, 2), o3 w0)] (lkS [(1, .fn (.func 102) [] [.ptr (r.κ (0, 0)) (r.γ (0, 0) + 0) 0, .ptr (r.κ (0, 1)) (r.γ (0, 1) + 0) 0])]) (fun H' hg ho => (fun z0 y hz => Ze5 (ZBK z0 w0 w1) hz co g [((0, 0), ⟨0, true, 87, 1, [.ref (0, 2) 0 0 w0.length]⟩), ((0, 1), ⟨0, true, 32, 1, [vL Zat w1]⟩), ((0, 2), o3 w0)] [] hg (by simp) (fun _ => .top) (fun _ _ => trivial) (fun l H => ⟨fun _ => ⟨rfl, by kernel_rfl⟩, by kernel_rfl, ⟨fun _ => ⟨rfl, by kernel_rfl⟩, by kernel_rfl, ⟨fun _ => ⟨rfl, bz⟩, by kernel_rfl, trivial⟩⟩⟩))) (fun H => trivial), fun y3 => id⟩⟩⟩)
abbrev E74 : List Int → AV := fun y => vL ZqK y
section
variable {C : Cx} (p0 : List Fil)
def ZCi : List Int → St := fun r1 => mkS [(1, .ptr (1, 1) 0 0), (3, .ptr (1, 3) 0 0)] [((1, 1), ⟨0, true, 32, 1, [vL Zat p0]⟩), ((1, 3), ⟨0, true, 87, 1, [.ref (1, 1030) 0 0 r1.length]⟩), ((1, 1030), o3 r1)]
def ZKK : List Int → Nat × St := fun r3 => (0, mkS [(3, .ptr (1, 3) 0 0)] [((1, 3), ⟨0, true, 87, 1, [.ref (1, 1030) 0 0 r3.length]⟩), ((1, 1030), o3 r3)])
def Zxq (r1 : List Int) : PT 0 (Lv (List Int) (List Int) (List Int)) := vw .go <| vz (eqN r1.length) <| vw .go <| vz (eqL p0) <| br (decide ((r1.length : Int) < (p0.length : Int))) (vw .go <| cs tp 97 [vL Zat p0, .fn (.func 99) [] [.ptr (1, 3) 0 0, .ptr (1, 1) 0 0]] [(1, 3), (1, 1), (1, 1030)] [((1, 3), ⟨0, true, 87, 1, [.ref (1, 1030) 0 0 r1.length]⟩), ((1, 1), ⟨0, true, 32, 1, [vL Zat p0]⟩), ((1, 1030), o3 r1)] (Zb1 p0 (fun (z0 : Fil) => Zbe z0 r1 p0)) (fun y => vI y) fun y2 => br (decide (y2 < (0 : Int))) (vw .go <| vz (fr r1) <| lrt E74 (fun _ => []) r1) (vw .go <| vw .sep <| ap r1 (y2 : Int) <| vw .go <| vz (fl (r1 ++ [y2])) <| ln (ZCi p0) (r1 ++ [y2]))) (vz (fl r1) <| lxe (ZKK) r1)
def Zpy := fun (r1 : List Int) => (Zxq p0 r1).m
def ZGp (r3 : List Int) : PT 0 (List Int) := vw .go <| vz (fr r3) <| lr E74 (fun _ => []) r3
def ZKO : PT 0 (List Int) := vw (.adc (1, 3) 0 1030 3 1) <| vz (fl ([] : List Int)) <| lc (ZCi p0 ([] : List Int)) ((Zaa (Zpy p0) big ([] : List Int)).bind (Sum.elim (fun r3 => (ZGp r3).m) some))
def ZJD : PT 0 (List Int) := lc (mkS [(1, .ptr (1, 1) 0 0), (3, .ptr (1, 3) 0 0)] [((1, 1), ⟨0, true, 32, 1, [vL Zat p0]⟩), ((1, 3), ⟨0, true, 87, 1, [.e0]⟩)]) ((ZKO p0).m)
def Zd5 (p0 : List Fil) : Option (List Int) := (ZJD p0).m
theorem ZCC (co : CO C 0) : Kl 21 C (pa [0, 0, 0, 1, 1] (Zac Tryz.f74)) [.tmp 2] 0 (ZCi p0) (ZKK) E74 (fun _ => []) (Zpy p0) := fun r1 _ m Q Post hQ L => eN co (lf2 [1, 3] [((1, 1), false), ((1, 3), false), ((1, 1030), true)]) (lf2 [3] [((1, 3), false), ((1, 1030), true)]) hQ m L fun r g => ⟨⟨fun y hy => Zbm (ZOq p0 (fun (z0 : Fil) => Zbe z0 r1 p0)) hy co g [] [((1, 3), ⟨0, true, 87, 1, [.ref (1, 1030) 0 0 r1.length]⟩), ((1, 1), ⟨0, true, 32, 1, [vL Zat p0]⟩), ((1, 1030), o3 r1)] (lkS [(1, .fn (.func 99) [] [.ptr (r.κ (1, 3)) (r.γ (1, 3) + 0) 0, .ptr (r.κ (1, 1)) (r.γ (1, 1) + 0) 0])]) (fun H' hg ho => (fun z0 y hz => Ze5 (ZK0 z0 r1 p0) hz co g [((1, 3), ⟨0, true, 87, 1, [.ref (1, 1030) 0 0 r1.length]⟩), ((1, 1), ⟨0, true, 32, 1, [vL Zat p0]⟩), ((1, 1030), o3 r1)] [] hg (by simp) (fun _ => .top) (fun _ _ => trivial) (fun l H => ⟨fun _ => ⟨rfl, by kernel_rfl⟩, by kernel_rfl, ⟨fun _ => ⟨rfl, by kernel_rfl⟩, by kernel_rfl, ⟨fun _ => ⟨rfl, bz⟩, by kernel_rfl, trivial⟩⟩⟩))) (fun H => trivial), fun y2 => ⟨id, id⟩⟩, id⟩
end
theorem ZQA (p0 : List Fil) : KC tp 74 [vL Zat p0] (Zd5 p0) E74 := kC Tryz.func74 Tryz.ntmps74 [.tmp 2] fun co m L => mK co 2 (lf2 [1, 3] [((1, 1), false), ((1, 3), false)]) m L fun r g _ m L => sq (bk 0 (cM co (lf2 [1, 3] [((1, 1), false), ((1, 3), false), ((1, 1030), true)]) m L fun r g _ m L => lo (lpF (ZCC p0 co) ii m L (fun r3 m => fO co m L))))
section
variable {C : Cx} (co : CO C 0) (p0 : List Fil) (p1 : Int) (e4 : Fil) (r1 : List Int) (r2 : List Bool)
abbrev ZHd := PT 0 (Lv (List Int × List Bool) (Unit) (Bool))
abbrev Zxx : List (Key × Bool) := [((1, 13), true), ((1, 15), true)]
abbrev ZJt : List (Key × Blk) := [((1, 13), o4 r2), ((1, 15), o3 r1)]
abbrev ZLe : List (Nat × AV) := [(0, vL Zat p0), (1, vI p1), (5, .ref (1, 13) 0 0 r2.length), (6, .ref (1, 15) 0 0 r1.length)]
def ZLl : List Int × List Bool → St := fun (r1, r2) => mkS (ZLe p0 p1 r1 r2) (ZJt r1 r2)
def ZHw : Unit → Nat × St := fun _ => (0, mkS [] [])
def ZwU : List Int × Nat × List Bool → St := fun (r5, v6, r7) => mkS [(0, vL Zat p0), (1, vI p1), (5, .ref (1, 13) 0 0 r7.length), (6, .ref (1, 15) 0 0 r5.length), (28, vL Zal e4.imports), (29, vN e4.imports.length), (30, vN v6)] [((1, 13), o4 r7), ((1, 15), o3 r5)]
def ZH5 : List Bool × List Int → Nat × St := fun (r11, r12) => (2, mkS [(0, vL Zat p0), (1, vI p1), (5, .ref (1, 13) 0 0 r11.length), (6, .ref (1, 15) 0 0 r12.length)] [((1, 13), o4 r11), ((1, 15), o3 r12)])
def ZDx (r5 : List Int) (v6 : Nat) (r7 : List Bool) : PT 0 (Lv (List Int × Nat × List Bool) (List Bool × List Int) (Bool)) := br (decide ((v6 : Int) < (e4.imports.length : Int))) (ix e4.imports v6 fun e8 => cl (ZBC p0 e8) fun y9 => br (decide (y9 = p1)) (lrt E49 (fun _ => []) true) (vs (iri y9 r7.length 1) <| ca r7 y9.toNat fun e10 => br (!e10) (vs (iri y9 r7.length 1) <| vs (st r7 y9.toNat true) <| rn 5 13 r7.length (r7.set y9.toNat true) <| vw .sep <| vw .sep <| ap r5 (y9 : Int) <| vs (wa v6 1) <| vz (fl (r7.set y9.toNat true)) <| vz (fl (r5 ++ [y9])) <| ln (ZwU p0 p1 e4) (r5 ++ [y9], v6 + 1, r7.set y9.toNat true)) (vs (wa v6 1) <| vz (fl r7) <| vz (fl r5) <| ln (ZwU p0 p1 e4) (r5, v6 + 1, r7)))) (vz (fl r7) <| vz (fl r5) <| lxe (ZH5 p0 p1) (r7, r5))
def Zln := fun ((r5, v6, r7) : List Int × Nat × List Bool) => (ZDx p0 p1 e4 r5 v6 r7).m
def ZCY : ZHd := vs (ir 0 r1.length 1) <| ca r1 0 fun e3 => ixi p0 e3 fun e4 => vw .go <| sR r1.length 0 (.nt 1) .no <| rb 6 15 (r1.length - 1) r1 (0 + 1) <| vw .sep <| vw .go <| vz (eqL e4.imports) <| vz (fl r2) <| vz (fl (r1.drop (0 + 1))) <| lc (ZwU p0 p1 e4 (r1.drop (0 + 1), 0, r2)) ((Zaa (Zln p0 p1 e4) big (r1.drop (0 + 1), 0, r2)).bind (Sum.elim (fun (r11, r12) => some (.nx (r12, r11))) (fun z => some (.rt z))))
def ZAq : ZHd := vz (eqN r1.length) <| br (decide ((0 : Int) < (r1.length : Int))) (vz (fl r2) <| vz (fl r1) <| lc (mkS (ZLe p0 p1 r1 r2) (ZJt r1 r2)) ((ZCY p0 p1 r1 r2).m)) (lxe (ZHw) ())
def ZpZ := fun ((r1, r2) : List Int × List Bool) => (ZAq p0 p1 r1 r2).m
def ZGX : PT 0 (Bool) := lr E49 (fun _ => []) false
def ZG1 : PT 0 (Bool) := vz (eqL p0) <| ms p0.length false [vB false] (by first | rfl | kernel_rfl) <| vw .go <| vz (fl (List.replicate p0.length false)) <| vz (fl ([p1] : List Int)) <| lc (ZLl p0 p1 (([p1] : List Int), List.replicate p0.length false)) ((Zaa (ZpZ p0 p1) big (([p1] : List Int), List.replicate p0.length false)).bind (Sum.elim (fun _ => (ZGX).m) some))
def Zc3 (p0 : List Fil) (p1 : Int) : Option (Bool) := (ZG1 p0 p1).m
section
include co
theorem ZCs : Kl 53 C (pa [0, 0, 1, 1, 1, 0, 1, 0, 0, 0, 1, 1, 1] (Zac Tryz.f75)) [.tmp 4] 0 (ZwU p0 p1 e4) (ZH5 p0 p1) E49 (fun _ => []) (Zln p0 p1 e4) := fun (r5, v6, r7) _ m Q Post hQ L => eN co (lf2 [0, 1, 5, 6, 28, 29, 30] Zxx) (lf2 [0, 1, 5, 6] Zxx) hQ m L
theorem ZBV : Kl 53 C (pa [0, 0, 0, 1, 1, 1] (Zac Tryz.f75)) [.tmp 4] 0 (ZLl p0 p1) (ZHw) E49 (fun _ => []) (ZpZ p0 p1) := fun (r1, r2) _ m Q Post hQ L => mJ co 1 (lf2 [0, 1, 5, 6] Zxx) nl hQ m L fun r g => ⟨fun _ m L => bk 1 (mJ co 3 (lf2 [0, 1, 5, 6, 28, 29, 30] Zxx) nl hQ m L fun r g e3 e4 _ m L => bk 2 (lo (lpL (ZCs co p0 p1 e4) hQ m L (fun (r11, r12) m => by cases m; exact L)))), id⟩
end
end
theorem ZPs (p0 : List Fil) (p1 : Int) : KC tp 75 [vL Zat p0, vI p1] (Zc3 p0 p1) E49 := kC Tryz.func75 Tryz.ntmps75 [.tmp 4] fun co m L => mK co 3 (lf2 [0, 1, 5, 6] [((1, 13), true), ((1, 15), true)]) m L fun r g _ m L => sq (bk 0 (lo (lpF (ZBV co p0 p1) ii m L (fun _ m => fO co m L))))
abbrev E32 : List Int × Bt × Int → AV := fun y => .tup [vL ZqK y.1, vS y.2.1, vI y.2.2]
section
variable {C : Cx} (co : CO C 0) (p0 : List Fil) (v4 : Nat) (e5 : Fil)
abbrev ZpV := PT 0 (Lv (Nat) (Unit) (List Int × Bt × Int))
abbrev Zp2 := PT 0 (List Int × Bt × Int)
abbrev ZAR : List (Nat × AV) := [(0, vL Zat p0), (38, vL Zat p0), (39, vN p0.length), (40, vN v4)]
def ZBn : Nat → St := fun v1 => mkS [(0, vL Zat p0), (22, vL Zat p0), (23, vN p0.length), (24, vN v1)] []
def ZKm : Unit → Nat × St := fun _ => (0, mkS [(0, vL Zat p0)] [])
def ZET (v1 : Nat) : ZpV := br (decide ((v1 : Int) < (p0.length : Int))) (ix p0 v1 fun e2 => vw .go <| vw .go <| cl (ZBC p0 e2.name) fun y3 => br (decide (y3 < (v1 : Int))) (vw .go <| lrt E32 (fun _ => []) ([], e2.name, 9)) (vs (wa v1 1) <| ln (ZBn p0) (v1 + 1))) (lxe (ZKm p0) ())
def ZpB := fun (v1 : Nat) => (ZET p0 v1).m
def ZCK : Nat → St := fun v4 => mkS (ZAR p0 v4) []
def ZKu : Unit → Nat × St := fun _ => (2, mkS [(0, vL Zat p0)] [])
def ZAy : Nat → St := fun v6 => mkS [(0, vL Zat p0), (8, .ptr (1, 8) 0 0), (38, vL Zat p0), (39, vN p0.length), (40, vN v4), (45, vL Zal e5.imports), (46, vN e5.imports.length), (47, vN v6)] [((1, 8), ⟨0, true, 86, 6, [vS e5.name, vS e5.space, vL Zal e5.imports, vL ZaC e5.messages, vL Zan e5.enums, vL ZaG e5.services]⟩)]
def ZIj : Unit → Nat × St := fun _ => (4, mkS (ZAR p0 v4) [])
def ZDp (v6 : Nat) : ZpV := br (decide ((v6 : Int) < (e5.imports.length : Int))) (ix e5.imports v6 fun e7 => cl (ZBC p0 e7) fun y8 => br (decide (y8 < (0 : Int))) (vw .go <| lrt E32 (fun _ => []) ([], e5.name, 10)) (vs (wa v6 1) <| ln (ZAy p0 v4 e5) (v6 + 1))) (lxe (ZIj p0 v4) ())
def ZrM := fun (v6 : Nat) => (ZDp p0 v4 e5 v6).m
def ZCf : ZpV := vs (wa v4 1) <| ln (ZCK p0) (v4 + 1)
def ZAZ : ZpV := ix p0 v4 fun e5 => vw .go <| vw .go <| vz (eqL e5.imports) <| lc (ZAy p0 v4 e5 0) ((Zaa (ZrM p0 v4 e5) big 0).bind (Sum.elim (fun _ => (ZCf p0 v4).m) (fun z => some (.rt z))))
def ZCz : ZpV := br (decide ((v4 : Int) < (p0.length : Int))) (lc (mkS (ZAR p0 v4) []) ((ZAZ p0 v4).m)) (lxe (ZKu p0) ())
def ZoV := fun (v4 : Nat) => (ZCz p0 v4).m
def ZEG : Nat → St := fun v10 => mkS [(0, vL Zat p0), (67, vL Zat p0), (68, vN p0.length), (69, vN v10)] []
def ZGv : Unit → Nat × St := fun _ => (6, mkS [] [])
def ZD7 (v10 : Nat) : ZpV := br (decide ((v10 : Int) < (p0.length : Int))) (ix p0 v10 fun e11 => vw .go <| cl (ZPs p0 (v10 : Int)) fun y12 => br y12 (vw .go <| lrt E32 (fun _ => []) ([], e11.name, 19)) (vs (wa v10 1) <| ln (ZEG p0) (v10 + 1))) (lxe (ZGv) ())
def Zpj := fun (v10 : Nat) => (ZD7 p0 v10).m
def ZDb : Zp2 := lr E32 (fun _ => []) ([], ⟨#[]⟩, 19)
def ZB8 : Zp2 := vz (eqL p0) <| lc (ZEG p0 0) ((Zaa (Zpj p0) big 0).bind (Sum.elim (fun _ => (ZDb).m) some))
def ZA6 : Zp2 := cl (ZQA p0) fun y9 => vz (eqL y9) <| vz (eqL p0) <| br (decide ((y9.length : Int) = (p0.length : Int))) (lr E32 (fun _ => []) (y9, ⟨#[]⟩, 0)) (lc (mkS [(0, vL Zat p0)] []) ((ZB8 p0).m))
def Ztv : Zp2 := vz (eqL p0) <| lc (ZCK p0 0) ((Zaa (ZoV p0) big 0).bind (Sum.elim (fun _ => (ZA6 p0).m) some))
def Zuc : Zp2 := vz (eqL p0) <| lc (ZBn p0 0) ((Zaa (ZpB p0) big 0).bind (Sum.elim (fun _ => (Ztv p0).m) some))
def Zs3 : Zp2 := vz (eqL p0) <| vy (!(decide ((p0.length : Int) < (1 : Int)))) (eqL p0) <| br (decide ((p0.length : Int) < (1 : Int)) || decide ((16 : Int) < (p0.length : Int))) (lr E32 (fun _ => []) ([], ⟨#[]⟩, 3)) (lc (mkS [(0, vL Zat p0)] []) ((Zuc p0).m))
def ZeI (p0 : List Fil) : Option (List Int × Bt × Int) := (Zs3 p0).m
section
include co
theorem ZDI : Kl 80 C (pa [0, 0, 1, 0, 1, 1] (Zac Tryz.f32)) [.tmp 2, .tmp 3, .tmp 4] 0 (ZBn p0) (ZKm p0) E32 (fun _ => []) (ZpB p0) := fun v1 _ m Q Post hQ L => eN co (lf1 [0, 22, 23, 24]) (lf1 [0]) hQ m L
theorem ZA8 : Kl 80 C (pa [0, 0, 1, 1, 0, 0, 1, 1, 0, 0, 1, 0, 1, 1, 1] (Zac Tryz.f32)) [.tmp 2, .tmp 3, .tmp 4] 0 (ZAy p0 v4 e5) (ZIj p0 v4) E32 (fun _ => []) (ZrM p0 v4 e5) := fun v6 _ m Q Post hQ L => eN co (lf2 [0, 8, 38, 39, 40, 45, 46, 47] [((1, 8), false)]) (lf1 [0, 38, 39, 40]) hQ m L
theorem ZEB : Kl 80 C (pa [0, 0, 1, 0, 1, 1, 1] (Zac Tryz.f32)) [.tmp 2, .tmp 3, .tmp 4] 0 (ZCK p0) (ZKu p0) E32 (fun _ => []) (ZoV p0) := fun v4 _ m Q Post hQ L => mJ co 2 (lf1 [0, 38, 39, 40]) (lf1 [0]) hQ m L fun r g => ⟨fun _ m L => sq (bk 3 (mJ co 2 (lf2 [0, 8, 38, 39, 40, 45, 46, 47] [((1, 8), false)]) nl hQ m L fun r g e5 _ m L => bk 4 (lo (lpL (ZA8 co p0 v4 e5) hQ m L (fun _ m => eN co (lf1 [0, 38, 39, 40]) nl hQ m L))))), id⟩
theorem ZCm : Kl 80 C (pa [0, 0, 1, 0, 1, 1, 1, 1, 1, 1] (Zac Tryz.f32)) [.tmp 2, .tmp 3, .tmp 4] 0 (ZEG p0) (ZGv) E32 (fun _ => []) (Zpj p0) := fun v10 _ m Q Post hQ L => eN co (lf1 [0, 67, 68, 69]) nl hQ m L
end
end
theorem ZQ5 (p0 : List Fil) : KC tp 32 [vL Zat p0] (ZeI p0) E32 := kC Tryz.func32 Tryz.ntmps32 [.tmp 2, .tmp 3, .tmp 4] fun co m L => mK co 2 (lf1 [0]) m L fun r g => ⟨id, fun _ m L => sq (mK co 1 (lf1 [0, 22, 23, 24]) m L fun r g _ m L => bk 0 (lo (lpF (ZDI co p0) ii m L (fun _ m => sq (mK co 1 (lf1 [0, 38, 39, 40]) m L fun r g _ m L => bk 2 (lo (lpF (ZEB co p0) ii m L (fun _ m => mK co 2 (lf1 [0]) m L fun r g y9 => ⟨id, fun _ m L => sq (mK co 1 (lf1 [0, 67, 68, 69]) m L fun r g _ m L => bk 6 (lo (lpF (ZCm co p0) ii m L (fun _ m => fO co m L))))⟩))))))))⟩
def ZGQ (p0 : Bt) (p1 : Bt) : PT 0 (Bt) := br (decide (p0 = (⟨#[]⟩ : Bt))) (lr E14 (fun _ => []) p1) (ad p0 (⟨#[46]⟩ : Bt) fun s1 => ad s1 p1 fun s2 => lr E14 (fun _ => []) s2)
def ZeF (p0 : Bt) (p1 : Bt) : Option (Bt) := (ZGQ p0 p1).m
theorem ZCr (p0 : Bt) (p1 : Bt) : KC tp 35 [vS p0, vS p1] (ZeF p0 p1) E14 := kC Tryz.func35 Tryz.ntmps35 [.tmp 4] fun co m L => fO co m L
abbrev E34 : List Bt × List Bt × List Bt → AV := fun y => .tup [vL Zal y.1, vL Zal y.2.1, vL Zal y.2.2]
section
variable {C : Cx} (co : CO C 0) (p0 : Fil) (r5 r10 : List Bt)
abbrev Zku := PT 0 (List Bt × List Bt × List Bt)
abbrev ZiZ : Blk := ⟨0, true, 86, 6, [vS p0.name, vS p0.space, vL Zal p0.imports, vL ZaC p0.messages, vL Zan p0.enums, vL ZaG p0.services]⟩
abbrev ZlN : Blk := o9 r5
abbrev ZvR : Blk := o9 r10
abbrev Zpr (t : List (Nat × AV)) : List (Nat × AV) := (1, .ptr (1, 1) 0 0) :: (2, .ref (1, 2) 0 0 r5.length) :: t
def ZEi : List Bt × Nat → St := fun (r1, v2) => mkS [(1, .ptr (1, 1) 0 0), (2, .ref (1, 2) 0 0 r1.length), (3, .e0), (4, .e0), (12, vL ZaC p0.messages), (13, vN p0.messages.length), (14, vN v2)] [((1, 1), (ZiZ p0)), ((1, 2), o9 r1)]
def ZFX : List Bt → Nat × St := fun r5 => (0, mkS (Zpr r5 [(3, .e0), (4, .e0)]) [((1, 1), (ZiZ p0)), ((1, 2), (ZlN r5))])
def ZDD (r1 : List Bt) (v2 : Nat) : PT 0 (Lv (List Bt × Nat) (List Bt) (List Bt × List Bt × List Bt)) := br (decide ((v2 : Int) < (p0.messages.length : Int))) (ix p0.messages v2 fun e3 => vw .go <| vw .go <| vw .go <| cl (ZCr p0.space e3.name) fun y4 => vw .sep <| ap r1 (y4 : Bt) <| vs (wa v2 1) <| vz (fl (r1 ++ [y4])) <| ln (ZEi p0) (r1 ++ [y4], v2 + 1)) (vz (fl r1) <| lxe (ZFX p0) r1)
def Zs7 := fun ((r1, v2) : List Bt × Nat) => (ZDD p0 r1 v2).m
def ZBH : List Bt × Nat → St := fun (r6, v7) => mkS (Zpr r5 [(3, .ref (1, 3) 0 0 r6.length), (4, .e0), (28, vL Zan p0.enums), (29, vN p0.enums.length), (30, vN v7)]) [((1, 1), (ZiZ p0)), ((1, 2), (ZlN r5)), ((1, 3), o9 r6)]
def ZJf : List Bt → Nat × St := fun r10 => (2, mkS (Zpr r5 [(3, .ref (1, 3) 0 0 r10.length), (4, .e0)]) [((1, 1), (ZiZ p0)), ((1, 2), (ZlN r5)), ((1, 3), (ZvR r10))])
def ZDK (r6 : List Bt) (v7 : Nat) : PT 0 (Lv (List Bt × Nat) (List Bt) (List Bt × List Bt × List Bt)) := br (decide ((v7 : Int) < (p0.enums.length : Int))) (ix p0.enums v7 fun e8 => vw .go <| vw .go <| vw .go <| cl (ZCr p0.space e8.name) fun y9 => vw .sep <| ap r6 (y9 : Bt) <| vs (wa v7 1) <| vz (fl r5) <| vz (fl (r6 ++ [y9])) <| ln (ZBH p0 r5) (r6 ++ [y9], v7 + 1)) (vz (fl r5) <| vz (fl r6) <| lxe (ZJf p0 r5) r6)
def Zug := fun ((r6, v7) : List Bt × Nat) => (ZDK p0 r5 r6 v7).m
def ZAQ : List Bt × Nat → St := fun (r11, v12) => mkS (Zpr r5 [(3, .ref (1, 3) 0 0 r10.length), (4, .ref (1, 4) 0 0 r11.length), (44, vL ZaG p0.services), (45, vN p0.services.length), (46, vN v12)]) [((1, 1), (ZiZ p0)), ((1, 2), (ZlN r5)), ((1, 3), (ZvR r10)), ((1, 4), o9 r11)]
def ZKr : List Bt → Nat × St := fun r15 => (4, mkS [(2, .ref (1, 2) 0 0 r5.length), (3, .ref (1, 3) 0 0 r10.length), (4, .ref (1, 4) 0 0 r15.length)] [((1, 2), (ZlN r5)), ((1, 3), (ZvR r10)), ((1, 4), o9 r15)])
def ZBO (r11 : List Bt) (v12 : Nat) : PT 0 (Lv (List Bt × Nat) (List Bt) (List Bt × List Bt × List Bt)) := br (decide ((v12 : Int) < (p0.services.length : Int))) (ix p0.services v12 fun e13 => vw .go <| vw .go <| vw .go <| cl (ZCr p0.space e13.name) fun y14 => vw .sep <| ap r11 (y14 : Bt) <| vs (wa v12 1) <| vz (fl r5) <| vz (fl r10) <| vz (fl (r11 ++ [y14])) <| ln (ZAQ p0 r5 r10) (r11 ++ [y14], v12 + 1)) (vz (fl r5) <| vz (fl r10) <| vz (fl r11) <| lxe (ZKr r5 r10) r11)
def Zqu := fun ((r11, v12) : List Bt × Nat) => (ZBO p0 r5 r10 r11 v12).m
def ZGJ (r15 : List Bt) : Zku := vz (fr r5) <| vz (fr r10) <| vz (fr r15) <| lr E34 (fun _ => []) (r5, r10, r15)
def ZI0 : Zku := vw (.ads 4 4 9 1) <| vz (fl r5) <| vz (fl r10) <| vz (fl ([] : List Bt)) <| lc (ZAQ p0 r5 r10 (([] : List Bt), 0)) ((Zaa (Zqu p0 r5 r10) big (([] : List Bt), 0)).bind (Sum.elim (fun r15 => (ZGJ r5 r10 r15).m) some))
def ZF7 : Zku := vw .go <| vz (eqL p0.services) <| vz (fl r5) <| vz (fl r10) <| lc (mkS (Zpr r5 [(3, .ref (1, 3) 0 0 r10.length), (4, .e0), (44, vL ZaG p0.services), (45, vN p0.services.length), (46, vI 0)]) [((1, 1), (ZiZ p0)), ((1, 2), (ZlN r5)), ((1, 3), (ZvR r10))]) ((ZI0 p0 r5 r10).m)
def ZLj : Zku := vw (.ads 3 3 9 1) <| vz (fl r5) <| vz (fl ([] : List Bt)) <| lc (ZBH p0 r5 (([] : List Bt), 0)) ((Zaa (Zug p0 r5) big (([] : List Bt), 0)).bind (Sum.elim (fun r10 => (ZF7 p0 r5 r10).m) some))
def ZF5 : Zku := vw .go <| vz (eqL p0.enums) <| vz (fl r5) <| lc (mkS (Zpr r5 [(3, .e0), (4, .e0), (28, vL Zan p0.enums), (29, vN p0.enums.length), (30, vI 0)]) [((1, 1), (ZiZ p0)), ((1, 2), (ZlN r5))]) ((ZLj p0 r5).m)
def ZLv : Zku := vw (.ads 2 2 9 1) <| vz (fl ([] : List Bt)) <| lc (ZEi p0 (([] : List Bt), 0)) ((Zaa (Zs7 p0) big (([] : List Bt), 0)).bind (Sum.elim (fun r5 => (ZF5 p0 r5).m) some))
def ZzK : Zku := vw .go <| vz (eqL p0.messages) <| lc (mkS [(1, .ptr (1, 1) 0 0), (2, .e0), (3, .e0), (4, .e0), (12, vL ZaC p0.messages), (13, vN p0.messages.length), (14, vI 0)] [((1, 1), (ZiZ p0))]) ((ZLv p0).m)
def Zy0 : Zku := lc (mkS [(1, .ptr (1, 1) 0 0), (2, .e0), (3, .e0), (4, .e0)] [((1, 1), (ZiZ p0))]) ((ZzK p0).m)
def ZfW (p0 : Fil) : Option (List Bt × List Bt × List Bt) := (Zy0 p0).m
section
include co
theorem ZA9 : Kl 62 C (pa [0, 0, 1, 0, 1] (Zac Tryz.f34)) [.tmp 2, .tmp 3, .tmp 4] 0 (ZEi p0) (ZFX p0) E34 (fun _ => []) (Zs7 p0) := fun (r1, v2) _ m Q Post hQ L => eN co (lf2 [1, 2, 3, 4, 12, 13, 14] [((1, 1), false), ((1, 2), true)]) (lf2 [1, 2, 3, 4] [((1, 1), false), ((1, 2), true)]) hQ m L
theorem ZAi : Kl 62 C (pa [0, 0, 1, 0, 1, 1] (Zac Tryz.f34)) [.tmp 2, .tmp 3, .tmp 4] 0 (ZBH p0 r5) (ZJf p0 r5) E34 (fun _ => []) (Zug p0 r5) := fun (r6, v7) _ m Q Post hQ L => eN co (lf2 [1, 2, 3, 4, 28, 29, 30] [((1, 1), false), ((1, 2), true), ((1, 3), true)]) (lf2 [1, 2, 3, 4] [((1, 1), false), ((1, 2), true), ((1, 3), true)]) hQ m L
theorem ZAu : Kl 62 C (pa [0, 0, 1, 0, 1, 1, 1] (Zac Tryz.f34)) [.tmp 2, .tmp 3, .tmp 4] 0 (ZAQ p0 r5 r10) (ZKr r5 r10) E34 (fun _ => []) (Zqu p0 r5 r10) := fun (r11, v12) _ m Q Post hQ L => eN co (lf2 [1, 2, 3, 4, 44, 45, 46] [((1, 1), false), ((1, 2), true), ((1, 3), true), ((1, 4), true)]) (lf2 [2, 3, 4] [((1, 2), true), ((1, 3), true), ((1, 4), true)]) hQ m L
end
end
theorem ZHm (p0 : Fil) : KC tp 34 [.agg ((Zat p0).map .d)] (ZfW p0) E34 := kC Tryz.func34 Tryz.ntmps34 [.tmp 2, .tmp 3, .tmp 4] fun co m L => mK co 1 (lf2 [1, 2, 3, 4] [((1, 1), false)]) m L fun r g _ m L => sq (mK co 1 (lf2 [1, 2, 3, 4, 12, 13, 14] [((1, 1), false)]) m L fun r g _ m L => bk 0 (cM co (lf2 [1, 2, 3, 4, 12, 13, 14] [((1, 1), false), ((1, 2), true)]) m L fun r g _ m L => lo (lpF (ZA9 co p0) ii m L (fun r5 m => sq (mK co 1 (lf2 [1, 2, 3, 4, 28, 29, 30] [((1, 1), false), ((1, 2), true)]) m L fun r g _ m L => bk 2 (cM co (lf2 [1, 2, 3, 4, 28, 29, 30] [((1, 1), false), ((1, 2), true), ((1, 3), true)]) m L fun r g _ m L => lo (lpF (ZAi co p0 r5) ii m L (fun r10 m => sq (mK co 1 (lf2 [1, 2, 3, 4, 44, 45, 46] [((1, 1), false), ((1, 2), true), ((1, 3), true)]) m L fun r g _ m L => bk 4 (cM co (lf2 [1, 2, 3, 4, 44, 45, 46] [((1, 1), false), ((1, 2), true), ((1, 3), true), ((1, 4), true)]) m L fun r g _ m L => lo (lpF (ZAu co p0 r5 r10) ii m L (fun r15 m => fO co m L))))))))))))
def ZKJ : Go.Shelf.Ren := ⟨fun | 4 => 81 | n => n, fun | 22 => 36 | 25 => 9 | n => n, fun n => n⟩
theorem ZD3 : Go.Proofs.Lays8.n4 tp ZKJ := {
 mixed := by kernel_rfl,
 f4 := ⟨Tryz.f81.name, by decide +kernel, Tryz.func81.trans (congrArg some (by kernel_rfl))⟩,
 t0 := Tryz.underlying0,
 a0 := Tryz.isAgg0,
 z0 := Tryz.sizeOf0,
 v0 := Tryz.zeroValue0,
 t3 := Tryz.underlying3,
 a3 := Tryz.isAgg3,
 z3 := Tryz.sizeOf3,
 v3 := Tryz.zeroValue3,
 t4 := Tryz.underlying4,
 a4 := Tryz.isAgg4,
 z4 := Tryz.sizeOf4,
 v4 := Tryz.zeroValue4,
 t9 := Tryz.underlying9,
 a9 := Tryz.isAgg9,
 z9 := Tryz.sizeOf9,
 v9 := Tryz.zeroValue9,
 t20 := Tryz.underlying20,
 a20 := Tryz.isAgg20,
 z20 := Tryz.sizeOf20,
 v20 := Tryz.zeroValue20,
 t22 := Tryz.underlying36,
 a22 := Tryz.isAgg36,
 z22 := Tryz.sizeOf36,
 v22 := Tryz.zeroValue36 }
abbrev E81 : List Bt → AV := fun y => .ref (0, 0) 1 0 y.length
@[reducible] def G81 : List Bt → List Blk := fun y => [u9 y]
def Zf1 (n : Nat) : Option (List Bt) := if n < 549755813888 then some [] else none
theorem ZQQ (n : Nat) : KO tp 81 1 [.e0, vN n] [⟨0, false, 0, 0, []⟩] ct (Zf1 n) E81 G81 := ⟨fun l H ks gs θ hks hlow hnd hH _ y hy => by
 obtain ⟨h0, hy⟩ := Zas hy
 cases hy
 match ks, hks with
 | [k0], _ =>
  have hi : ∃ i0 z, (Tryz.prog).info? 9 = some i0 ∧ i0.zero = some z ∧ i0.size = 1 ∧ z.cells.size = i0.size ∧ i0.bytes ≤ 256 := ⟨_, _, rfl, rfl, rfl, by decide +kernel, by decide +kernel⟩
  obtain ⟨i0, z, h1, h2, h3, h4, h5⟩ := hi
  exact ZpJ ZD3 i0 z h1 h2 (by rw [h3]; decide) h4 h5 ⟨_, Zac Tryz.f81, Tryz.func81, by kernel_rfl, by kernel_rfl⟩ hlow.1 hH.1.1 n h0 (by rw [h3]; exact ⟨rfl, rfl⟩)⟩
section
variable {C : Cx} (co : CO C 1) (p0 : List (List Bt)) (y5 : List Bt)
abbrev ZpM := PT 1 (List Bt)
def ZD1 : Nat × Nat → St := fun (v1, v2) => mkS [(0, vL ZdK p0), (3, vN v1), (9, vL ZdK p0), (10, vN p0.length), (11, vN v2)] []
def ZHc : Nat → Nat × St := fun v4 => (0, mkS [(0, vL ZdK p0), (3, vN v4)] [])
def ZA5 (v1 : Nat) (v2 : Nat) : PT 1 (Lv (Nat × Nat) (Nat) (List Bt)) := br (decide ((v2 : Int) < (p0.length : Int))) (ix p0 v2 fun e3 => vz (eqL e3) <| vs (wa v1 e3.length) <| br (decide (((v1 + e3.length : Nat) : Int) < (0 : Int))) (dd) (vs (wa v2 1) <| ln (ZD1 p0) (v1 + e3.length, v2 + 1))) (lxe (ZHc p0) v1)
def ZqF := fun ((v1, v2) : Nat × Nat) => (ZA5 p0 v1 v2).m
def ZCG : List Bt × Nat → St := fun (r6, v7) => mkS [(6, .ref (1, 24) 0 0 r6.length), (25, vL ZdK p0), (26, vN p0.length), (27, vN v7)] [((1, 24), o9 r6)]
def ZJ3 : List Bt → Nat × St := fun r9 => (2, mkS [(6, .ref (1, 24) 0 0 r9.length)] [((1, 24), o9 r9)])
def ZAO (r6 : List Bt) (v7 : Nat) : PT 1 (Lv (List Bt × Nat) (List Bt) (List Bt)) := br (decide ((v7 : Int) < (p0.length : Int))) (ix p0 v7 fun e8 => aq r6 e8 <| vs (wa v7 1) <| vz (fl (r6 ++ e8)) <| ln (ZCG p0) (r6 ++ e8, v7 + 1)) (vz (fl r6) <| lxe (ZJ3) r6)
def Zuh := fun ((r6, v7) : List Bt × Nat) => (ZAO p0 r6 v7).m
def ZKZ (r9 : List Bt) : ZpM := vw .sep <| mv 24 0 r9 <| lr E81 (G81) r9
def ZKW : ZpM := vz (eqL p0) <| vz (fl y5) <| lc (ZCG p0 (y5, 0)) ((Zaa (Zuh p0) big (y5, 0)).bind (Sum.elim (fun r9 => (ZKZ r9).m) some))
def ZHK : ZpM := vz (fl y5) <| lc (mkS [(0, vL ZdK p0), (6, .ref (1, 24) 0 0 y5.length)] [((1, 24), o9 y5)]) ((ZKW p0 y5).m)
def ZKB (v4 : Nat) : ZpM := lc (mkS [(0, vL ZdK p0), (23, vN v4)] []) ((Zf1 v4).bind fun y5 => (ZHK p0 y5).m)
def ZK2 : ZpM := vz (eqL p0) <| lc (ZD1 p0 (0, 0)) ((Zaa (ZqF p0) big (0, 0)).bind (Sum.elim (fun v4 => (ZKB p0 v4).m) some))
def ZGD : ZpM := lc (mkS [(0, vL ZdK p0), (3, vI 0)] []) ((ZK2 p0).m)
def Zay (p0 : List (List Bt)) : Option (List Bt) := (ZGD p0).m
section
include co
theorem ZE4 : Kl 36 C (pa [0, 0, 1, 0, 1, 1] (Zac Tryz.f40)) [.tmp 2] 1 (ZD1 p0) (ZHc p0) E81 (G81) (ZqF p0) := fun (v1, v2) _ m Q Post hQ L => eN co (lf1 [0, 3, 9, 10, 11]) (lf1 [0, 3]) hQ m L fun r g => ⟨fun e3 => ⟨trivial, id⟩, id⟩
theorem ZCt : Kl 36 C (pa [0, 0, 1, 0, 1, 1, 1, 1] (Zac Tryz.f40)) [.tmp 2] 1 (ZCG p0) (ZJ3) E81 (G81) (Zuh p0) := fun (r6, v7) _ m Q Post hQ L => eN co (lf2 [6, 25, 26, 27] [((1, 24), true)]) (lf2 [6] [((1, 24), true)]) hQ m L
end
end
theorem ZLN (p0 : List (List Bt)) : KO tp 40 1 [vL ZdK p0] [⟨0, false, 0, 0, []⟩] ct (Zay p0) E81 (G81) := kO Tryz.func40 Tryz.ntmps40 [.tmp 2] 1 (fun co hT m L => mK co 2 (lf1 [0, 3]) m L fun r g _ m L => sq (mK co 1 (lf1 [0, 3, 9, 10, 11]) m L fun r g _ m L => bk 0 (lo (lpF (ZE4 co p0) ii m L (fun v4 m => sq (rg (pR co 1 (lf1 [0, 23]) m L fun r g _ m L => c6 co m (ZQQ v4) [((1, 24), ⟨0, false, 0, 0, []⟩)] [] (fun z => .ref (1, 24) 1 0 z.length) (fun z => [((1, 24), u9 z)]) [] fun y5 m => eR co (lf2 [0, 6] [((1, 24), true)]) m L fun r g _ m L => sq (mK co 1 (lf2 [6, 25, 26, 27] [((1, 24), true)]) m L fun r g _ m L => bk 2 (lo (lpF (ZCt co p0) ii m L (fun r9 m => fO co m L)))))))))))
section
variable {C : Cx} (p0 : List Bt) (p1 : Bt)
def ZqC : Nat → St := fun v1 => mkS [(0, vL Zal p0), (1, vS p1), (7, vN p0.length), (8, vN v1)] []
def Zyh : Unit → Nat × St := fun _ => (0, mkS [] [])
def ZsK (v1 : Nat) : PT 0 (Lv (Nat) (Unit) (Int)) := br (decide ((v1 : Int) < (p0.length : Int))) (ix p0 v1 fun e2 => br (decide (p1 = e2)) (lrt E47 (fun _ => []) (v1 : Int)) (vs (wa v1 1) <| ln (ZqC p0 p1) (v1 + 1))) (lxe (Zyh) ())
def Zm6 := fun (v1 : Nat) => (ZsK p0 p1 v1).m
def ZzP : PT 0 (Int) := lr E47 (fun _ => []) (-1)
def Zzp : PT 0 (Int) := vz (eqL p0) <| lc (ZqC p0 p1 0) ((Zaa (Zm6 p0 p1) big 0).bind (Sum.elim (fun _ => (ZzP).m) some))
def Zx8 : PT 0 (Int) := lc (mkS [(0, vL Zal p0), (1, vS p1)] []) ((Zzp p0 p1).m)
def ZdN (p0 : List Bt) (p1 : Bt) : Option (Int) := (Zx8 p0 p1).m
theorem Zvi (co : CO C 0) : Kl 19 C (pa [0, 0, 1, 0, 1] (Zac Tryz.f103)) [.tmp 4] 0 (ZqC p0 p1) (Zyh) E47 (fun _ => []) (Zm6 p0 p1) := fun v1 _ m Q Post hQ L => eN co (lf1 [0, 1, 7, 8]) nl hQ m L
end
theorem ZNS (p0 : List Bt) (p1 : Bt) : KC tp 103 [vL Zal p0, vS p1] (ZdN p0 p1) E47 := kC Tryz.func103 Tryz.ntmps103 [.tmp 4] fun co m L => mK co 1 (lf1 [0, 1]) m L fun r g _ m L => sq (mK co 1 (lf1 [0, 1, 7, 8]) m L fun r g _ m L => bk 0 (lo (lpF (Zvi p0 p1 co) ii m L (fun _ m => fO co m L))))
def ZH4 (p0 : List Bt) (p1 : Bt) : PT 0 (Bool) := cl (ZNS p0 p1) fun y1 => lr E49 (fun _ => []) (decide ((0 : Int) ≤ y1))
def ZaT (p0 : List Bt) (p1 : Bt) : Option (Bool) := (ZH4 p0 p1).m
theorem ZHX (p0 : List Bt) (p1 : Bt) : KC tp 76 [vL Zal p0, vS p1] (ZaT p0 p1) E49 := kC Tryz.func76 Tryz.ntmps76 [.tmp 4] fun co m L => fO co m L
abbrev E33 : Bt × Int → AV := fun y => .tup [vS y.1, vI y.2]
section
variable {C : Cx} (co : CO C 0) (p0 : List Fil) (r1 : List Bt) (v2 v3 v4 v5 : Nat) (y7 : List Bt × List Bt × List Bt) (y8 r12 : List Bt)
abbrev Zs2 := PT 0 (Lv (List Bt × Nat × Nat × Nat × Nat) (Nat × Nat × Nat × List Bt) (Bt × Int))
abbrev Zmz := PT 0 (Bt × Int)
abbrev ZxF : List (Key × Blk) := [((1, 4), o9 r1)]
abbrev ZJ9 : List (Nat × AV) := [(4, .ref (1, 4) 0 0 r1.length), (5, vN v2), (6, vN v3), (7, vN v4), (15, vL Zat p0), (16, vN p0.length), (17, vN v5)]
abbrev ZFq : List (Key × Blk) := [((1, 4), o9 r12)]
def ZAA : List Bt × Nat × Nat × Nat × Nat → St := fun (r1, v2, v3, v4, v5) => mkS (ZJ9 p0 r1 v2 v3 v4 v5) (ZxF r1)
def ZLw : Nat × Nat × Nat × List Bt → Nat × St := fun (v9, v10, v11, r12) => (0, mkS [(4, .ref (1, 4) 0 0 r12.length), (5, vN v9), (6, vN v10), (7, vN v11)] (ZFq r12))
def ZBo : Zs2 := vs (wa v5 1) <| vz (fl (r1 ++ y8)) <| ln (ZAA p0) (r1 ++ y8, v2 + y7.1.length, v3 + y7.2.1.length, v4 + y7.2.2.length, v5 + 1)
def ZFl : Zs2 := ar r1 y8 (1, 44) 1 <| vz (fl (r1 ++ y8)) <| lc (mkS [(4, .ref (1, 4) 0 0 (r1 ++ y8).length), (5, vN (v2 + y7.1.length)), (6, vN (v3 + y7.2.1.length)), (7, vN (v4 + y7.2.2.length)), (15, vL Zat p0), (16, vN p0.length), (17, vN v5)] [((1, 4), o9 (r1 ++ y8))]) ((ZBo p0 r1 v2 v3 v4 v5 y7 y8).m)
def ZEL : Zs2 := vw .sep <| vw .sep <| vz (fl r1) <| lc (mkS [(5, vN (v2 + y7.1.length)), (6, vN (v3 + y7.2.1.length)), (7, vN (v4 + y7.2.2.length)), (15, vL Zat p0), (16, vN p0.length), (17, vN v5), (39, .ref (1, 4) 0 0 r1.length), (43, .d (.list [ZdK y7.1, ZdK y7.2.1, ZdK y7.2.2]))] (ZxF r1)) ((Zay ([y7.1, y7.2.1, y7.2.2] : List (List Bt))).bind fun y8 => (ZFl p0 r1 v2 v3 v4 v5 y7 y8).m)
def ZEq : Zs2 := ix p0 v5 fun e6 => vw .go <| vw .go <| cl (ZHm e6) fun y7 => vz (eqL y7.1) <| vs (wa v2 y7.1.length) <| vz (eqL y7.2.1) <| vs (wa v3 y7.2.1.length) <| vz (eqL y7.2.2) <| vs (wa v4 y7.2.2.length) <| vz (fl r1) <| lc (mkS [(4, .ref (1, 4) 0 0 r1.length), (5, vN (v2 + y7.1.length)), (6, vN (v3 + y7.2.1.length)), (7, vN (v4 + y7.2.2.length)), (10, vL Zal y7.1), (11, vL Zal y7.2.1), (12, vL Zal y7.2.2), (15, vL Zat p0), (16, vN p0.length), (17, vN v5)] (ZxF r1)) ((ZEL p0 r1 v2 v3 v4 v5 y7).m)
def ZD9 : Zs2 := br (decide ((v5 : Int) < (p0.length : Int))) (vz (fl r1) <| lc (mkS (ZJ9 p0 r1 v2 v3 v4 v5) (ZxF r1)) ((ZEq p0 r1 v2 v3 v4 v5).m)) (vz (fl r1) <| lxe (ZLw) (v2, v3, v4, r1))
def Zse := fun ((r1, v2, v3, v4, v5) : List Bt × Nat × Nat × Nat × Nat) => (ZD9 p0 r1 v2 v3 v4 v5).m
def ZC8 : Nat → St := fun v13 => mkS [(4, vL Zal r12), (52, vL Zal r12), (53, vN r12.length), (54, vN v13)] []
def ZH9 : Unit → Nat × St := fun _ => (2, mkS [] [])
def ZCQ (v13 : Nat) : PT 0 (Lv (Nat) (Unit) (Bt × Int)) := br (decide ((v13 : Int) < (r12.length : Int))) (ix r12 v13 fun e14 => sL r12 .no (.nt v13) fun l15 => cl (ZHX l15 e14) fun y16 => br y16 (lrt E33 (fun _ => []) (e14, 9)) (vs (wa v13 1) <| ln (ZC8 r12) (v13 + 1))) (lxe (ZH9) ())
def Zpn := fun (v13 : Nat) => (ZCQ r12 v13).m
def ZKR : Zmz := lr E33 (fun _ => []) (⟨#[]⟩, 0)
def ZJl : Zmz := vw (.frz 4 [(4, (r12.map Zal)), (52, (r12.map Zal))] []) <| vz (fz r12) <| vz (fz r12) <| lc (ZC8 r12 0) ((Zaa (Zpn r12) big 0).bind (Sum.elim (fun _ => (ZKR).m) some))
def ZJ8 : Zmz := vz (eqN r12.length) <| vz (fl r12) <| lc (mkS [(4, .ref (1, 4) 0 0 r12.length), (52, .ref (1, 4) 0 0 r12.length), (53, vN r12.length), (54, vI 0)] (ZFq r12)) ((ZJl r12).m)
def ZyA (v9 : Nat) (v10 : Nat) (v11 : Nat) : Zmz := br (decide ((64 : Int) < (mmI true (mmI true (v9 : Int) (v10 : Int)) (v11 : Int)))) (lr E33 (fun _ => []) (⟨#[]⟩, 3)) (vz (fl r12) <| lc (mkS [(4, .ref (1, 4) 0 0 r12.length)] (ZFq r12)) ((ZJ8 r12).m))
def Zya : Zmz := vw (.ads 4 4 9 1) <| vz (fl ([] : List Bt)) <| lc (ZAA p0 (([] : List Bt), 0, 0, 0, 0)) ((Zaa (Zse p0) big (([] : List Bt), 0, 0, 0, 0)).bind (Sum.elim (fun (v9, v10, v11, r12) => (ZyA r12 v9 v10 v11).m) some))
def Zyp : Zmz := vz (eqL p0) <| lc (mkS [(4, .e0), (5, vI 0), (6, vI 0), (7, vI 0), (15, vL Zat p0), (16, vN p0.length), (17, vI 0)] []) ((Zya p0).m)
def ZyX : Zmz := lc (mkS [(0, vL Zat p0), (4, .e0), (5, vI 0), (6, vI 0), (7, vI 0)] []) ((Zyp p0).m)
def Zd9 (p0 : List Fil) : Option (Bt × Int) := (ZyX p0).m
section
include co
theorem ZEl : Kl 66 C (pa [0, 0, 1, 0, 1, 1, 1] (Zac Tryz.f33)) [.tmp 2, .tmp 3] 0 (ZAA p0) (ZLw) E33 (fun _ => []) (Zse p0) := fun (r1, v2, v3, v4, v5) _ m Q Post hQ L => mJ co 2 (lf2 [4, 5, 6, 7, 15, 16, 17] [((1, 4), true)]) (lf2 [4, 5, 6, 7] [((1, 4), true)]) hQ m L fun r g => ⟨fun _ m L => sq (bk 1 (mJ co 3 (lf2 [4, 5, 6, 7, 10, 11, 12, 15, 16, 17] [((1, 4), true)]) nl hQ m L fun r g e6 y7 _ m L => rg (pR co 5 (lf2 [5, 6, 7, 15, 16, 17, 39, 43] [((1, 4), true)]) m L fun r g _ m L => c6 co m (ZLN ([y7.1, y7.2.1, y7.2.2] : List (List Bt))) [((1, 44), ⟨0, false, 0, 0, []⟩)] [] (fun z => .ref (1, 44) 1 0 z.length) (fun z => [((1, 44), u9 z)]) [(1, 4)] fun y8 m => eR co (lf2 [4, 5, 6, 7, 15, 16, 17] [((1, 4), true)]) m L fun r g _ m L => eN co (lf2 [4, 5, 6, 7, 15, 16, 17] [((1, 4), true)]) nl hQ m L))), id⟩
theorem ZDX : Kl 66 C (pa [0, 0, 1, 0, 1, 1, 1, 1, 1] (Zac Tryz.f33)) [.tmp 2, .tmp 3] 0 (ZC8 r12) (ZH9) E33 (fun _ => []) (Zpn r12) := fun v13 _ m Q Post hQ L => eN co (lf1 [4, 52, 53, 54]) nl hQ m L
end
end
theorem ZP7 (p0 : List Fil) : KC tp 33 [vL Zat p0] (Zd9 p0) E33 := kC Tryz.func33 Tryz.ntmps33 [.tmp 2, .tmp 3] fun co m L => mK co 3 (lf1 [0, 4, 5, 6, 7]) m L fun r g _ m L => sq (mK co 1 (lf1 [4, 5, 6, 7, 15, 16, 17]) m L fun r g _ m L => bk 0 (cM co (lf2 [4, 5, 6, 7, 15, 16, 17] [((1, 4), true)]) m L fun r g _ m L => lo (lpF (ZEl co p0) ii m L (fun (v9, v10, v11, r12) m => mK co 1 (lf2 [4] [((1, 4), true)]) m L fun r g => ⟨id, fun _ m L => sq (mK co 1 (lf2 [4, 52, 53, 54] [((1, 4), true)]) m L fun r g _ m L => bk 2 (cM co (lf1 [4, 52, 53, 54]) m L fun r g _ m L => lo (lpF (ZDX co r12) ii m L (fun _ m => fO co m L))))⟩))))
abbrev E37 : List Bt → AV := fun y => vL Zal y
section
variable {C : Cx} (p0 : List Fil) (p1 : Fil) (v4 : Nat) (y9 v3 y2 : List Bt)
abbrev ZsY := PT 0 (Lv (List Bt × Nat) (List Bt) (List Bt))
abbrev ZpW := PT 0 (List Bt)
abbrev ZDm : Blk := ⟨0, true, 86, 6, [vS p1.name, vS p1.space, vL Zal p1.imports, vL ZaC p1.messages, vL Zan p1.enums, vL ZaG p1.services]⟩
abbrev ZKX : List (Nat × AV) := [(0, vL Zat p0), (8, vL Zal v3), (26, vL Zal p1.imports), (27, vN p1.imports.length), (28, vN v4)]
def ZEn : List Bt × Nat → St := fun (v3, v4) => mkS (ZKX p0 p1 v4 v3) []
def ZJ0 : List Bt → Nat × St := fun v10 => (0, mkS [(8, vL Zal v10)] [])
def ZAV : ZsY := vs (wa v4 1) <| vw (.frz 48 [(8, (y9.map Zal))] []) <| vz (fz y9) <| ln (ZEn p0 p1) (y9, v4 + 1)
def ZAx : ZsY := vz (fl y9) <| lc (mkS [(0, vL Zat p0), (8, .ref (1, 48) 0 0 y9.length), (26, vL Zal p1.imports), (27, vN p1.imports.length), (28, vN v4)] [((1, 48), o9 y9)]) ((ZAV p0 p1 v4 y9).m)
def ZEJ (y8 : List Bt × List Bt × List Bt) : ZsY := vw .sep <| vw .sep <| lc (mkS [(0, vL Zat p0), (26, vL Zal p1.imports), (27, vN p1.imports.length), (28, vN v4), (47, .d (.list [ZdK v3, ZdK y8.1, ZdK y8.2.1, ZdK y8.2.2]))] []) ((Zay ([v3, y8.1, y8.2.1, y8.2.2] : List (List Bt))).bind fun y9 => (ZAx p0 p1 v4 y9).m)
def ZFw : ZsY := ix p1.imports v4 fun e5 => cl (ZBC p0 e5) fun y6 => ixi p0 y6 fun e7 => cl (ZHm e7) fun y8 => lc (mkS [(0, vL Zat p0), (8, vL Zal v3), (11, vL Zal y8.1), (12, vL Zal y8.2.1), (13, vL Zal y8.2.2), (26, vL Zal p1.imports), (27, vN p1.imports.length), (28, vN v4)] []) ((ZEJ p0 p1 v4 v3 y8).m)
def ZCR : ZsY := br (decide ((v4 : Int) < (p1.imports.length : Int))) (lc (mkS (ZKX p0 p1 v4 v3) []) ((ZFw p0 p1 v4 v3).m)) (lxe (ZJ0) v3)
def Zo0 := fun ((v3, v4) : List Bt × Nat) => (ZCR p0 p1 v4 v3).m
def ZFT (v10 : List Bt) : ZpW := lr E37 (fun _ => []) v10
def ZLo : ZpW := vw (.frz 24 [(8, (y2.map Zal))] []) <| vz (fz y2) <| lc (ZEn p0 p1 (y2, 0)) ((Zaa (Zo0 p0 p1) big (y2, 0)).bind (Sum.elim (fun v10 => (ZFT v10).m) some))
def ZIc : ZpW := vw .go <| vz (eqL p1.imports) <| vz (fl y2) <| lc (mkS [(0, vL Zat p0), (8, .ref (1, 24) 0 0 y2.length), (26, vL Zal p1.imports), (27, vN p1.imports.length), (28, vI 0)] [((1, 24), o9 y2)]) ((ZLo p0 p1 y2).m)
def ZIf : ZpW := vz (fl y2) <| lc (mkS [(0, vL Zat p0), (3, .ptr (1, 3) 0 0), (8, .ref (1, 24) 0 0 y2.length)] [((1, 3), (ZDm p1)), ((1, 24), o9 y2)]) ((ZIc p0 p1 y2).m)
def ZyB (y1 : List Bt × List Bt × List Bt) : ZpW := vw .sep <| vw .sep <| lc (mkS [(0, vL Zat p0), (3, .ptr (1, 3) 0 0), (23, .d (.list [ZdK y1.1, ZdK y1.2.1, ZdK y1.2.2]))] [((1, 3), (ZDm p1))]) ((Zay ([y1.1, y1.2.1, y1.2.2] : List (List Bt))).bind fun y2 => (ZIf p0 p1 y2).m)
def Zyg : ZpW := vw .go <| cl (ZHm p1) fun y1 => lc (mkS [(0, vL Zat p0), (3, .ptr (1, 3) 0 0), (5, vL Zal y1.1), (6, vL Zal y1.2.1), (7, vL Zal y1.2.2)] [((1, 3), (ZDm p1))]) ((ZyB p0 p1 y1).m)
def ZdI (p0 : List Fil) (p1 : Fil) : Option (List Bt) := (Zyg p0 p1).m
theorem ZBw (co : CO C 0) : Kl 51 C (pa [0, 0, 1, 0, 1, 1, 1] (Zac Tryz.f37)) [.tmp 4] 0 (ZEn p0 p1) (ZJ0) E37 (fun _ => []) (Zo0 p0 p1) := fun (v3, v4) _ m Q Post hQ L => mJ co 2 (lf1 [0, 8, 26, 27, 28]) (lf1 [8]) hQ m L fun r g => ⟨fun _ m L => sq (bk 1 (mJ co 2 (lf1 [0, 8, 11, 12, 13, 26, 27, 28]) nl hQ m L fun r g e5 y6 e7 y8 _ m L => rg (pR co 5 (lf1 [0, 26, 27, 28, 47]) m L fun r g _ m L => c6 co m (ZLN ([v3, y8.1, y8.2.1, y8.2.2] : List (List Bt))) [((1, 48), ⟨0, false, 0, 0, []⟩)] [] (fun z => .ref (1, 48) 1 0 z.length) (fun z => [((1, 48), u9 z)]) [] fun y9 m => eR co (lf2 [0, 8, 26, 27, 28] [((1, 48), true)]) m L fun r g _ m L => eN co (lf1 [0, 8, 26, 27, 28]) nl hQ m L))), id⟩
end
theorem ZPR (p0 : List Fil) (p1 : Fil) : KC tp 37 [vL Zat p0, .agg ((Zat p1).map .d)] (ZdI p0 p1) E37 := kC Tryz.func37 Tryz.ntmps37 [.tmp 4] fun co m L => mK co 2 (lf2 [0, 3, 5, 6, 7] [((1, 3), false)]) m L fun r g y1 _ m L => sq (rg (pR co 4 (lf2 [0, 3, 23] [((1, 3), false)]) m L fun r g _ m L => c6 co m (ZLN ([y1.1, y1.2.1, y1.2.2] : List (List Bt))) [((1, 24), ⟨0, false, 0, 0, []⟩)] [] (fun z => .ref (1, 24) 1 0 z.length) (fun z => [((1, 24), u9 z)]) [] fun y2 m => eR co (lf2 [0, 3, 8] [((1, 3), false), ((1, 24), true)]) m L fun r g _ m L => sq (mK co 1 (lf2 [0, 8, 26, 27, 28] [((1, 24), true)]) m L fun r g _ m L => bk 0 (cM co (lf1 [0, 8, 26, 27, 28]) m L fun r g _ m L => lo (lpF (ZBw p0 p1 co) ii m L (fun v10 m => fO co m L))))))
abbrev E77 : List Fld → AV := fun y => .ref (0, 0) 1 0 y.length
@[reducible] def G77 : List Fld → List Blk := fun y => [⟨1, true, 84, 16, Zav Zdb y⟩]
def ZGd (p0 : List Fld) : PT 1 (List Fld) := al Zdb p0 false fun b1 => br b1 (vw .sep <| vw (.ads 2 2 84 16) <| mv 2 0 ([] : List Fld) <| lr E77 (G77) ([] : List Fld)) (a0 p0 <| mv 7 0 p0 <| lr E77 (G77) p0)
def Zdm (p0 : List Fld) : Option (List Fld) := (ZGd p0).m
theorem ZQE (p0 : List Fld) : KO tp 77 1 [vL Zdb p0] [⟨0, false, 0, 0, []⟩] ct (Zdm p0) E77 (G77) := kO Tryz.func77 Tryz.ntmps77 [.tmp 2] 1 (fun co hT m L => fO co m L)
def Zyr (p0 : Bt) (p1 : Bt) : PT 0 (Bool) := vz (eqN p0.size) <| vz (eqN p1.size) <| vy (decide ((p1.size : Int) ≤ (p0.size : Int))) (eqN p1.size) <| ssg (decide ((p1.size : Int) ≤ (p0.size : Int))) p0 .no (.nt p1.size) fun s1 => lr E49 (fun _ => []) (decide ((p1.size : Int) ≤ (p0.size : Int)) && decide (s1 = p1))
def ZcU (p0 : Bt) (p1 : Bt) : Option (Bool) := (Zyr p0 p1).m
theorem ZNx (p0 : Bt) (p1 : Bt) : KC tp 144 [vS p0, vS p1] (ZcU p0 p1) E49 := kC Tryz.func144 Tryz.ntmps144 [.tmp 4] fun co m L => fO co m L
abbrev Zt4 : Bt × Bool → AV := fun y => .tup [vS y.1, vB y.2]
def Zyl (p0 : Bt) (p1 : Bt) : PT 0 (Bt × Bool) := cl (ZNx p0 p1) fun y1 => br (!y1) (lr Zt4 (fun _ => []) (p0, false)) (vz (eqN p1.size) <| ss p0 (.nt p1.size) .no fun s2 => lr Zt4 (fun _ => []) (s2, true))
def ZcR (p0 : Bt) (p1 : Bt) : Option (Bt × Bool) := (Zyl p0 p1).m
theorem ZNg (p0 : Bt) (p1 : Bt) : KC tp 138 [vS p0, vS p1] (ZcR p0 p1) Zt4 := kC Tryz.func138 Tryz.ntmps138 [.tmp 4, .tmp 5] fun co m L => fO co m L
def Zyu (p0 : Bt) (p1 : Bt) : PT 0 (Bt × Bool) := cl (ZNg p0 p1) fun y1 => lr Zt4 (fun _ => []) (y1.1, y1.2)
def ZcH (p0 : Bt) (p1 : Bt) : Option (Bt × Bool) := (Zyu p0 p1).m
theorem ZMR (p0 : Bt) (p1 : Bt) : KC tp 126 [vS p0, vS p1] (ZcH p0 p1) Zt4 := kC Tryz.func126 Tryz.ntmps126 [.tmp 4, .tmp 5] fun co m L => fO co m L
section
variable {C : Cx} (p0 : Bt) (p1 : Int)
def ZqT : Int → St := fun v1 => mkS [(0, vS p0), (1, .d (.int .u8 p1)), (5, vI v1)] []
def Zyx : Unit → Nat × St := fun _ => (0, mkS [] [])
def Zq3 (v1 : Int) : PT 0 (Lv (Int) (Unit) (Int)) := br (decide ((0 : Int) ≤ v1)) (ibi p0 v1 fun b2 => br (decide ((b2.toNat : Int) = p1)) (lrt E47 (fun _ => []) v1) (vs (wi (v1 - 1)) <| ln (ZqT p0 p1) (v1 - 1))) (lxe (Zyx) ())
def Zkd := fun (v1 : Int) => (Zq3 p0 p1 v1).m
def Zy8 : PT 0 (Int) := lr E47 (fun _ => []) (-1)
def ZzC : PT 0 (Int) := vz (eqN p0.size) <| vs (wi ((p0.size : Int) - 1)) <| lc (ZqT p0 p1 ((p0.size : Int) - 1)) ((Zaa (Zkd p0 p1) big ((p0.size : Int) - 1)).bind (Sum.elim (fun _ => (Zy8).m) some))
def Zz0 : PT 0 (Int) := lc (mkS [(0, vS p0), (1, .d (.int .u8 p1))] []) ((ZzC p0 p1).m)
def Zb4 (p0 : Bt) (p1 : Int) : Option (Int) := (Zz0 p0 p1).m
theorem Zxy (co : CO C 0) : Kl 19 C (pa [0, 0, 1, 0, 1] (Zac Tryz.f146)) [.tmp 4] 0 (ZqT p0 p1) (Zyx) E47 (fun _ => []) (Zkd p0 p1) := fun v1 _ m Q Post hQ L => eN co (lf1 [0, 1, 5]) nl hQ m L
end
theorem ZNT (p0 : Bt) (p1 : Int) : KC tp 146 [vS p0, .d (.int .u8 p1)] (Zb4 p0 p1) E47 := kC Tryz.func146 Tryz.ntmps146 [.tmp 4] fun co m L => mK co 1 (lf1 [0, 1]) m L fun r g _ m L => sq (mK co 1 (lf1 [0, 1, 5]) m L fun r g _ m L => bk 0 (lo (lpF (Zxy p0 p1 co) ii m L (fun _ m => fO co m L))))
def ZzJ (p0 : Bt) (p1 : Int) : PT 0 (Int) := cl (ZNT p0 p1) fun y1 => lr E47 (fun _ => []) y1
def ZbT (p0 : Bt) (p1 : Int) : Option (Int) := (ZzJ p0 p1).m
theorem ZMM (p0 : Bt) (p1 : Int) : KC tp 145 [vS p0, .d (.int .u8 p1)] (ZbT p0 p1) E47 := kC Tryz.func145 Tryz.ntmps145 [.tmp 4] fun co m L => fO co m L
abbrev ZMY : Bt × Bt → AV := fun y => .tup [vS y.1, vS y.2]
def ZyR (p0 : Bt) : PT 0 (Bt × Bt) := cl (ZMM p0 46) fun y1 => br (decide (y1 < (0 : Int))) (lr ZMY (fun _ => []) (⟨#[]⟩, p0)) (ss p0 .no (.it y1) fun s2 => vs (wi (y1 + 1)) <| ss p0 (.it (y1 + 1)) .no fun s3 => lr ZMY (fun _ => []) (s2, s3))
def Zej (p0 : Bt) : Option (Bt × Bt) := (ZyR p0).m
theorem ZNH (p0 : Bt) : KC tp 139 [vS p0] (Zej p0) ZMY := kC Tryz.func139 Tryz.ntmps139 [.tmp 2, .tmp 3] fun co m L => fO co m L
section
variable {C : Cx}
def ZsT : Bt × List Bt → St := fun (v1, r2) => mkS [(0, vS v1), (3, .ref (1, 5) 0 0 r2.length)] [((1, 5), o9 r2)]
def ZyE : List Bt → Nat × St := fun r4 => (0, mkS [(3, .ref (1, 5) 0 0 r4.length)] [((1, 5), o9 r4)])
def ZxZ (v1 : Bt) (r2 : List Bt) : PT 0 (Lv (Bt × List Bt) (List Bt) (List Bt)) := br (!decide (v1 = (⟨#[]⟩ : Bt))) (cl (ZNH v1) fun y3 => vw .sep <| vw .sep <| ap r2 (y3.1 : Bt) <| vz (fl (r2 ++ [y3.1])) <| ln (ZsT) (y3.1, r2 ++ [y3.1])) (vz (fl r2) <| lxe (ZyE) r2)
def Zot := fun ((v1, r2) : Bt × List Bt) => (ZxZ v1 r2).m
def Zzl (r4 : List Bt) : PT 0 (List Bt) := vz (fr r4) <| lr E37 (fun _ => []) r4
def ZzM (p0 : Bt) : PT 0 (List Bt) := vw .go <| vz (fl ([p0] : List Bt)) <| lc (ZsT (p0, ([p0] : List Bt))) ((Zaa (Zot) big (p0, ([p0] : List Bt))).bind (Sum.elim (fun r4 => (Zzl r4).m) some))
def ZfV (p0 : Bt) : Option (List Bt) := (ZzM p0).m
theorem Zwl (co : CO C 0) : Kl 18 C (pa [0, 0, 0, 1, 1] (Zac Tryz.f127)) [.tmp 2] 0 (ZsT) (ZyE) E37 (fun _ => []) (Zot) := fun (v1, r2) _ m Q Post hQ L => eN co (lf2 [0, 3] [((1, 5), true)]) (lf2 [3] [((1, 5), true)]) hQ m L
end
theorem ZMG (p0 : Bt) : KC tp 127 [vS p0] (ZfV p0) E37 := kC Tryz.func127 Tryz.ntmps127 [.tmp 2] fun co m L => mK co 2 (lf2 [0, 3] [((1, 5), true)]) m L fun r g _ m L => sq (bk 0 (lo (lpF (Zwl co) ii m L (fun r4 m => fO co m L))))
section
variable {C : Cx} (p0 p1 : Bt) (p2 y3 : List Bt)
abbrev Zsi := PT 0 (Bt × Bool)
def Zqx : Nat → St := fun v4 => mkS [(1, vS p1), (2, vL Zal p2), (24, vL Zal y3), (25, vN y3.length), (26, vN v4)] []
def Zyy : Unit → Nat × St := fun _ => (0, mkS [] [])
def Ztw (v4 : Nat) : PT 0 (Lv (Nat) (Unit) (Bt × Bool)) := br (decide ((v4 : Int) < (y3.length : Int))) (ix y3 v4 fun e5 => cl (ZCr e5 p1) fun y6 => cl (ZHX p2 y6) fun y7 => br y7 (lrt Zt4 (fun _ => []) (y6, true)) (vs (wa v4 1) <| ln (Zqx p1 p2 y3) (v4 + 1))) (lxe (Zyy) ())
def Zj7 := fun (v4 : Nat) => (Ztw p1 p2 y3 v4).m
def ZzW : Zsi := lr Zt4 (fun _ => []) (⟨#[]⟩, false)
def Zx4 : Zsi := cl (ZMG p0) fun y3 => vz (eqL y3) <| lc (Zqx p1 p2 y3 0) ((Zaa (Zj7 p1 p2 y3) big 0).bind (Sum.elim (fun _ => (ZzW).m) some))
def ZzV : Zsi := cl (ZMR p1 ⟨#[46]⟩) fun y1 => br y1.2 (cl (ZHX p2 y1.1) fun y2 => br y2 (lr Zt4 (fun _ => []) (y1.1, true)) (lr Zt4 (fun _ => []) (⟨#[]⟩, false))) (lc (mkS [(0, vS p0), (1, vS p1), (2, vL Zal p2)] []) ((Zx4 p0 p1 p2).m))
def Zdt (p0 : Bt) (p1 : Bt) (p2 : List Bt) : Option (Bt × Bool) := (ZzV p0 p1 p2).m
theorem Zu5 (co : CO C 0) : Kl 38 C (pa [0, 0, 1, 0, 1, 1] (Zac Tryz.f104)) [.tmp 6, .tmp 7] 0 (Zqx p1 p2 y3) (Zyy) Zt4 (fun _ => []) (Zj7 p1 p2 y3) := fun v4 _ m Q Post hQ L => eN co (lf1 [1, 2, 24, 25, 26]) nl hQ m L
end
theorem ZG4 (p0 : Bt) (p1 : Bt) (p2 : List Bt) : KC tp 104 [vS p0, vS p1, vL Zal p2] (Zdt p0 p1 p2) Zt4 := kC Tryz.func104 Tryz.ntmps104 [.tmp 6, .tmp 7] fun co m L => mK co 2 (lf1 [0, 1, 2]) m L fun r g y1 => ⟨fun y2 => ⟨id, id⟩, fun _ m L => sq (mK co 1 (lf1 [1, 2, 24, 25, 26]) m L fun r g y3 _ m L => bk 0 (lo (lpF (Zu5 p1 p2 y3 co) ii m L (fun _ m => fO co m L))))⟩
def ZQ7 (pf1 : Enm → Option Bool) : Cl := fun no l H θ => (∀ (z0 : Enm) y, pf1 z0 = some y → Zfq tp l no H (θ 1) [.agg ((Zan z0).map .d)] (vB y))
def ZzO (p0 : List Enm) (pf1 : Enm → Option Bool) : PT 0 (Bool) := cs tp 54 [vL Zan p0, .fn (.yield 1) [] []] [] [] (Za5 p0 pf1) (fun y => vI y) fun y1 => lr E49 (fun _ => []) (decide ((0 : Int) ≤ y1))
def ZbS (p0 : List Enm) (pf1 : Enm → Option Bool) : Option (Bool) := (ZzO p0 pf1).m
theorem ZMg (p0 : List Enm) (pf1 : Enm → Option Bool) : KO tp 128 0 [vL Zan p0, .fn (.yield 1) [] []] [] (ZQ7 pf1) (ZbS p0 pf1) E49 (fun _ => []) := ko1 Tryz.func128 Tryz.ntmps128 tok [.tmp 4] 0 (fun C co hT y m Post L => fO co m L fun r g => ⟨fun y hy => Zbm (ZOn p0 pf1) hy co g [] [] (lkS [(1, r.θ 1)]) (fun H' hg ho => (fun z0 y hz => ZaO co g [] ho (hT z0 y hz))) (fun H => trivial), fun y1 => id⟩)
@[reducible] def ZPc (w0 : Bt) : Bool → List Blk := fun y => [⟨0, true, 9, 1, [vS w0]⟩]
def ZzN (p0 : Enm) (w0 : Bt) : PT 1 (Bool) := vw .go <| vw .go <| lr E49 (ZPc w0) (decide (p0.name = w0))
def ZaQ (p0 : Enm) (w0 : Bt) : Option (Bool) := (ZzN p0 w0).m
theorem ZNy (p0 : Enm) (w0 : Bt) : KO tp 129 1 [.agg ((Zan p0).map .d), .ptr (0, 0) 0 0] [⟨0, true, 9, 1, [vS w0]⟩] ct (ZaQ p0 w0) E49 (ZPc w0) := kO Tryz.func129 Tryz.ntmps129 [.tmp 3] 1 (fun co hT m L => fO co m L)
@[reducible] def ZOt (p0 : Lnk) : Bool → List Blk := fun y => [⟨0, true, 94, 10, [vL Zat p0.files, vS p0.f.name, vS p0.f.space, vL Zal p0.f.imports, vL ZaC p0.f.messages, vL Zan p0.f.enums, vL ZaG p0.f.services, vL Zal p0.known, vL Zal p0.messages, vL Zan p0.enums]⟩]
def ZzI (p0 : Lnk) (p1 : Bt) : PT 1 (Bool) := vw .go <| cs tp 128 [vL Zan p0.enums, .fn (.func 129) [] [.ptr (1, 3) 1 0]] [(1, 3)] [((1, 3), ⟨1, true, 9, 1, [vS p1]⟩)] (ZbS p0.enums (fun (z0 : Enm) => ZaQ z0 p1)) (fun y => vB y) fun y1 => lr E49 (ZOt p0) y1
def Za7 (p0 : Lnk) (p1 : Bt) : Option (Bool) := (ZzI p0 p1).m
theorem ZNp (p0 : Lnk) (p1 : Bt) : KO tp 105 1 [.ptr (0, 0) 0 0, vS p1] [⟨0, true, 94, 10, [vL Zat p0.files, vS p0.f.name, vS p0.f.space, vL Zal p0.f.imports, vL ZaC p0.f.messages, vL Zan p0.f.enums, vL ZaG p0.f.services, vL Zal p0.known, vL Zal p0.messages, vL Zan p0.enums]⟩] ct (Za7 p0 p1) E49 (ZOt p0) := ko1 Tryz.func105 Tryz.ntmps105 tok [.tmp 4] 1 (fun C co hT y m Post L => fO co m L fun r g => ⟨fun y hy => Zbm (ZMg p0.enums (fun (z0 : Enm) => ZaQ z0 p1)) hy co g [] [((1, 3), ⟨1, true, 9, 1, [vS p1]⟩)] (lkS [(1, .fn (.func 129) [] [.ptr (r.κ (1, 3)) (r.γ (1, 3) + 1) 0])]) (fun H' hg ho => (fun z0 y hz => Ze5 (ZNy z0 p1) hz co g [((1, 3), ⟨1, true, 9, 1, [vS p1]⟩)] [] hg (by simp) (fun _ => .top) (fun _ _ => trivial) (fun l H => ⟨fun _ => ⟨rfl, by kernel_rfl⟩, by kernel_rfl, trivial⟩))) (fun H => trivial), fun y1 => id⟩)
abbrev ZHv : Int × Bool → AV := fun y => .tup [.d (.int .u64 y.1), vB y.2]
@[reducible] def ZJ1 (p0 : Lnk) : Int × Bool → List Blk := fun y => [⟨0, true, 94, 10, [vL Zat p0.files, vS p0.f.name, vS p0.f.space, vL Zal p0.f.imports, vL ZaC p0.f.messages, vL Zan p0.f.enums, vL ZaG p0.f.services, vL Zal p0.known, vL Zal p0.messages, vL Zan p0.enums]⟩]
section
variable {C : Cx} (co : CO C 1) (p0 : Lnk) (p1 p2 : Bt) (v1 : Nat) (e2 : Enm)
abbrev ZjN := PT 1 (Lv (Nat) (Unit) (Int × Bool))
abbrev Zg8 : List (Key × Blk) := [((0, 0), ⟨0, true, 94, 10, [vL Zat p0.files, vS p0.f.name, vS p0.f.space, vL Zal p0.f.imports, vL ZaC p0.f.messages, vL Zan p0.f.enums, vL ZaG p0.f.services, vL Zal p0.known, vL Zal p0.messages, vL Zan p0.enums]⟩)]
abbrev Zm2 : List (Nat × AV) := [(1, vS p1), (2, vS p2), (15, vL Zan p0.enums), (16, vN p0.enums.length), (17, vN v1)]
def Zm1 : Nat → St := fun v1 => mkS (Zm2 p0 p1 p2 v1) (Zg8 p0)
def ZyM : Unit → Nat × St := fun _ => (0, mkS [] (Zg8 p0))
def Ztb : Nat → St := fun v3 => mkS [(1, vS p1), (2, vS p2), (15, vL Zan p0.enums), (16, vN p0.enums.length), (17, vN v1), (26, vL Ze1 e2.items), (27, vN e2.items.length), (28, vN v3)] (Zg8 p0)
def Zzm : Unit → Nat × St := fun _ => (2, mkS (Zm2 p0 p1 p2 v1) (Zg8 p0))
def ZsQ (v3 : Nat) : ZjN := br (decide ((v3 : Int) < (e2.items.length : Int))) (ix e2.items v3 fun e4 => vw .go <| vw .go <| br (decide (e4.name = p2)) (vw .go <| vz (wk .u64 e4.num) <| lrt ZHv (ZJ1 p0) ((IntKind.u64.wrap e4.num), true)) (vs (wa v3 1) <| ln (Ztb p0 p1 p2 v1 e2) (v3 + 1))) (lxe (Zzm p0 p1 p2 v1) ())
def Zin := fun (v3 : Nat) => (ZsQ p0 p1 p2 v1 e2 v3).m
def ZtU : ZjN := vs (wa v1 1) <| ln (Zm1 p0 p1 p2) (v1 + 1)
def ZsL : ZjN := vs (wa v1 1) <| ln (Zm1 p0 p1 p2) (v1 + 1)
def Zub : ZjN := ix p0.enums v1 fun e2 => vw .go <| vw .go <| br (!decide (e2.name = p1)) (lxc 1 (mkS (Zm2 p0 p1 p2 v1) (Zg8 p0)) ((ZsL p0 p1 p2 v1).m)) (vw .go <| vz (eqL e2.items) <| lc (Ztb p0 p1 p2 v1 e2 0) ((Zaa (Zin p0 p1 p2 v1 e2) big 0).bind (Sum.elim (fun _ => (ZtU p0 p1 p2 v1).m) (fun z => some (.rt z)))))
def Zun : ZjN := br (decide ((v1 : Int) < (p0.enums.length : Int))) (lc (mkS (Zm2 p0 p1 p2 v1) (Zg8 p0)) ((Zub p0 p1 p2 v1).m)) (lxe (ZyM p0) ())
def Zh9 := fun (v1 : Nat) => (Zun p0 p1 p2 v1).m
def Zzf : PT 1 (Int × Bool) := lr ZHv (ZJ1 p0) (0, false)
def ZzR : PT 1 (Int × Bool) := vw .go <| vz (eqL p0.enums) <| lc (Zm1 p0 p1 p2 0) ((Zaa (Zh9 p0 p1 p2) big 0).bind (Sum.elim (fun _ => (Zzf p0).m) some))
def ZyL : PT 1 (Int × Bool) := lc (mkS [(0, .ptr (0, 0) 0 0), (1, vS p1), (2, vS p2)] (Zg8 p0)) ((ZzR p0 p1 p2).m)
def Za4 (p0 : Lnk) (p1 : Bt) (p2 : Bt) : Option (Int × Bool) := (ZyL p0 p1 p2).m
section
include co
theorem Zu4 : Kl 41 C (pa [0, 0, 1, 1, 1, 0, 0, 1, 1, 0, 0, 1, 0, 1] (Zac Tryz.f106)) [.tmp 6, .tmp 7] 1 (Ztb p0 p1 p2 v1 e2) (Zzm p0 p1 p2 v1) ZHv (ZJ1 p0) (Zin p0 p1 p2 v1 e2) := fun v3 _ m Q Post hQ L => eN co (lf2 [1, 2, 15, 16, 17, 26, 27, 28] [((0, 0), false)]) (lf2 [1, 2, 15, 16, 17] [((0, 0), false)]) hQ m L
theorem ZuY : Kl 41 C (pa [0, 0, 1, 0, 1] (Zac Tryz.f106)) [.tmp 6, .tmp 7] 1 (Zm1 p0 p1 p2) (ZyM p0) ZHv (ZJ1 p0) (Zh9 p0 p1 p2) := fun v1 _ m Q Post hQ L => mJ co 2 (lf2 [1, 2, 15, 16, 17] [((0, 0), false)]) (lf2 [] [((0, 0), false)]) hQ m L fun r g => ⟨fun _ m L => sq (bk 1 (mJ co 3 (lf2 [1, 2, 15, 16, 17, 26, 27, 28] [((0, 0), false)]) (lf2 [1, 2, 15, 16, 17] [((0, 0), false)]) hQ m L fun r g e2 => ⟨fun _ m L => eN co (lf2 [1, 2, 15, 16, 17] [((0, 0), false)]) nl hQ m L, fun _ m L => bk 2 (lo (lpL (Zu4 co p0 p1 p2 v1 e2) hQ m L (fun _ m => eN co (lf2 [1, 2, 15, 16, 17] [((0, 0), false)]) nl hQ m L)))⟩)), id⟩
end
end
theorem ZFj (p0 : Lnk) (p1 : Bt) (p2 : Bt) : KO tp 106 1 [.ptr (0, 0) 0 0, vS p1, vS p2] [⟨0, true, 94, 10, [vL Zat p0.files, vS p0.f.name, vS p0.f.space, vL Zal p0.f.imports, vL ZaC p0.f.messages, vL Zan p0.f.enums, vL ZaG p0.f.services, vL Zal p0.known, vL Zal p0.messages, vL Zan p0.enums]⟩] ct (Za4 p0 p1 p2) ZHv (ZJ1 p0) := kO Tryz.func106 Tryz.ntmps106 [.tmp 6, .tmp 7] 1 (fun co hT m L => mK co 1 (lf2 [0, 1, 2] [((0, 0), false)]) m L fun r g _ m L => sq (mK co 1 (lf2 [1, 2, 15, 16, 17] [((0, 0), false)]) m L fun r g _ m L => bk 0 (lo (lpF (ZuY co p0 p1 p2) ii m L (fun _ m => fO co m L)))))
abbrev E78 : Fld × Int → AV := fun y => .tup [.agg ((Zdb y.1).map .d), vI y.2]
@[reducible] def G78 (p0 : Lnk) : Fld × Int → List Blk := fun y => [⟨0, true, 94, 10, [vL Zat p0.files, vS p0.f.name, vS p0.f.space, vL Zal p0.f.imports, vL ZaC p0.f.messages, vL Zan p0.f.enums, vL ZaG p0.f.services, vL Zal p0.known, vL Zal p0.messages, vL Zan p0.enums]⟩]
def ZJx (p0 : Lnk) (p1 : Bt) (p2 : Fld) : PT 1 (Fld × Int) := vw .go <| br (decide (p2.type.kind = (0 : Int))) (vw .go <| vw .go <| cl (ZG4 p1 p2.type.name p0.known) fun y1 => br (!y1.2) (vw .go <| vw .go <| lr E78 (G78 p0) (p2, 8)) (vw .go <| cl (ZHX p0.messages y1.1) fun y2 => br y2 (vw .go <| vw .go <| br (!p2.hasDefault) (vw .go <| vw .go <| lr E78 (G78 p0) ((.mk p2.num p2.name p2.card p2.key (.mk 10 y1.1 : Typ) p2.union p2.hasDefault p2.dflt p2.notes : Fld), 0)) (vw .go <| br (decide (p2.type.kind = (0 : Int)) || false) (vw .go <| vw .go <| lr E78 (G78 p0) ((.mk p2.num p2.name p2.card p2.key (.mk 10 y1.1 : Typ) p2.union p2.hasDefault p2.dflt p2.notes : Fld), 12)) (br (decide (p2.type.kind = (0 : Int))) (vw .go <| br (!decide (p2.dflt.kind = (9 : Int))) (vw .go <| vw .go <| lr E78 (G78 p0) ((.mk p2.num p2.name p2.card p2.key (.mk 10 y1.1 : Typ) p2.union p2.hasDefault p2.dflt p2.notes : Fld), 12)) (vw .go <| vw .go <| cs tp 106 [.ptr (0, 0) 0 0, vS y1.1, vS p2.dflt.text] [(0, 0)] [((0, 0), ⟨0, true, 94, 10, [vL Zat p0.files, vS p0.f.name, vS p0.f.space, vL Zal p0.f.imports, vL ZaC p0.f.messages, vL Zan p0.f.enums, vL ZaG p0.f.services, vL Zal p0.known, vL Zal p0.messages, vL Zan p0.enums]⟩)] (Za4 p0 y1.1 p2.dflt.text) (fun y => .tup [.d (.int .u64 y.1), vB y.2]) fun y3 => br (!y3.2) (vw .go <| vw .go <| lr E78 (G78 p0) ((.mk p2.num p2.name p2.card p2.key (.mk 10 y1.1 : Typ) p2.union p2.hasDefault p2.dflt p2.notes : Fld), 16)) (vw .go <| vw .go <| vw .go <| lr E78 (G78 p0) ((.mk p2.num p2.name p2.card p2.key (.mk 10 y1.1 : Typ) p2.union p2.hasDefault (.mk 9 y3.1 ⟨#[]⟩ [] [] [] [] : Val) p2.notes : Fld), 0)))) (vw .go <| vw .go <| br (!decide (p2.dflt.kind = (10 : Int))) (vw .go <| vw .go <| lr E78 (G78 p0) ((.mk p2.num p2.name p2.card p2.key (.mk 10 y1.1 : Typ) p2.union p2.hasDefault p2.dflt p2.notes : Fld), 12)) (vw .go <| vw .go <| lr E78 (G78 p0) ((.mk p2.num p2.name p2.card p2.key (.mk 10 y1.1 : Typ) p2.union p2.hasDefault p2.dflt p2.notes : Fld), 0)))))) (cs tp 105 [.ptr (0, 0) 0 0, vS y1.1] [(0, 0)] [((0, 0), ⟨0, true, 94, 10, [vL Zat p0.files, vS p0.f.name, vS p0.f.space, vL Zal p0.f.imports, vL ZaC p0.f.messages, vL Zan p0.f.enums, vL ZaG p0.f.services, vL Zal p0.known, vL Zal p0.messages, vL Zan p0.enums]⟩)] (Za7 p0 y1.1) (fun y => vB y) fun y4 => br y4 (vw .go <| vw .go <| br (!p2.hasDefault) (vw .go <| vw .go <| lr E78 (G78 p0) ((.mk p2.num p2.name p2.card p2.key (.mk 9 y1.1 : Typ) p2.union p2.hasDefault p2.dflt p2.notes : Fld), 0)) (vw .go <| br (decide (p2.type.kind = (0 : Int)) && false) (vw .go <| vw .go <| lr E78 (G78 p0) ((.mk p2.num p2.name p2.card p2.key (.mk 9 y1.1 : Typ) p2.union p2.hasDefault p2.dflt p2.notes : Fld), 12)) (br (decide (p2.type.kind = (0 : Int))) (vw .go <| br (!decide (p2.dflt.kind = (9 : Int))) (vw .go <| vw .go <| lr E78 (G78 p0) ((.mk p2.num p2.name p2.card p2.key (.mk 9 y1.1 : Typ) p2.union p2.hasDefault p2.dflt p2.notes : Fld), 12)) (vw .go <| vw .go <| cs tp 106 [.ptr (0, 0) 0 0, vS y1.1, vS p2.dflt.text] [(0, 0)] [((0, 0), ⟨0, true, 94, 10, [vL Zat p0.files, vS p0.f.name, vS p0.f.space, vL Zal p0.f.imports, vL ZaC p0.f.messages, vL Zan p0.f.enums, vL ZaG p0.f.services, vL Zal p0.known, vL Zal p0.messages, vL Zan p0.enums]⟩)] (Za4 p0 y1.1 p2.dflt.text) (fun y => .tup [.d (.int .u64 y.1), vB y.2]) fun y5 => br (!y5.2) (vw .go <| vw .go <| lr E78 (G78 p0) ((.mk p2.num p2.name p2.card p2.key (.mk 9 y1.1 : Typ) p2.union p2.hasDefault p2.dflt p2.notes : Fld), 16)) (vw .go <| vw .go <| vw .go <| lr E78 (G78 p0) ((.mk p2.num p2.name p2.card p2.key (.mk 9 y1.1 : Typ) p2.union p2.hasDefault (.mk 9 y5.1 ⟨#[]⟩ [] [] [] [] : Val) p2.notes : Fld), 0)))) (vw .go <| vw .go <| br (!decide (p2.dflt.kind = (9 : Int))) (vw .go <| vw .go <| lr E78 (G78 p0) ((.mk p2.num p2.name p2.card p2.key (.mk 9 y1.1 : Typ) p2.union p2.hasDefault p2.dflt p2.notes : Fld), 12)) (vw .go <| vw .go <| lr E78 (G78 p0) ((.mk p2.num p2.name p2.card p2.key (.mk 9 y1.1 : Typ) p2.union p2.hasDefault p2.dflt p2.notes : Fld), 0)))))) (vw .go <| vw .go <| lr E78 (G78 p0) (p2, 12))))) (vw .go <| br (!p2.hasDefault) (vw .go <| vw .go <| lr E78 (G78 p0) (p2, 0)) (vw .go <| br (decide (p2.type.kind = (0 : Int)) && decide (p2.type.kind = (10 : Int))) (vw .go <| vw .go <| lr E78 (G78 p0) (p2, 12)) (br (decide (p2.type.kind = (0 : Int))) (vw .go <| br (!decide (p2.dflt.kind = (9 : Int))) (vw .go <| vw .go <| lr E78 (G78 p0) (p2, 12)) (vw .go <| vw .go <| cs tp 106 [.ptr (0, 0) 0 0, vS p2.type.name, vS p2.dflt.text] [(0, 0)] [((0, 0), ⟨0, true, 94, 10, [vL Zat p0.files, vS p0.f.name, vS p0.f.space, vL Zal p0.f.imports, vL ZaC p0.f.messages, vL Zan p0.f.enums, vL ZaG p0.f.services, vL Zal p0.known, vL Zal p0.messages, vL Zan p0.enums]⟩)] (Za4 p0 p2.type.name p2.dflt.text) (fun y => .tup [.d (.int .u64 y.1), vB y.2]) fun y6 => br (!y6.2) (vw .go <| vw .go <| lr E78 (G78 p0) (p2, 16)) (vw .go <| vw .go <| vw .go <| lr E78 (G78 p0) ((.mk p2.num p2.name p2.card p2.key p2.type p2.union p2.hasDefault (.mk 9 y6.1 ⟨#[]⟩ [] [] [] [] : Val) p2.notes : Fld), 0)))) (vw .go <| vw .go <| br (!decide (p2.dflt.kind = p2.type.kind)) (vw .go <| vw .go <| lr E78 (G78 p0) (p2, 12)) (vw .go <| vw .go <| lr E78 (G78 p0) (p2, 0))))))
def ZbQ (p0 : Lnk) (p1 : Bt) (p2 : Fld) : Option (Fld × Int) := (ZJx p0 p1 p2).m
theorem ZQb (p0 : Lnk) (p1 : Bt) (p2 : Fld) : KO tp 78 1 [.ptr (0, 0) 0 0, vS p1, .agg ((Zdb p2).map .d)] [⟨0, true, 94, 10, [vL Zat p0.files, vS p0.f.name, vS p0.f.space, vL Zal p0.f.imports, vL ZaC p0.f.messages, vL Zan p0.f.enums, vL ZaG p0.f.services, vL Zal p0.known, vL Zal p0.messages, vL Zan p0.enums]⟩] ct (ZbQ p0 p1 p2) E78 (G78 p0) := ko1 Tryz.func78 Tryz.ntmps78 tok [.cell 6 84, .tmp 7] 1 (fun C co hT y m Post L => fO co m L fun r g => ⟨fun y1 => ⟨id, fun y2 => ⟨⟨id, ⟨id, ⟨⟨id, ⟨fun y hy => s6 (ZFj p0 y1.1 p2.dflt.text) hy co g [((0, 0), ⟨0, true, 94, 10, [vL Zat p0.files, vS p0.f.name, vS p0.f.space, vL Zal p0.f.imports, vL ZaC p0.f.messages, vL Zan p0.f.enums, vL ZaG p0.f.services, vL Zal p0.known, vL Zal p0.messages, vL Zan p0.enums]⟩)] [], fun y3 => ⟨id, id⟩⟩⟩, ⟨id, id⟩⟩⟩⟩, ⟨fun y hy => s6 (ZNp p0 y1.1) hy co g [((0, 0), ⟨0, true, 94, 10, [vL Zat p0.files, vS p0.f.name, vS p0.f.space, vL Zal p0.f.imports, vL ZaC p0.f.messages, vL Zan p0.f.enums, vL ZaG p0.f.services, vL Zal p0.known, vL Zal p0.messages, vL Zan p0.enums]⟩)] [], fun y4 => ⟨⟨id, ⟨id, ⟨⟨id, ⟨fun y hy => s6 (ZFj p0 y1.1 p2.dflt.text) hy co g [((0, 0), ⟨0, true, 94, 10, [vL Zat p0.files, vS p0.f.name, vS p0.f.space, vL Zal p0.f.imports, vL ZaC p0.f.messages, vL Zan p0.f.enums, vL ZaG p0.f.services, vL Zal p0.known, vL Zal p0.messages, vL Zan p0.enums]⟩)] [], fun y5 => ⟨id, id⟩⟩⟩, ⟨id, id⟩⟩⟩⟩, id⟩⟩⟩⟩, ⟨id, ⟨id, ⟨⟨id, ⟨fun y hy => s6 (ZFj p0 p2.type.name p2.dflt.text) hy co g [((0, 0), ⟨0, true, 94, 10, [vL Zat p0.files, vS p0.f.name, vS p0.f.space, vL Zal p0.f.imports, vL ZaC p0.f.messages, vL Zan p0.f.enums, vL ZaG p0.f.services, vL Zal p0.known, vL Zal p0.messages, vL Zan p0.enums]⟩)] [], fun y6 => ⟨id, id⟩⟩⟩, ⟨id, id⟩⟩⟩⟩⟩)
abbrev E38 : Msg × Int → AV := fun y => .tup [.agg ((ZaC y.1).map .d), vI y.2]
@[reducible] def G38 (p0 : Lnk) : Msg × Int → List Blk := fun y => [⟨0, true, 94, 10, [vL Zat p0.files, vS p0.f.name, vS p0.f.space, vL Zal p0.f.imports, vL ZaC p0.f.messages, vL Zan p0.f.enums, vL ZaG p0.f.services, vL Zal p0.known, vL Zal p0.messages, vL Zan p0.enums]⟩]
section
variable {C : Cx} (p0 : Lnk) (p1 : Msg) (y1 : Bt) (y2 : List Fld)
abbrev Zs5 := PT 1 (Msg × Int)
abbrev Zw8 : Blk := ⟨0, true, 94, 10, [vL Zat p0.files, vS p0.f.name, vS p0.f.space, vL Zal p0.f.imports, vL ZaC p0.f.messages, vL Zan p0.f.enums, vL ZaG p0.f.services, vL Zal p0.known, vL Zal p0.messages, vL Zan p0.enums]⟩
abbrev ZvW : Blk := ⟨0, true, 48, 5, [vS ⟨#[]⟩, .e0, .e0, .e0, .e0]⟩
abbrev ZCA : Blk := ⟨0, true, 48, 5, [vS y1, .ref (1, 21) 0 0 y2.length, vL Zd0 p1.reserved, vL Zal p1.gone, vL eNt p1.notes]⟩
abbrev ZGs : List (Key × Blk) := [((0, 0), (Zw8 p0)), ((1, 3), ⟨0, true, 48, 5, [vS y1, vL Zdb p1.fields, vL Zd0 p1.reserved, vL Zal p1.gone, vL eNt p1.notes]⟩), ((1, 4), ZvW)]
abbrev ZJL : List (Nat × AV) := [(0, .ptr (0, 0) 0 0), (3, .ptr (1, 3) 0 0), (4, .ptr (1, 4) 0 0)]
abbrev ZKF : List (Key × Bool) := [((0, 0), false), ((1, 3), false), ((1, 4), false), ((1, 21), true)]
def ZBM : Nat × List Fld → St := fun (v3, r4) => mkS [(0, .ptr (0, 0) 0 0), (3, .ptr (1, 3) 0 0), (4, .ptr (1, 4) 0 0), (24, .ref (1, 21) 0 0 y2.length), (25, vN y2.length), (26, vN v3)] [((0, 0), (Zw8 p0)), ((1, 3), (ZCA p1 y1 y2)), ((1, 4), ZvW), ((1, 21), ⟨0, true, 84, 16, Zav Zdb r4⟩)]
def ZHk : List Fld → Nat × St := fun r7 => (0, mkS [(3, .ptr (1, 3) 0 0), (4, .ptr (1, 4) 0 0)] [((0, 0), (Zw8 p0)), ((1, 3), (ZCA p1 y1 y2)), ((1, 4), ZvW), ((1, 21), ⟨0, true, 84, 16, Zav Zdb r7⟩)])
def ZBA (v3 : Nat) (r4 : List Fld) : PT 1 (Lv (Nat × List Fld) (List Fld) (Msg × Int)) := br (decide ((v3 : Int) < (y2.length : Int))) (vs (ir v3 y2.length 16) <| ca r4 v3 fun e5 => vw .go <| vw .go <| vw .go <| cs tp 78 [.ptr (0, 0) 0 0, vS y1, .agg ((Zdb e5).map .d)] [(0, 0)] [((0, 0), ⟨0, true, 94, 10, [vL Zat p0.files, vS p0.f.name, vS p0.f.space, vL Zal p0.f.imports, vL ZaC p0.f.messages, vL Zan p0.f.enums, vL ZaG p0.f.services, vL Zal p0.known, vL Zal p0.messages, vL Zan p0.enums]⟩)] (ZbQ p0 y1 e5) (fun y => .tup [.agg ((Zdb y.1).map .d), vI y.2]) fun y6 => vw .go <| br (!decide (y6.2 = (0 : Int))) (vw .go <| vw .go <| vs (frt y2.length r4) <| lrt E38 (G38 p0) ((.mk y1 r4 p1.reserved p1.gone p1.notes : Msg), y6.2)) (vw .go <| vw .go <| vs (ir v3 y2.length 16) <| vs (st r4 v3 y6.1) <| vs (wa v3 1) <| vz (fl (r4.set v3 y6.1)) <| ln (ZBM p0 p1 y1 y2) (v3 + 1, r4.set v3 y6.1))) (vz (fl r4) <| lxe (ZHk p0 p1 y1 y2) r4)
def ZtK := fun ((v3, r4) : Nat × List Fld) => (ZBA p0 p1 y1 y2 v3 r4).m
def ZKb (r7 : List Fld) : Zs5 := vw .go <| vw .go <| vs (frt y2.length r7) <| lr E38 (G38 p0) ((.mk y1 r7 p1.reserved p1.gone p1.notes : Msg), 0)
def ZIr : Zs5 := vw .go <| vz (eqN y2.length) <| vz (fl y2) <| lc (ZBM p0 p1 y1 y2 (0, y2)) ((Zaa (ZtK p0 p1 y1 y2) big (0, y2)).bind (Sum.elim (fun r7 => (ZKb p0 p1 y1 y2 r7).m) some))
def ZJi : Zs5 := vw .go <| vz (fl y2) <| lc (mkS ZJL [((0, 0), (Zw8 p0)), ((1, 3), (ZCA p1 y1 y2)), ((1, 4), ZvW), ((1, 21), ⟨0, true, 84, 16, Zav Zdb y2⟩)]) ((ZIr p0 p1 y1 y2).m)
def ZFZ : Zs5 := vw .go <| lc (mkS [(0, .ptr (0, 0) 0 0), (3, .ptr (1, 3) 0 0), (4, .ptr (1, 4) 0 0), (20, vL Zdb p1.fields)] (ZGs p0 p1 y1)) ((Zdm p1.fields).bind fun y2 => (ZJi p0 p1 y1 y2).m)
def ZHj : Zs5 := vw .go <| vw .go <| cl (ZCr p0.f.space p1.name) fun y1 => vw .go <| lc (mkS ZJL (ZGs p0 p1 y1)) ((ZFZ p0 p1 y1).m)
def ZaY (p0 : Lnk) (p1 : Msg) : Option (Msg × Int) := (ZHj p0 p1).m
theorem ZDU (co : CO C 1) : Kl 50 C (pa [0, 0, 1, 0, 1, 1, 1] (Zac Tryz.f38)) [.cell 4 48, .tmp 5] 1 (ZBM p0 p1 y1 y2) (ZHk p0 p1 y1 y2) E38 (G38 p0) (ZtK p0 p1 y1 y2) := fun (v3, r4) _ m Q Post hQ L => eN co (lf2 [0, 3, 4, 24, 25, 26] ZKF) (lf2 [3, 4] ZKF) hQ m L fun r g => ⟨fun e5 => ⟨fun y hy => s6 (ZQb p0 y1 e5) hy co g [((0, 0), ⟨0, true, 94, 10, [vL Zat p0.files, vS p0.f.name, vS p0.f.space, vL Zal p0.f.imports, vL ZaC p0.f.messages, vL Zan p0.f.enums, vL ZaG p0.f.services, vL Zal p0.known, vL Zal p0.messages, vL Zan p0.enums]⟩)] [], fun y6 => ⟨id, id⟩⟩, id⟩
end
theorem ZQX (p0 : Lnk) (p1 : Msg) : KO tp 38 1 [.ptr (0, 0) 0 0, .agg ((ZaC p1).map .d)] [⟨0, true, 94, 10, [vL Zat p0.files, vS p0.f.name, vS p0.f.space, vL Zal p0.f.imports, vL ZaC p0.f.messages, vL Zan p0.f.enums, vL ZaG p0.f.services, vL Zal p0.known, vL Zal p0.messages, vL Zan p0.enums]⟩] ct (ZaY p0 p1) E38 (G38 p0) := kO Tryz.func38 Tryz.ntmps38 [.cell 4 48, .tmp 5] 1 (fun co hT m L => mK co 2 (lf2 [0, 3, 4] [((0, 0), false), ((1, 3), false), ((1, 4), false)]) m L fun r g y1 _ m L => sq (rg (pR co 2 (lf2 [0, 3, 4, 20] [((0, 0), false), ((1, 3), false), ((1, 4), false)]) m L fun r g _ m L => c6 co m (ZQE p1.fields) [((1, 21), ⟨0, false, 0, 0, []⟩)] [] (fun z => .ref (1, 21) 1 0 z.length) (fun z => [((1, 21), ⟨1, true, 84, 16, Zav Zdb z⟩)]) [] fun y2 m => eR co (lf2 [0, 3, 4] [((0, 0), false), ((1, 3), false), ((1, 4), false), ((1, 21), true)]) m L fun r g _ m L => sq (mK co 1 (lf2 [0, 3, 4, 24, 25, 26] [((0, 0), false), ((1, 3), false), ((1, 4), false), ((1, 21), true)]) m L fun r g _ m L => bk 0 (lo (lpF (ZDU p0 p1 y1 y2 co) ii m L (fun r7 m => fO co m L)))))))
abbrev E79 : List Mth → AV := fun y => .ref (0, 0) 1 0 y.length
@[reducible] def G79 : List Mth → List Blk := fun y => [⟨1, true, 130, 5, Zav Zdv y⟩]
def ZKN (p0 : List Mth) : PT 1 (List Mth) := al Zdv p0 false fun b1 => br b1 (vw .sep <| vw (.ads 2 2 130 5) <| mv 2 0 ([] : List Mth) <| lr E79 (G79) ([] : List Mth)) (a0 p0 <| mv 7 0 p0 <| lr E79 (G79) p0)
def Zc4 (p0 : List Mth) : Option (List Mth) := (ZKN p0).m
theorem ZRd (p0 : List Mth) : KO tp 79 1 [vL Zdv p0] [⟨0, false, 0, 0, []⟩] ct (Zc4 p0) E79 (G79) := kO Tryz.func79 Tryz.ntmps79 [.tmp 2] 1 (fun co hT m L => fO co m L)
@[reducible] def G80 (p0 : Lnk) : Bt × Int → List Blk := fun y => [⟨0, true, 94, 10, [vL Zat p0.files, vS p0.f.name, vS p0.f.space, vL Zal p0.f.imports, vL ZaC p0.f.messages, vL Zan p0.f.enums, vL ZaG p0.f.services, vL Zal p0.known, vL Zal p0.messages, vL Zan p0.enums]⟩]
def ZJu (p0 : Lnk) (p1 : Bt) : PT 1 (Bt × Int) := vw .go <| vw .go <| cl (ZG4 p0.f.space p1 p0.known) fun y1 => br (!y1.2) (lr E33 (G80 p0) (⟨#[]⟩, 8)) (vw .go <| cl (ZHX p0.messages y1.1) fun y2 => br (!y2) (lr E33 (G80 p0) (⟨#[]⟩, 12)) (lr E33 (G80 p0) (y1.1, 0)))
def Zbw (p0 : Lnk) (p1 : Bt) : Option (Bt × Int) := (ZJu p0 p1).m
theorem ZOA (p0 : Lnk) (p1 : Bt) : KO tp 80 1 [.ptr (0, 0) 0 0, vS p1] [⟨0, true, 94, 10, [vL Zat p0.files, vS p0.f.name, vS p0.f.space, vL Zal p0.f.imports, vL ZaC p0.f.messages, vL Zan p0.f.enums, vL ZaG p0.f.services, vL Zal p0.known, vL Zal p0.messages, vL Zan p0.enums]⟩] ct (Zbw p0 p1) E33 (G80 p0) := kO Tryz.func80 Tryz.ntmps80 [.tmp 4, .tmp 5] 1 (fun co hT m L => fO co m L)
abbrev E39 : Svc × Int → AV := fun y => .tup [.agg ((ZaG y.1).map .d), vI y.2]
@[reducible] def G39 (p0 : Lnk) : Svc × Int → List Blk := fun y => [⟨0, true, 94, 10, [vL Zat p0.files, vS p0.f.name, vS p0.f.space, vL Zal p0.f.imports, vL ZaC p0.f.messages, vL Zan p0.f.enums, vL ZaG p0.f.services, vL Zal p0.known, vL Zal p0.messages, vL Zan p0.enums]⟩]
section
variable {C : Cx} (p0 : Lnk) (p1 : Svc) (y1 : Bt) (y2 : List Mth)
abbrev Zsb := PT 1 (Svc × Int)
abbrev Zvf : Blk := ⟨0, true, 94, 10, [vL Zat p0.files, vS p0.f.name, vS p0.f.space, vL Zal p0.f.imports, vL ZaC p0.f.messages, vL Zan p0.f.enums, vL ZaG p0.f.services, vL Zal p0.known, vL Zal p0.messages, vL Zan p0.enums]⟩
abbrev Zw0 : Blk := ⟨0, true, 62, 3, [vS ⟨#[]⟩, .e0, .e0]⟩
abbrev ZFa : Blk := ⟨0, true, 62, 3, [vS y1, .ref (1, 22) 0 0 y2.length, vL eNt p1.notes]⟩
abbrev ZGI : List (Key × Blk) := [((0, 0), (Zvf p0)), ((1, 3), ⟨0, true, 62, 3, [vS y1, vL Zdv p1.methods, vL eNt p1.notes]⟩), ((1, 4), Zw0)]
abbrev ZLp : List (Nat × AV) := [(0, .ptr (0, 0) 0 0), (3, .ptr (1, 3) 0 0), (4, .ptr (1, 4) 0 0)]
abbrev ZI4 : List (Key × Bool) := [((0, 0), false), ((1, 3), false), ((1, 4), false), ((1, 22), true)]
def ZAU : Nat × List Mth → St := fun (v3, r4) => mkS [(0, .ptr (0, 0) 0 0), (3, .ptr (1, 3) 0 0), (4, .ptr (1, 4) 0 0), (26, vN y2.length), (27, vN v3)] [((0, 0), (Zvf p0)), ((1, 3), (ZFa p1 y1 y2)), ((1, 4), Zw0), ((1, 22), ⟨0, true, 130, 5, Zav Zdv r4⟩)]
def ZHu : List Mth → Nat × St := fun r13 => (0, mkS [(3, .ptr (1, 3) 0 0), (4, .ptr (1, 4) 0 0)] [((0, 0), (Zvf p0)), ((1, 3), (ZFa p1 y1 y2)), ((1, 4), Zw0), ((1, 22), ⟨0, true, 130, 5, Zav Zdv r13⟩)])
def ZDh (v3 : Nat) (r4 : List Mth) : PT 1 (Lv (Nat × List Mth) (List Mth) (Svc × Int)) := br (decide ((v3 : Int) < (y2.length : Int))) (vw .go <| vs (ir v3 y2.length 5) <| cp r4 v3 1 1 fun e5 => cs tp 80 [.ptr (0, 0) 0 0, vS e5.inn] [(0, 0)] [((0, 0), ⟨0, true, 94, 10, [vL Zat p0.files, vS p0.f.name, vS p0.f.space, vL Zal p0.f.imports, vL ZaC p0.f.messages, vL Zan p0.f.enums, vL ZaG p0.f.services, vL Zal p0.known, vL Zal p0.messages, vL Zan p0.enums]⟩)] (Zbw p0 e5.inn) (fun y => .tup [vS y.1, vI y.2]) fun y6 => br (!decide (y6.2 = (0 : Int))) (vw .go <| vw .go <| vs (frt y2.length r4) <| lrt E39 (G39 p0) ((.mk y1 r4 p1.notes : Svc), y6.2)) (cp r4 v3 2 1 fun e7 => cs tp 80 [.ptr (0, 0) 0 0, vS e7.out] [(0, 0)] [((0, 0), ⟨0, true, 94, 10, [vL Zat p0.files, vS p0.f.name, vS p0.f.space, vL Zal p0.f.imports, vL ZaC p0.f.messages, vL Zan p0.f.enums, vL ZaG p0.f.services, vL Zal p0.known, vL Zal p0.messages, vL Zan p0.enums]⟩)] (Zbw p0 e7.out) (fun y => .tup [vS y.1, vI y.2]) fun y8 => br (!decide (y8.2 = (0 : Int))) (vw .go <| vw .go <| vs (frt y2.length r4) <| lrt E39 (G39 p0) ((.mk y1 r4 p1.notes : Svc), y8.2)) (stp r4 v3 1 [(.str y6.1)] (fun e9 => (.mk e9.name y6.1 e9.out e9.shape e9.notes : Mth)) (fun _ => rfl) fun l10 => stp l10 v3 2 [(.str y8.1)] (fun e11 => (.mk e11.name e11.inn y8.1 e11.shape e11.notes : Mth)) (fun _ => rfl) fun l12 => vs (wa v3 1) <| vz (fl l12) <| ln (ZAU p0 p1 y1 y2) (v3 + 1, l12)))) (vz (fl r4) <| lxe (ZHu p0 p1 y1 y2) r4)
def Zrx := fun ((v3, r4) : Nat × List Mth) => (ZDh p0 p1 y1 y2 v3 r4).m
def ZHC (r13 : List Mth) : Zsb := vw .go <| vw .go <| vs (frt y2.length r13) <| lr E39 (G39 p0) ((.mk y1 r13 p1.notes : Svc), 0)
def ZHI : Zsb := vw .go <| vz (eqN y2.length) <| vz (fl y2) <| lc (ZAU p0 p1 y1 y2 (0, y2)) ((Zaa (Zrx p0 p1 y1 y2) big (0, y2)).bind (Sum.elim (fun r13 => (ZHC p0 p1 y1 y2 r13).m) some))
def ZG7 : Zsb := vw .go <| vz (fl y2) <| lc (mkS ZLp [((0, 0), (Zvf p0)), ((1, 3), (ZFa p1 y1 y2)), ((1, 4), Zw0), ((1, 22), ⟨0, true, 130, 5, Zav Zdv y2⟩)]) ((ZHI p0 p1 y1 y2).m)
def ZIZ : Zsb := vw .go <| lc (mkS [(0, .ptr (0, 0) 0 0), (3, .ptr (1, 3) 0 0), (4, .ptr (1, 4) 0 0), (21, vL Zdv p1.methods)] (ZGI p0 p1 y1)) ((Zc4 p1.methods).bind fun y2 => (ZG7 p0 p1 y1 y2).m)
def ZLu : Zsb := vw .go <| vw .go <| cl (ZCr p0.f.space p1.name) fun y1 => vw .go <| lc (mkS ZLp (ZGI p0 p1 y1)) ((ZIZ p0 p1 y1).m)
def ZaZ (p0 : Lnk) (p1 : Svc) : Option (Svc × Int) := (ZLu p0 p1).m
theorem ZB4 (co : CO C 1) : Kl 70 C (pa [0, 0, 1, 0, 1, 1, 1] (Zac Tryz.f39)) [.cell 4 62, .tmp 5] 1 (ZAU p0 p1 y1 y2) (ZHu p0 p1 y1 y2) E39 (G39 p0) (Zrx p0 p1 y1 y2) := fun (v3, r4) _ m Q Post hQ L => eN co (lf2 [0, 3, 4, 26, 27] ZI4) (lf2 [3, 4] ZI4) hQ m L fun r g => ⟨fun e5 => ⟨fun y hy => s6 (ZOA p0 e5.inn) hy co g [((0, 0), ⟨0, true, 94, 10, [vL Zat p0.files, vS p0.f.name, vS p0.f.space, vL Zal p0.f.imports, vL ZaC p0.f.messages, vL Zan p0.f.enums, vL ZaG p0.f.services, vL Zal p0.known, vL Zal p0.messages, vL Zan p0.enums]⟩)] [], fun y6 => ⟨id, fun e7 => ⟨fun y hy => s6 (ZOA p0 e7.out) hy co g [((0, 0), ⟨0, true, 94, 10, [vL Zat p0.files, vS p0.f.name, vS p0.f.space, vL Zal p0.f.imports, vL ZaC p0.f.messages, vL Zan p0.f.enums, vL ZaG p0.f.services, vL Zal p0.known, vL Zal p0.messages, vL Zan p0.enums]⟩)] [], fun y8 => ⟨id, fun l10 l12 => id⟩⟩⟩⟩, id⟩
end
theorem ZPU (p0 : Lnk) (p1 : Svc) : KO tp 39 1 [.ptr (0, 0) 0 0, .agg ((ZaG p1).map .d)] [⟨0, true, 94, 10, [vL Zat p0.files, vS p0.f.name, vS p0.f.space, vL Zal p0.f.imports, vL ZaC p0.f.messages, vL Zan p0.f.enums, vL ZaG p0.f.services, vL Zal p0.known, vL Zal p0.messages, vL Zan p0.enums]⟩] ct (ZaZ p0 p1) E39 (G39 p0) := kO Tryz.func39 Tryz.ntmps39 [.cell 4 62, .tmp 5] 1 (fun co hT m L => mK co 2 (lf2 [0, 3, 4] [((0, 0), false), ((1, 3), false), ((1, 4), false)]) m L fun r g y1 _ m L => sq (rg (pR co 2 (lf2 [0, 3, 4, 21] [((0, 0), false), ((1, 3), false), ((1, 4), false)]) m L fun r g _ m L => c6 co m (ZRd p1.methods) [((1, 22), ⟨0, false, 0, 0, []⟩)] [] (fun z => .ref (1, 22) 1 0 z.length) (fun z => [((1, 22), ⟨1, true, 130, 5, Zav Zdv z⟩)]) [] fun y2 m => eR co (lf2 [0, 3, 4] [((0, 0), false), ((1, 3), false), ((1, 4), false), ((1, 22), true)]) m L fun r g _ m L => sq (mK co 1 (lf2 [0, 3, 4, 26, 27] [((0, 0), false), ((1, 3), false), ((1, 4), false), ((1, 22), true)]) m L fun r g _ m L => bk 0 (lo (lpF (ZB4 p0 p1 y1 y2 co) ii m L (fun r13 m => fO co m L)))))))
abbrev E9 : Scm × Bt × Int → AV := fun y => .tup [.agg ((Zj4 y.1).map .d), vS y.2.1, vI y.2.2]
section
variable {C : Cx} (co : CO C 0) (p0 : List Fil) (v3 : Nat) (r4 : List Bt) (e6 : Fil) (y7 : List Bt × List Bt × List Bt) (v8 : Nat) (r9 : List Enm) (e10 : Enm) (y11 : Bt) (r5 r14 y15 : List Enm) (v16 : Nat) (r18 : List Svc) (c26 : List Bt) (e27 : Fil) (y28 : List Bt) (y32 : Msg × Int) (v29 : Nat) (r30 r33 : List Msg) (y37 : Svc × Int) (v34 : Nat) (r35 : List Svc) (r17 : List Msg) (y41 : List Msg × List Enm × List Svc) (r13 : List Bt)
abbrev ZKe := PT 0 (Lv (Nat × List Msg × List Svc × Bt × Bt × List Bt × List Msg × List Enm × List Svc × List Bt × List Bt) (List Msg × List Svc) (Scm × Bt × Int))
abbrev ZNQ := PT 0 (Lv (Nat × List Bt × List Enm) (List Bt × List Enm) (Scm × Bt × Int))
abbrev ZL1 := PT 0 (Lv (Nat × List Enm) (List Enm) (Scm × Bt × Int))
abbrev ZzL := PT 0 (Lv (Nat × List Msg) (List Msg) (Scm × Bt × Int))
abbrev ZzY := PT 0 (Lv (Nat × List Svc) (List Svc) (Scm × Bt × Int))
abbrev ZuM := PT 0 (Scm × Bt × Int)
abbrev Ztq : Blk := ⟨0, true, 94, 10, [vL Zat p0, vS e27.name, vS e27.space, vL Zal e27.imports, vL ZaC e27.messages, vL Zan e27.enums, vL ZaG e27.services, vL Zal y28, vL Zal c26, vL Zan r14]⟩
abbrev ZNa : List (Key × Blk) := [((1, 2), ⟨0, true, 26, 3, [.e0, .e0, .e0]⟩), ((1, 18), ⟨0, true, 26, 3, [.ref (1, 1180) 0 0 r30.length, .ref (1, 103) 0 0 y15.length, .ref (1, 1182) 0 0 r18.length]⟩), ((1, 20), ⟨0, true, 86, 6, [vS e27.name, vS e27.space, vL Zal e27.imports, vL ZaC e27.messages, vL Zan e27.enums, vL ZaG e27.services]⟩), ((1, 23), ⟨0, true, 48, 5, [vS y32.1.name, vL Zdb y32.1.fields, vL Zd0 y32.1.reserved, vL Zal y32.1.gone, vL eNt y32.1.notes]⟩), ((1, 52), (Ztq p0 r14 c26 e27 y28)), ((1, 103), o55 y15), ((1, 1180), o48 r30), ((1, 1182), o62 r18)]
abbrev Zgo : Blk := ⟨0, true, 26, 3, [.e0, .e0, .e0]⟩
abbrev ZCS : List (Key × Blk) := [((1, 2), Zgo), ((1, 18), ⟨0, true, 26, 3, [.ref (1, 1180) 0 0 r33.length, .ref (1, 103) 0 0 y15.length, .ref (1, 1182) 0 0 r35.length]⟩), ((1, 27), ⟨0, true, 62, 3, [vS y37.1.name, vL Zdv y37.1.methods, vL eNt y37.1.notes]⟩), ((1, 52), (Ztq p0 r14 c26 e27 y28)), ((1, 103), o55 y15), ((1, 1180), o48 r33), ((1, 1182), o62 r35)]
abbrev Zl5 : List (Key × Bool) := [((1, 2), false), ((1, 18), false), ((1, 52), false), ((1, 103), true), ((1, 1180), true), ((1, 1182), true)]
abbrev ZoO : List (Key × Bool) := [((1, 2), false), ((1, 18), false), ((1, 20), false), ((1, 52), false), ((1, 103), true), ((1, 1180), true), ((1, 1182), true)]
abbrev Zsw : Blk := ⟨0, true, 86, 6, [vS e27.name, vS e27.space, vL Zal e27.imports, vL ZaC e27.messages, vL Zan e27.enums, vL ZaG e27.services]⟩
abbrev ZCl : List (Nat × AV) := [(0, vL Zat p0), (2, .ptr (1, 2) 0 0), (10, .ptr (1, 52) 0 0), (18, .ptr (1, 18) 0 0), (20, .ptr (1, 20) 0 0), (105, vL Zat p0), (106, vN p0.length), (107, vN v16), (122, vL ZaC e27.messages), (123, vN e27.messages.length), (124, vN v29)]
abbrev ZIg : List (Key × Blk) := [((1, 2), Zgo), ((1, 12), ⟨0, true, 86, 6, [vS e6.name, vS e6.space, vL Zal e6.imports, vL ZaC e6.messages, vL Zan e6.enums, vL ZaG e6.services]⟩), ((1, 52), ⟨0, true, 94, 10, [vL Zat p0, vS ⟨#[]⟩, vS ⟨#[]⟩, .e0, .e0, .e0, .e0, .e0, .ref (1, 1528) 0 0 (r4 ++ y7.1).length, .ref (1, 1529) 0 0 r9.length]⟩), ((1, 1528), o9 (r4 ++ y7.1)), ((1, 1529), o55 r9)]
abbrev ZEb : List (Nat × AV) := [(0, vL Zat p0), (2, .ptr (1, 2) 0 0), (10, .ptr (1, 52) 0 0), (18, .ptr (1, 18) 0 0), (105, vL Zat p0), (106, vN p0.length), (107, vN v16), (148, vL ZaG e27.services), (149, vN e27.services.length), (150, vN v34)]
abbrev ZDs : List (Nat × AV) := [(0, vL Zat p0), (2, .ptr (1, 2) 0 0), (10, .ptr (1, 52) 0 0), (12, .ptr (1, 12) 0 0), (53, vL Zat p0), (54, vN p0.length), (55, vN v3), (75, vL Zan e6.enums), (76, vN e6.enums.length), (77, vN v8)]
abbrev ZLc : List (Key × Blk) := [((1, 2), Zgo), ((1, 18), ⟨0, true, 26, 3, [.e0, .ref (1, 103) 0 0 y15.length, .e0]⟩), ((1, 52), ⟨0, true, 94, 10, [vL Zat p0, vS ⟨#[]⟩, vS ⟨#[]⟩, .e0, .e0, .e0, .e0, .e0, .ref (1, 1528) 0 0 r13.length, vL Zan r14]⟩), ((1, 103), o55 y15), ((1, 1528), o9 r13)]
abbrev ZD0 : List (Key × Bool) := [((1, 2), false), ((1, 18), false), ((1, 20), false), ((1, 23), false), ((1, 52), false), ((1, 103), true), ((1, 1180), true), ((1, 1182), true)]
abbrev Zxi : List (Key × Bool) := [((1, 2), false), ((1, 12), false), ((1, 52), false), ((1, 1528), true), ((1, 1529), true)]
abbrev ZBb : List (Nat × AV) := [(0, vL Zat p0), (2, .ptr (1, 2) 0 0), (10, .ptr (1, 52) 0 0), (18, .ptr (1, 18) 0 0), (105, vL Zat p0), (106, vN p0.length), (107, vN v16)]
abbrev ZJd : List (Key × Blk) := [((1, 2), Zgo), ((1, 52), ⟨0, true, 94, 10, [vL Zat p0, vS ⟨#[]⟩, vS ⟨#[]⟩, .e0, .e0, .e0, .e0, .e0, .ref (1, 1528) 0 0 r4.length, .ref (1, 1529) 0 0 r5.length]⟩), ((1, 1528), o9 r4), ((1, 1529), o55 r5)]
abbrev ZAe : List (Key × Bool) := [((1, 2), false), ((1, 18), false), ((1, 27), false), ((1, 52), false), ((1, 103), true), ((1, 1180), true), ((1, 1182), true)]
abbrev ZwO : List (Key × Bool) := [((1, 2), false), ((1, 52), false), ((1, 1528), true), ((1, 1529), true)]
abbrev ZEu : List (Nat × AV) := [(0, vL Zat p0), (2, .ptr (1, 2) 0 0), (10, .ptr (1, 52) 0 0), (53, vL Zat p0), (54, vN p0.length), (55, vN v3)]
abbrev ZHH : List (Nat × AV) := [(0, vL Zat p0), (2, .ptr (1, 2) 0 0), (10, .ptr (1, 52) 0 0), (18, .ptr (1, 18) 0 0), (20, .ptr (1, 20) 0 0), (105, vL Zat p0), (106, vN p0.length), (107, vN v16)]
abbrev ZxT : List Nat := [0, 2, 10, 18, 20, 105, 106, 107, 122, 123, 124]
abbrev Zw1 : List Nat := [0, 2, 10, 18, 105, 106, 107, 148, 149, 150]
abbrev ZGL : List (Key × Blk) := [((1, 2), Zgo), ((1, 52), ⟨0, true, 94, 10, [vL Zat p0, vS ⟨#[]⟩, vS ⟨#[]⟩, .e0, .e0, .e0, .e0, .e0, .e0, .e0]⟩)]
abbrev ZvM : List Nat := [0, 2, 10, 12, 53, 54, 55, 75, 76, 77]
abbrev ZA0 : List Nat := [0, 2, 10, 18, 105, 106, 107]
abbrev ZuC (t : List (Nat × AV)) : List (Nat × AV) := (0, vL Zat p0) :: (2, .ptr (1, 2) 0 0) :: (10, .ptr (1, 52) 0 0) :: t
def ZNM : Nat × List Bt × List Enm → St := fun (v3, r4, r5) => mkS (ZEu p0 v3) (ZJd p0 r4 r5)
def ZOJ : List Bt × List Enm → Nat × St := fun (r13, r14) => (0, mkS [(0, vL Zat p0), (2, .ptr (1, 2) 0 0), (10, .ptr (1, 52) 0 0)] [((1, 2), Zgo), ((1, 52), ⟨0, true, 94, 10, [vL Zat p0, vS ⟨#[]⟩, vS ⟨#[]⟩, .e0, .e0, .e0, .e0, .e0, .ref (1, 1528) 0 0 r13.length, .ref (1, 1529) 0 0 r14.length]⟩), ((1, 1528), o9 r13), ((1, 1529), o55 r14)])
def ZMb : Nat × List Enm → St := fun (v8, r9) => mkS (ZDs p0 v3 e6 v8) (ZIg p0 r4 e6 y7 r9)
def ZN8 : List Enm → Nat × St := fun r12 => (2, mkS (ZEu p0 v3) [((1, 2), Zgo), ((1, 52), ⟨0, true, 94, 10, [vL Zat p0, vS ⟨#[]⟩, vS ⟨#[]⟩, .e0, .e0, .e0, .e0, .e0, .ref (1, 1528) 0 0 (r4 ++ y7.1).length, .ref (1, 1529) 0 0 r12.length]⟩), ((1, 1528), o9 (r4 ++ y7.1)), ((1, 1529), o55 r12)])
def ZMS : ZL1 := vs (wa v8 1) <| vz (fl (r4 ++ y7.1)) <| vz (fl (r9 ++ ([(.mk y11 e10.opn e10.items e10.reserved e10.notes : Enm)]))) <| ln (ZMb p0 v3 r4 e6 y7) (v8 + 1, r9 ++ ([(.mk y11 e10.opn e10.items e10.reserved e10.notes : Enm)]))
def ZLB : ZL1 := vw .go <| vw .go <| vw .sep <| ap r9 ((.mk y11 e10.opn e10.items e10.reserved e10.notes : Enm) : Enm) <| vw .go <| vz (fl (r4 ++ y7.1)) <| vz (fl (r9 ++ ([(.mk y11 e10.opn e10.items e10.reserved e10.notes : Enm)]))) <| lc (mkS (ZDs p0 v3 e6 v8) [((1, 2), Zgo), ((1, 12), ⟨0, true, 86, 6, [vS e6.name, vS e6.space, vL Zal e6.imports, vL ZaC e6.messages, vL Zan e6.enums, vL ZaG e6.services]⟩), ((1, 52), ⟨0, true, 94, 10, [vL Zat p0, vS ⟨#[]⟩, vS ⟨#[]⟩, .e0, .e0, .e0, .e0, .e0, .ref (1, 1528) 0 0 (r4 ++ y7.1).length, .ref (1, 1529) 0 0 (r9 ++ ([(.mk y11 e10.opn e10.items e10.reserved e10.notes : Enm)])).length]⟩), ((1, 1528), o9 (r4 ++ y7.1)), ((1, 1529), o55 (r9 ++ ([(.mk y11 e10.opn e10.items e10.reserved e10.notes : Enm)])))]) ((ZMS p0 v3 r4 e6 y7 v8 r9 e10 y11).m)
def ZNC : ZL1 := ix e6.enums v8 fun e10 => vw .go <| vw .go <| vw .go <| cl (ZCr e6.space e10.name) fun y11 => vw .go <| vz (fl (r4 ++ y7.1)) <| vz (fl r9) <| lc (mkS (ZuC p0 [(12, .ptr (1, 12) 0 0), (17, .ptr (1, 17) 0 0), (53, vL Zat p0), (54, vN p0.length), (55, vN v3), (75, vL Zan e6.enums), (76, vN e6.enums.length), (77, vN v8)]) [((1, 2), Zgo), ((1, 12), ⟨0, true, 86, 6, [vS e6.name, vS e6.space, vL Zal e6.imports, vL ZaC e6.messages, vL Zan e6.enums, vL ZaG e6.services]⟩), ((1, 17), ⟨0, true, 55, 5, [vS y11, vB e10.opn, vL Ze1 e10.items, vL Zd0 e10.reserved, vL eNt e10.notes]⟩), ((1, 52), ⟨0, true, 94, 10, [vL Zat p0, vS ⟨#[]⟩, vS ⟨#[]⟩, .e0, .e0, .e0, .e0, .e0, .ref (1, 1528) 0 0 (r4 ++ y7.1).length, .ref (1, 1529) 0 0 r9.length]⟩), ((1, 1528), o9 (r4 ++ y7.1)), ((1, 1529), o55 r9)]) ((ZLB p0 v3 r4 e6 y7 v8 r9 e10 y11).m)
def ZMX : ZL1 := br (decide ((v8 : Int) < (e6.enums.length : Int))) (vz (fl (r4 ++ y7.1)) <| vz (fl r9) <| lc (mkS (ZDs p0 v3 e6 v8) (ZIg p0 r4 e6 y7 r9)) ((ZNC p0 v3 r4 e6 y7 v8 r9).m)) (vz (fl (r4 ++ y7.1)) <| vz (fl r9) <| lxe (ZN8 p0 v3 r4 y7) r9)
def ZFN := fun ((v8, r9) : Nat × List Enm) => (ZMX p0 v3 r4 e6 y7 v8 r9).m
def ZMx (r12 : List Enm) : ZNQ := vs (wa v3 1) <| vz (fl (r4 ++ y7.1)) <| vz (fl r12) <| ln (ZNM p0) (v3 + 1, r4 ++ y7.1, r12)
def ZMD : ZNQ := ix p0 v3 fun e6 => vw .go <| vw .go <| cl (ZHm e6) fun y7 => vw .go <| aq r4 y7.1 <| vw .go <| vw .go <| vz (eqL e6.enums) <| vz (fl (r4 ++ y7.1)) <| vz (fl r5) <| lc (ZMb p0 v3 r4 e6 y7 (0, r5)) ((Zaa (ZFN p0 v3 r4 e6 y7) big (0, r5)).bind (Sum.elim (fun r12 => (ZMx p0 v3 r4 y7 r12).m) (fun z => some (.rt z))))
def ZNR : ZNQ := br (decide ((v3 : Int) < (p0.length : Int))) (vz (fl r4) <| vz (fl r5) <| lc (mkS (ZEu p0 v3) (ZJd p0 r4 r5)) ((ZMD p0 v3 r4 r5).m)) (vz (fl r4) <| vz (fl r5) <| lxe (ZOJ p0) (r4, r5))
def ZFM := fun ((v3, r4, r5) : Nat × List Bt × List Enm) => (ZNR p0 v3 r4 r5).m
def ZNK : Nat × List Msg × List Svc × Bt × Bt × List Bt × List Msg × List Enm × List Svc × List Bt × List Bt → St := fun (v16, r17, r18, c19, c20, c21, c22, c23, c24, c25, c26) => mkS (ZBb p0 v16) [((1, 2), Zgo), ((1, 18), ⟨0, true, 26, 3, [.ref (1, 1180) 0 0 r17.length, .ref (1, 103) 0 0 y15.length, .ref (1, 1182) 0 0 r18.length]⟩), ((1, 52), ⟨0, true, 94, 10, [vL Zat p0, vS c19, vS c20, vL Zal c21, vL ZaC c22, vL Zan c23, vL ZaG c24, vL Zal c25, vL Zal c26, vL Zan r14]⟩), ((1, 103), o55 y15), ((1, 1180), o48 r17), ((1, 1182), o62 r18)]
def ZOB : List Msg × List Svc → Nat × St := fun (r39, r40) => (4, mkS [(2, .ptr (1, 2) 0 0), (18, .ptr (1, 18) 0 0)] [((1, 2), Zgo), ((1, 18), ⟨0, true, 26, 3, [.ref (1, 1180) 0 0 r39.length, .ref (1, 103) 0 0 y15.length, .ref (1, 1182) 0 0 r40.length]⟩), ((1, 103), o55 y15), ((1, 1180), o48 r39), ((1, 1182), o62 r40)])
def ZMn : Nat × List Msg → St := fun (v29, r30) => mkS (ZCl p0 v16 e27 v29) [((1, 2), Zgo), ((1, 18), ⟨0, true, 26, 3, [.ref (1, 1180) 0 0 r30.length, .ref (1, 103) 0 0 y15.length, .ref (1, 1182) 0 0 r18.length]⟩), ((1, 20), (Zsw e27)), ((1, 52), (Ztq p0 r14 c26 e27 y28)), ((1, 103), o55 y15), ((1, 1180), o48 r30), ((1, 1182), o62 r18)]
def ZOU : List Msg → Nat × St := fun r33 => (6, mkS (ZHH p0 v16) [((1, 2), Zgo), ((1, 18), ⟨0, true, 26, 3, [.ref (1, 1180) 0 0 r33.length, .ref (1, 103) 0 0 y15.length, .ref (1, 1182) 0 0 r18.length]⟩), ((1, 20), (Zsw e27)), ((1, 52), (Ztq p0 r14 c26 e27 y28)), ((1, 103), o55 y15), ((1, 1180), o48 r33), ((1, 1182), o62 r18)])
def ZM0 : ZzL := lrt E9 (fun _ => []) ((.mk [] [] [] : Scm), y32.1.name, y32.2)
def ZLH : ZzL := vw (.fzb 23 [23]) <| vw .sep <| vw .go <| lc (mkS [(2, .ptr (1, 2) 0 0), (3, vS y32.1.name), (4, vI y32.2)] [((1, 2), Zgo)]) ((ZM0 y32).m)
def ZCE : ZzL := vs (wa v29 1) <| vz (fl y15) <| vz (fl (r30 ++ [y32.1])) <| vz (fl r18) <| ln (ZMn p0 r14 y15 v16 r18 c26 e27 y28) (v29 + 1, r30 ++ [y32.1])
def ZBi : ZzL := vw .go <| vw .go <| vw .sep <| ap r30 (y32.1 : Msg) <| vw .go <| vz (fl y15) <| vz (fl (r30 ++ [y32.1])) <| vz (fl r18) <| lc (mkS (ZCl p0 v16 e27 v29) [((1, 2), Zgo), ((1, 18), ⟨0, true, 26, 3, [.ref (1, 1180) 0 0 (r30 ++ [y32.1]).length, .ref (1, 103) 0 0 y15.length, .ref (1, 1182) 0 0 r18.length]⟩), ((1, 20), (Zsw e27)), ((1, 52), (Ztq p0 r14 c26 e27 y28)), ((1, 103), o55 y15), ((1, 1180), o48 (r30 ++ [y32.1])), ((1, 1182), o62 r18)]) ((ZCE p0 r14 y15 v16 r18 c26 e27 y28 y32 v29 r30).m)
def ZB6 : ZzL := vz (fl y15) <| vz (fl r30) <| vz (fl r18) <| lc (mkS (ZuC p0 [(18, .ptr (1, 18) 0 0), (20, .ptr (1, 20) 0 0), (23, .ptr (1, 23) 0 0), (105, vL Zat p0), (106, vN p0.length), (107, vN v16), (122, vL ZaC e27.messages), (123, vN e27.messages.length), (124, vN v29)]) (ZNa p0 r14 y15 r18 c26 e27 y28 y32 r30)) ((ZBi p0 r14 y15 v16 r18 c26 e27 y28 y32 v29 r30).m)
def ZDL : ZzL := vz (fl y15) <| vz (fl r30) <| vz (fl r18) <| lc (mkS (ZuC p0 [(18, .ptr (1, 18) 0 0), (20, .ptr (1, 20) 0 0), (23, .ptr (1, 23) 0 0), (24, vI y32.2), (105, vL Zat p0), (106, vN p0.length), (107, vN v16), (122, vL ZaC e27.messages), (123, vN e27.messages.length), (124, vN v29), (135, vB (!decide (y32.2 = (0 : Int))))]) (ZNa p0 r14 y15 r18 c26 e27 y28 y32 r30)) (if (!decide (y32.2 = (0 : Int))) = true then (ZLH y32).m else (ZB6 p0 r14 y15 v16 r18 c26 e27 y28 y32 v29 r30).m)
def ZFb : ZzL := ix e27.messages v29 fun e31 => vw .go <| vw .go <| cs tp 38 [.ptr (1, 52) 0 0, .agg ((ZaC e31).map .d)] [(1, 52)] [((1, 52), ⟨0, true, 94, 10, [vL Zat p0, vS e27.name, vS e27.space, vL Zal e27.imports, vL ZaC e27.messages, vL Zan e27.enums, vL ZaG e27.services, vL Zal y28, vL Zal c26, vL Zan r14]⟩)] (ZaY (.mk p0 e27 y28 c26 r14 : Lnk) e31) (fun y => .tup [.agg ((ZaC y.1).map .d), vI y.2]) fun y32 => vw .go <| vz (fl y15) <| vz (fl r30) <| vz (fl r18) <| lc (mkS (ZuC p0 [(18, .ptr (1, 18) 0 0), (20, .ptr (1, 20) 0 0), (23, .ptr (1, 23) 0 0), (24, vI y32.2), (105, vL Zat p0), (106, vN p0.length), (107, vN v16), (122, vL ZaC e27.messages), (123, vN e27.messages.length), (124, vN v29)]) (ZNa p0 r14 y15 r18 c26 e27 y28 y32 r30)) ((ZDL p0 r14 y15 v16 r18 c26 e27 y28 y32 v29 r30).m)
def ZAL : ZzL := br (decide ((v29 : Int) < (e27.messages.length : Int))) (vz (fl y15) <| vz (fl r30) <| vz (fl r18) <| lc (mkS (ZCl p0 v16 e27 v29) [((1, 2), Zgo), ((1, 18), ⟨0, true, 26, 3, [.ref (1, 1180) 0 0 r30.length, .ref (1, 103) 0 0 y15.length, .ref (1, 1182) 0 0 r18.length]⟩), ((1, 20), (Zsw e27)), ((1, 52), (Ztq p0 r14 c26 e27 y28)), ((1, 103), o55 y15), ((1, 1180), o48 r30), ((1, 1182), o62 r18)]) ((ZFb p0 r14 y15 v16 r18 c26 e27 y28 v29 r30).m)) (vz (fl y15) <| vz (fl r30) <| vz (fl r18) <| lxe (ZOU p0 r14 y15 v16 r18 c26 e27 y28) r30)
def ZFA := fun ((v29, r30) : Nat × List Msg) => (ZAL p0 r14 y15 v16 r18 c26 e27 y28 v29 r30).m
def ZMa : Nat × List Svc → St := fun (v34, r35) => mkS (ZEb p0 v16 e27 v34) [((1, 2), Zgo), ((1, 18), ⟨0, true, 26, 3, [.ref (1, 1180) 0 0 r33.length, .ref (1, 103) 0 0 y15.length, .ref (1, 1182) 0 0 r35.length]⟩), ((1, 52), (Ztq p0 r14 c26 e27 y28)), ((1, 103), o55 y15), ((1, 1180), o48 r33), ((1, 1182), o62 r35)]
def ZOc : List Svc → Nat × St := fun r38 => (8, mkS (ZBb p0 v16) [((1, 2), Zgo), ((1, 18), ⟨0, true, 26, 3, [.ref (1, 1180) 0 0 r33.length, .ref (1, 103) 0 0 y15.length, .ref (1, 1182) 0 0 r38.length]⟩), ((1, 52), (Ztq p0 r14 c26 e27 y28)), ((1, 103), o55 y15), ((1, 1180), o48 r33), ((1, 1182), o62 r38)])
def ZBI : ZzY := lrt E9 (fun _ => []) ((.mk [] [] [] : Scm), y37.1.name, y37.2)
def Zv0 : ZzY := vw (.fzb 27 [27]) <| vw .sep <| vw .go <| lc (mkS [(2, .ptr (1, 2) 0 0), (3, vS y37.1.name), (4, vI y37.2)] [((1, 2), Zgo)]) ((ZBI y37).m)
def ZDn : ZzY := vs (wa v34 1) <| vz (fl y15) <| vz (fl r33) <| vz (fl (r35 ++ [y37.1])) <| ln (ZMa p0 r14 y15 v16 c26 e27 y28 r33) (v34 + 1, r35 ++ [y37.1])
def ZCv : ZzY := vw .go <| vw .go <| vw .sep <| ap r35 (y37.1 : Svc) <| vw .go <| vz (fl y15) <| vz (fl r33) <| vz (fl (r35 ++ [y37.1])) <| lc (mkS (ZEb p0 v16 e27 v34) [((1, 2), Zgo), ((1, 18), ⟨0, true, 26, 3, [.ref (1, 1180) 0 0 r33.length, .ref (1, 103) 0 0 y15.length, .ref (1, 1182) 0 0 (r35 ++ [y37.1]).length]⟩), ((1, 52), (Ztq p0 r14 c26 e27 y28)), ((1, 103), o55 y15), ((1, 1180), o48 r33), ((1, 1182), o62 (r35 ++ [y37.1]))]) ((ZDn p0 r14 y15 v16 c26 e27 y28 r33 y37 v34 r35).m)
def ZB9 : ZzY := vz (fl y15) <| vz (fl r33) <| vz (fl r35) <| lc (mkS (ZuC p0 [(18, .ptr (1, 18) 0 0), (27, .ptr (1, 27) 0 0), (105, vL Zat p0), (106, vN p0.length), (107, vN v16), (148, vL ZaG e27.services), (149, vN e27.services.length), (150, vN v34)]) (ZCS p0 r14 y15 c26 e27 y28 r33 y37 r35)) ((ZCv p0 r14 y15 v16 c26 e27 y28 r33 y37 v34 r35).m)
def ZDc : ZzY := vz (fl y15) <| vz (fl r33) <| vz (fl r35) <| lc (mkS (ZuC p0 [(18, .ptr (1, 18) 0 0), (27, .ptr (1, 27) 0 0), (28, vI y37.2), (105, vL Zat p0), (106, vN p0.length), (107, vN v16), (148, vL ZaG e27.services), (149, vN e27.services.length), (150, vN v34), (161, vB (!decide (y37.2 = (0 : Int))))]) (ZCS p0 r14 y15 c26 e27 y28 r33 y37 r35)) (if (!decide (y37.2 = (0 : Int))) = true then (Zv0 y37).m else (ZB9 p0 r14 y15 v16 c26 e27 y28 r33 y37 v34 r35).m)
def ZEE : ZzY := ix e27.services v34 fun e36 => vw .go <| vw .go <| cs tp 39 [.ptr (1, 52) 0 0, .agg ((ZaG e36).map .d)] [(1, 52)] [((1, 52), ⟨0, true, 94, 10, [vL Zat p0, vS e27.name, vS e27.space, vL Zal e27.imports, vL ZaC e27.messages, vL Zan e27.enums, vL ZaG e27.services, vL Zal y28, vL Zal c26, vL Zan r14]⟩)] (ZaZ (.mk p0 e27 y28 c26 r14 : Lnk) e36) (fun y => .tup [.agg ((ZaG y.1).map .d), vI y.2]) fun y37 => vw .go <| vz (fl y15) <| vz (fl r33) <| vz (fl r35) <| lc (mkS (ZuC p0 [(18, .ptr (1, 18) 0 0), (27, .ptr (1, 27) 0 0), (28, vI y37.2), (105, vL Zat p0), (106, vN p0.length), (107, vN v16), (148, vL ZaG e27.services), (149, vN e27.services.length), (150, vN v34)]) (ZCS p0 r14 y15 c26 e27 y28 r33 y37 r35)) ((ZDc p0 r14 y15 v16 c26 e27 y28 r33 y37 v34 r35).m)
def ZCI : ZzY := br (decide ((v34 : Int) < (e27.services.length : Int))) (vz (fl y15) <| vz (fl r33) <| vz (fl r35) <| lc (mkS (ZEb p0 v16 e27 v34) [((1, 2), Zgo), ((1, 18), ⟨0, true, 26, 3, [.ref (1, 1180) 0 0 r33.length, .ref (1, 103) 0 0 y15.length, .ref (1, 1182) 0 0 r35.length]⟩), ((1, 52), (Ztq p0 r14 c26 e27 y28)), ((1, 103), o55 y15), ((1, 1180), o48 r33), ((1, 1182), o62 r35)]) ((ZEE p0 r14 y15 v16 c26 e27 y28 r33 v34 r35).m)) (vz (fl y15) <| vz (fl r33) <| vz (fl r35) <| lxe (ZOc p0 r14 y15 v16 c26 e27 y28 r33) r35)
def ZFx := fun ((v34, r35) : Nat × List Svc) => (ZCI p0 r14 y15 v16 c26 e27 y28 r33 v34 r35).m
def ZEM (r38 : List Svc) : ZKe := vs (wa v16 1) <| vz (fl y15) <| vz (fl r33) <| vz (fl r38) <| ln (ZNK p0 r14 y15) (v16 + 1, r33, r38, e27.name, e27.space, e27.imports, e27.messages, e27.enums, e27.services, y28, c26)
def ZBD : ZKe := vw .go <| vz (eqL e27.services) <| vz (fl y15) <| vz (fl r33) <| vz (fl r18) <| lc (ZMa p0 r14 y15 v16 c26 e27 y28 r33 (0, r18)) ((Zaa (ZFx p0 r14 y15 v16 c26 e27 y28 r33) big (0, r18)).bind (Sum.elim (fun r38 => (ZEM p0 r14 y15 v16 c26 e27 y28 r33 r38).m) (fun z => some (.rt z))))
def ZAF : ZKe := vw .go <| vz (eqL e27.messages) <| vz (fl y15) <| vz (fl r17) <| vz (fl r18) <| lc (ZMn p0 r14 y15 v16 r18 c26 e27 y28 (0, r17)) ((Zaa (ZFA p0 r14 y15 v16 r18 c26 e27 y28) big (0, r17)).bind (Sum.elim (fun r33 => (ZBD p0 r14 y15 v16 r18 c26 e27 y28 r33).m) (fun z => some (.rt z))))
def ZCq : ZKe := ix p0 v16 fun e27 => vw .go <| vw .go <| vw .go <| cl (ZPR p0 e27) fun y28 => vw .go <| vw .go <| vz (fl y15) <| vz (fl r17) <| vz (fl r18) <| lc (mkS (ZHH p0 v16) [((1, 2), Zgo), ((1, 18), ⟨0, true, 26, 3, [.ref (1, 1180) 0 0 r17.length, .ref (1, 103) 0 0 y15.length, .ref (1, 1182) 0 0 r18.length]⟩), ((1, 20), (Zsw e27)), ((1, 52), (Ztq p0 r14 c26 e27 y28)), ((1, 103), o55 y15), ((1, 1180), o48 r17), ((1, 1182), o62 r18)]) ((ZAF p0 r14 y15 v16 r18 c26 e27 y28 r17).m)
def ZEQ (c19 : Bt) (c20 : Bt) (c21 : List Bt) (c22 : List Msg) (c23 : List Enm) (c24 : List Svc) (c25 : List Bt) : ZKe := br (decide ((v16 : Int) < (p0.length : Int))) (vz (fl y15) <| vz (fl r17) <| vz (fl r18) <| lc (mkS (ZBb p0 v16) [((1, 2), Zgo), ((1, 18), ⟨0, true, 26, 3, [.ref (1, 1180) 0 0 r17.length, .ref (1, 103) 0 0 y15.length, .ref (1, 1182) 0 0 r18.length]⟩), ((1, 52), ⟨0, true, 94, 10, [vL Zat p0, vS c19, vS c20, vL Zal c21, vL ZaC c22, vL Zan c23, vL ZaG c24, vL Zal c25, vL Zal c26, vL Zan r14]⟩), ((1, 103), o55 y15), ((1, 1180), o48 r17), ((1, 1182), o62 r18)]) ((ZCq p0 r14 y15 v16 r18 c26 r17).m)) (vz (fl y15) <| vz (fl r17) <| vz (fl r18) <| lxe (ZOB y15) (r17, r18))
def ZFI := fun ((v16, r17, r18, c19, c20, c21, c22, c23, c24, c25, c26) : Nat × List Msg × List Svc × Bt × Bt × List Bt × List Msg × List Enm × List Svc × List Bt × List Bt) => (ZEQ p0 r14 y15 v16 r18 c26 r17 c19 c20 c21 c22 c23 c24 c25).m
def ZGE : ZuM := vz (fr y41.1) <| vz (fr y41.2.1) <| vz (fr y41.2.2) <| lr E9 (fun _ => []) ((.mk y41.1 y41.2.1 y41.2.2 : Scm), ⟨#[]⟩, 0)
def ZIJ : ZuM := vw .go <| vz (fl y41.2.1) <| vz (fl y41.1) <| vz (fl y41.2.2) <| lc (mkS [(2, .ptr (1, 2) 0 0), (3, vS ⟨#[]⟩), (4, vI 0)] [((1, 2), ⟨0, true, 26, 3, [.ref (1, 1180) 0 0 y41.1.length, .ref (1, 103) 0 0 y41.2.1.length, .ref (1, 1182) 0 0 y41.2.2.length]⟩), ((1, 103), o55 y41.2.1), ((1, 1180), o48 y41.1), ((1, 1182), o62 y41.2.2)]) ((ZGE y41).m)
def ZIM (r39 : List Msg) (r40 : List Svc) : ZuM := vw .go <| vz (fl y15) <| vz (fl r39) <| vz (fl r40) <| lc (mkS [(2, .ptr (1, 2) 0 0), (174, .agg [.ref (1, 1180) 0 0 r39.length, .ref (1, 103) 0 0 y15.length, .ref (1, 1182) 0 0 r40.length])] [((1, 2), Zgo), ((1, 103), o55 y15), ((1, 1180), o48 r39), ((1, 1182), o62 r40)]) ((ZcT r39 y15 r40).bind fun y41 => (ZIJ y41).m)
def ZFW : ZuM := vw (.adc (1, 18) 0 1180 48 5) <| vw (.adc (1, 18) 2 1182 62 3) <| vw (.adc (1, 52) 3 1523 9 1) <| vw (.frz 1523 [] [((1, 52), 3, (([] : List Bt).map Zal))]) <| vz (fz ([] : List Bt)) <| vw (.adc (1, 52) 4 1524 48 5) <| vw (.frz 1524 [] [((1, 52), 4, (([] : List Msg).map ZaC))]) <| vz (fz ([] : List Msg)) <| vw (.adc (1, 52) 5 1525 55 5) <| vw (.frz 1525 [] [((1, 52), 5, (([] : List Enm).map Zan))]) <| vz (fz ([] : List Enm)) <| vw (.adc (1, 52) 6 1526 62 3) <| vw (.frz 1526 [] [((1, 52), 6, (([] : List Svc).map ZaG))]) <| vz (fz ([] : List Svc)) <| vw (.adc (1, 52) 7 1527 9 1) <| vw (.frz 1527 [] [((1, 52), 7, (([] : List Bt).map Zal))]) <| vz (fz ([] : List Bt)) <| vw (.frz 1528 [] [((1, 52), 8, (r13.map Zal))]) <| vz (fz r13) <| vz (fl y15) <| vz (fl ([] : List Msg)) <| vz (fl ([] : List Svc)) <| lc (ZNK p0 r14 y15 (0, ([] : List Msg), ([] : List Svc), ⟨#[]⟩, ⟨#[]⟩, ([] : List Bt), ([] : List Msg), ([] : List Enm), ([] : List Svc), ([] : List Bt), r13)) ((Zaa (ZFI p0 r14 y15) big (0, ([] : List Msg), ([] : List Svc), ⟨#[]⟩, ⟨#[]⟩, ([] : List Bt), ([] : List Msg), ([] : List Enm), ([] : List Svc), ([] : List Bt), r13)).bind (Sum.elim (fun (r39, r40) => (ZIM y15 r39 r40).m) some))
def ZHo : ZuM := vz (eqL p0) <| vz (fl y15) <| vz (fl r13) <| lc (mkS (ZuC p0 [(18, .ptr (1, 18) 0 0), (105, vL Zat p0), (106, vN p0.length), (107, vI 0)]) (ZLc p0 r14 y15 r13)) ((ZFW p0 r14 y15 r13).m)
def ZKG : ZuM := vw .go <| vz (fl y15) <| vz (fl r13) <| lc (mkS (ZuC p0 [(18, .ptr (1, 18) 0 0)]) (ZLc p0 r14 y15 r13)) ((ZHo p0 r14 y15 r13).m)
def ZGG : ZuM := vw (.frz 1529 [] [((1, 52), 9, (r14.map Zan))]) <| vz (fz r14) <| vw .sep <| vw .go <| vz (fl r13) <| lc (mkS (ZuC p0 [(102, vL Zan r14)]) [((1, 2), Zgo), ((1, 52), ⟨0, true, 94, 10, [vL Zat p0, vS ⟨#[]⟩, vS ⟨#[]⟩, .e0, .e0, .e0, .e0, .e0, .ref (1, 1528) 0 0 r13.length, vL Zan r14]⟩), ((1, 1528), o9 r13)]) ((Zbd r14).bind fun y15 => (ZKG p0 r14 y15 r13).m)
def ZG0 : ZuM := vw (.adc (1, 52) 8 1528 9 1) <| vw (.adc (1, 52) 9 1529 55 5) <| vz (fl ([] : List Bt)) <| vz (fl ([] : List Enm)) <| lc (ZNM p0 (0, ([] : List Bt), ([] : List Enm))) ((Zaa (ZFM p0) big (0, ([] : List Bt), ([] : List Enm))).bind (Sum.elim (fun (r13, r14) => (ZGG p0 r14 r13).m) some))
def ZIO : ZuM := vz (eqL p0) <| lc (mkS (ZuC p0 [(53, vL Zat p0), (54, vN p0.length), (55, vI 0)]) (ZGL p0)) ((ZG0 p0).m)
def ZLg : ZuM := cl (ZQ5 p0) fun y1 => br (!decide (y1.2.2 = (0 : Int))) (vw .go <| lr E9 (fun _ => []) ((.mk [] [] [] : Scm), y1.2.1, y1.2.2)) (cl (ZP7 p0) fun y2 => br (!decide (y2.2 = (0 : Int))) (vw .go <| lr E9 (fun _ => []) ((.mk [] [] [] : Scm), y2.1, y2.2)) (lc (mkS [(0, vL Zat p0), (2, .ptr (1, 2) 0 0), (10, .ptr (1, 52) 0 0)] (ZGL p0)) ((ZIO p0).m)))
def Zeb (p0 : List Fil) : Option (Scm × Bt × Int) := (ZLg p0).m
section
include co
theorem ZK7 : Kl 176 C (pa [0, 0, 1, 1, 1, 1, 0, 0, 1, 1, 0, 0, 1, 0, 1, 1, 1, 1] (Zac Tryz.f9)) [.cell 2 26, .tmp 3, .tmp 4] 0 (ZMb p0 v3 r4 e6 y7) (ZN8 p0 v3 r4 y7) E9 (fun _ => []) (ZFN p0 v3 r4 e6 y7) := fun (v8, r9) _ m Q Post hQ L => mJ co 2 (lf2 ZvM Zxi) (lf2 [0, 2, 10, 53, 54, 55] ZwO) hQ m L fun r g => ⟨fun _ m L => sq (bk 3 (mJ co 2 (lf2 [0, 2, 10, 12, 17, 53, 54, 55, 75, 76, 77] [((1, 2), false), ((1, 12), false), ((1, 17), false), ((1, 52), false), ((1, 1528), true), ((1, 1529), true)]) nl hQ m L fun r g e10 y11 _ m L => ZJ6 co tok tmo (.fst 0 (.fst 1 (.fst 2 (.fst 3 (.fst 4 (.fst 5 (.fst 6 (.fst 7 (.fst 8 (.fst 9 (.fst 10 .nil))))))))))) [] (ZLB p0 v3 r4 e6 y7 v8 r9 e10 y11) (lf2 ZvM Zxi) m L fun r g _ m L => eN co (lf2 ZvM Zxi) nl hQ m L)), id⟩
theorem ZKM : Kl 176 C (pa [0, 0, 1, 0, 1, 1, 1, 1] (Zac Tryz.f9)) [.cell 2 26, .tmp 3, .tmp 4] 0 (ZNM p0) (ZOJ p0) E9 (fun _ => []) (ZFM p0) := fun (v3, r4, r5) _ m Q Post hQ L => mJ co 2 (lf2 [0, 2, 10, 53, 54, 55] ZwO) (lf2 [0, 2, 10] ZwO) hQ m L fun r g => ⟨fun _ m L => sq (bk 1 (mJ co 4 (lf2 ZvM Zxi) nl hQ m L fun r g e6 y7 _ m L => bk 2 (lo (lpL (ZK7 co p0 v3 r4 e6 y7) hQ m L (fun r12 m => eN co (lf2 [0, 2, 10, 53, 54, 55] ZwO) nl hQ m L))))), id⟩
theorem ZIp : Kl 176 C (pa [0, 0, 1, 0, 1, 1, 0, 0, 1, 1, 0, 0, 1, 0, 1, 1, 1, 1, 1, 1] (Zac Tryz.f9)) [.cell 2 26, .tmp 3, .tmp 4] 0 (ZMn p0 r14 y15 v16 r18 c26 e27 y28) (ZOU p0 r14 y15 v16 r18 c26 e27 y28) E9 (fun _ => []) (ZFA p0 r14 y15 v16 r18 c26 e27 y28) := fun (v29, r30) _ m Q Post hQ L => mJ co 2 (lf2 ZxT ZoO) (lf2 [0, 2, 10, 18, 20, 105, 106, 107] ZoO) hQ m L fun r g => ⟨fun _ m L => sq (bk 7 (mJ co 2 (lf2 [0, 2, 10, 18, 20, 23, 24, 105, 106, 107, 122, 123, 124] ZD0) nl hQ m L fun r g e31 => ⟨fun y hy => s6 (ZQX (.mk p0 e27 y28 c26 r14 : Lnk) e31) hy co g [((1, 52), ⟨0, true, 94, 10, [vL Zat p0, vS e27.name, vS e27.space, vL Zal e27.imports, vL ZaC e27.messages, vL Zan e27.enums, vL ZaG e27.services, vL Zal y28, vL Zal c26, vL Zan r14]⟩)] [], fun y32 _ m L => sq (mJ co 1 (lf2 [0, 2, 10, 18, 20, 23, 24, 105, 106, 107, 122, 123, 124, 135] ZD0) nl hQ m L fun r g _ m L => cD m (fun m => sq (ZJ6 co tok tmo (.fst 0 (.fst 1 (.fst 2 (.fst 3 (.fst 4 (.fst 5 (.fst 6 .nil))))))) [23] (ZLH y32) (lf2 [2, 3, 4] [((1, 2), false)]) m L fun r g _ m L => eN co nl nl hQ m L)) (fun m => eN co (lf2 [0, 2, 10, 18, 20, 23, 105, 106, 107, 122, 123, 124] ZD0) nl hQ m L fun r g _ m L => eN co (lf2 ZxT ZoO) nl hQ m L fun r g _ m L => eN co (lf2 ZxT ZoO) nl hQ m L))⟩)), id⟩
theorem ZGY : Kl 176 C (pa [0, 0, 1, 1, 1, 1, 0, 0, 1, 1, 0, 0, 1, 0, 1, 1, 1, 1, 1, 1] (Zac Tryz.f9)) [.cell 2 26, .tmp 3, .tmp 4] 0 (ZMa p0 r14 y15 v16 c26 e27 y28 r33) (ZOc p0 r14 y15 v16 c26 e27 y28 r33) E9 (fun _ => []) (ZFx p0 r14 y15 v16 c26 e27 y28 r33) := fun (v34, r35) _ m Q Post hQ L => mJ co 2 (lf2 Zw1 Zl5) (lf2 ZA0 Zl5) hQ m L fun r g => ⟨fun _ m L => sq (bk 9 (mJ co 2 (lf2 [0, 2, 10, 18, 27, 28, 105, 106, 107, 148, 149, 150] ZAe) nl hQ m L fun r g e36 => ⟨fun y hy => s6 (ZPU (.mk p0 e27 y28 c26 r14 : Lnk) e36) hy co g [((1, 52), ⟨0, true, 94, 10, [vL Zat p0, vS e27.name, vS e27.space, vL Zal e27.imports, vL ZaC e27.messages, vL Zan e27.enums, vL ZaG e27.services, vL Zal y28, vL Zal c26, vL Zan r14]⟩)] [], fun y37 _ m L => sq (mJ co 1 (lf2 [0, 2, 10, 18, 27, 28, 105, 106, 107, 148, 149, 150, 161] ZAe) nl hQ m L fun r g _ m L => cD m (fun m => sq (ZJ6 co tok tmo (.fst 0 (.fst 1 (.fst 2 (.fst 3 (.fst 4 (.fst 5 (.fst 6 .nil))))))) [27] (Zv0 y37) (lf2 [2, 3, 4] [((1, 2), false)]) m L fun r g _ m L => eN co nl nl hQ m L)) (fun m => eN co (lf2 [0, 2, 10, 18, 27, 105, 106, 107, 148, 149, 150] ZAe) nl hQ m L fun r g _ m L => eN co (lf2 Zw1 Zl5) nl hQ m L fun r g _ m L => eN co (lf2 Zw1 Zl5) nl hQ m L))⟩)), id⟩
theorem ZHE : Kl 176 C (pa [0, 0, 1, 0, 1, 1, 1, 1, 1, 1] (Zac Tryz.f9)) [.cell 2 26, .tmp 3, .tmp 4] 0 (ZNK p0 r14 y15) (ZOB y15) E9 (fun _ => []) (ZFI p0 r14 y15) := fun (v16, r17, r18, c19, c20, c21, c22, c23, c24, c25, c26) _ m Q Post hQ L => mJ co 2 (lf2 ZA0 Zl5) (lf2 [2, 18] [((1, 2), false), ((1, 18), false), ((1, 103), true), ((1, 1180), true), ((1, 1182), true)]) hQ m L fun r g => ⟨fun _ m L => sq (bk 5 (mJ co 2 (lf2 [0, 2, 10, 18, 20, 105, 106, 107] ZoO) nl hQ m L fun r g e27 y28 _ m L => sq (mJ co 1 (lf2 ZxT ZoO) nl hQ m L fun r g _ m L => bk 6 (lo (lpL (ZIp co p0 r14 y15 v16 r18 c26 e27 y28) hQ m L (fun r33 m => mJ co 1 (lf2 Zw1 Zl5) nl hQ m L fun r g _ m L => bk 8 (lo (lpL (ZGY co p0 r14 y15 v16 c26 e27 y28 r33) hQ m L (fun r38 m => eN co (lf2 ZA0 Zl5) nl hQ m L))))))))), id⟩
end
end
theorem K_9 (p0 : List Fil) : KC tp 9 [vL Zat p0] (Zeb p0) E9 := kC Tryz.func9 Tryz.ntmps9 [.cell 2 26, .tmp 3, .tmp 4] fun co m L => mK co 4 (lf2 [0, 2, 10] [((1, 2), false), ((1, 52), false)]) m L fun r g y1 => ⟨id, fun y2 => ⟨id, fun _ m L => sq (mK co 1 (lf2 [0, 2, 10, 53, 54, 55] [((1, 2), false), ((1, 52), false)]) m L fun r g _ m L => bk 0 (cM co (lf2 [0, 2, 10, 53, 54, 55] [((1, 2), false), ((1, 52), false), ((1, 1528), true), ((1, 1529), true)]) m L fun r g _ m L => lo (lpF (ZKM co p0) ii m L (fun (r13, r14) m => sq (rg (pR co 4 (lf2 [0, 2, 10, 102] [((1, 2), false), ((1, 52), false), ((1, 1528), true)]) m L fun r g _ m L => c6 co m (ZNv r14) [((1, 103), ⟨0, false, 0, 0, []⟩)] [] (fun z => .ref (1, 103) 1 0 z.length) (fun z => [((1, 103), u55 z)]) [(1, 1528)] fun y15 m => eR co (lf2 [0, 2, 10, 18] [((1, 2), false), ((1, 18), false), ((1, 52), false), ((1, 103), true), ((1, 1528), true)]) m L fun r g _ m L => sq (mK co 1 (lf2 [0, 2, 10, 18, 105, 106, 107] [((1, 2), false), ((1, 18), false), ((1, 52), false), ((1, 103), true), ((1, 1528), true)]) m L fun r g _ m L => bk 4 (cM co (lf2 [0, 2, 10, 18, 105, 106, 107] [((1, 2), false), ((1, 18), false), ((1, 52), false), ((1, 103), true), ((1, 1180), true), ((1, 1182), true)]) m L fun r g _ m L => lo (lpF (ZHE co p0 r14 y15) ii m L (fun (r39, r40) m => sq (rg (pR co 1 (lf2 [2, 174] [((1, 2), false), ((1, 103), true), ((1, 1180), true), ((1, 1182), true)]) m L fun r g _ m L => c6 co m (ZNZ r39 y15 r40) [((1, 1180), o48 r39), ((1, 103), o55 y15), ((1, 1182), o62 r40)] [] (fun z => .agg [.ref (1, 1180) 0 0 z.1.length, .ref (1, 103) 0 0 z.2.1.length, .ref (1, 1182) 0 0 z.2.2.length]) (fun z => [((1, 1180), o48 z.1), ((1, 103), o55 z.2.1), ((1, 1182), o62 z.2.2)]) [] fun y41 m => eR co (lf2 [2, 3, 4] [((1, 2), false), ((1, 103), true), ((1, 1180), true), ((1, 1182), true)]) m L fun r g _ m L => fO co m L))))))))))))⟩⟩
def ZPI : PT 0 (Bool) := vw .sep <| vw .sep <| vw .sep <| vw .sep <| vw .go <| vw .go <| vw .sep <| cl (K_9 ([(.mk ⟨#[120]⟩ ⟨#[97]⟩ ([] : List Bt) ([(.mk ⟨#[77]⟩ ([(.mk 1 ⟨#[102]⟩ 2 0 (.mk 0 ⟨#[78]⟩ : Typ) ⟨#[]⟩ false (.mk 0 0 ⟨#[]⟩ ([] : List Val) ([] : List Pr) ([] : List Slt) ([] : List Raw) : Val) ([] : List Nt) : Fld)] : List Fld) ([] : List Spn) ([] : List Bt) ([] : List Nt) : Msg), (.mk (⟨#[77, 46, 78]⟩) ([] : List Fld) ([] : List Spn) ([] : List Bt) ([] : List Nt) : Msg)] : List Msg) ([] : List Enm) ([] : List Svc) : Fil)] : List Fil)) fun y1 => vw .go <| vw .go <| vy (decide (y1.2.2 = (0 : Int)) && decide (y1.2.1 = (⟨#[]⟩ : Bt))) (eqL y1.1.messages) <| vw .go <| ixg ((decide (y1.2.2 = (0 : Int)) && decide (y1.2.1 = (⟨#[]⟩ : Bt))) && decide ((y1.1.messages.length : Int) = (2 : Int))) y1.1.messages 0 fun e2 => vw .go <| ixg (((decide (y1.2.2 = (0 : Int)) && decide (y1.2.1 = (⟨#[]⟩ : Bt))) && decide ((y1.1.messages.length : Int) = (2 : Int))) && decide (e2.name = (⟨#[97, 46, 77]⟩ : Bt))) y1.1.messages 1 fun e3 => vw .go <| ixg ((((decide (y1.2.2 = (0 : Int)) && decide (y1.2.1 = (⟨#[]⟩ : Bt))) && decide ((y1.1.messages.length : Int) = (2 : Int))) && decide (e2.name = (⟨#[97, 46, 77]⟩ : Bt))) && decide (e3.name = (⟨#[97, 46, 77, 46, 78]⟩ : Bt))) y1.1.messages 0 fun e4 => vy ((((decide (y1.2.2 = (0 : Int)) && decide (y1.2.1 = (⟨#[]⟩ : Bt))) && decide ((y1.1.messages.length : Int) = (2 : Int))) && decide (e2.name = (⟨#[97, 46, 77]⟩ : Bt))) && decide (e3.name = (⟨#[97, 46, 77, 46, 78]⟩ : Bt))) (eqL e4.fields) <| vw .go <| ixg (((((decide (y1.2.2 = (0 : Int)) && decide (y1.2.1 = (⟨#[]⟩ : Bt))) && decide ((y1.1.messages.length : Int) = (2 : Int))) && decide (e2.name = (⟨#[97, 46, 77]⟩ : Bt))) && decide (e3.name = (⟨#[97, 46, 77, 46, 78]⟩ : Bt))) && decide ((e4.fields.length : Int) = (1 : Int))) y1.1.messages 0 fun e5 => ixg (((((decide (y1.2.2 = (0 : Int)) && decide (y1.2.1 = (⟨#[]⟩ : Bt))) && decide ((y1.1.messages.length : Int) = (2 : Int))) && decide (e2.name = (⟨#[97, 46, 77]⟩ : Bt))) && decide (e3.name = (⟨#[97, 46, 77, 46, 78]⟩ : Bt))) && decide ((e4.fields.length : Int) = (1 : Int))) e5.fields 0 fun e6 => lr E49 (fun _ => []) ((((((decide (y1.2.2 = (0 : Int)) && decide (y1.2.1 = (⟨#[]⟩ : Bt))) && decide ((y1.1.messages.length : Int) = (2 : Int))) && decide (e2.name = (⟨#[97, 46, 77]⟩ : Bt))) && decide (e3.name = (⟨#[97, 46, 77, 46, 78]⟩ : Bt))) && decide ((e4.fields.length : Int) = (1 : Int))) && (decide (e6.type.kind = 10) && (decide (e6.type.name = (⟨#[97, 46, 77, 46, 78]⟩)) && true)))
def ZcS : Option (Bool) := (ZPI).m
theorem K_8 : KC tp 8 [] (ZcS) E49 := kC Tryz.func8 Tryz.ntmps8 [.tmp 0] fun co m L => fO co m L
section
variable {C : Cx} (p0 : List Fil) (r1 : List Bt) (v2 : Nat) (y5 y8 y7 r6 : List Bt)
abbrev Zsu := PT 0 (Lv (List Bt × Nat) (List Bt) (List Bt))
abbrev ZjC := PT 0 (List Bt)
abbrev ZwZ : List (Key × Blk) := [((1, 3), o9 r1)]
abbrev ZHq : List (Nat × AV) := [(3, .ref (1, 3) 0 0 r1.length), (9, vL Zat p0), (10, vN p0.length), (11, vN v2)]
def ZDF : List Bt × Nat → St := fun (r1, v2) => mkS (ZHq p0 r1 v2) (ZwZ r1)
def ZKd : List Bt → Nat × St := fun r6 => (0, mkS [(3, .ref (1, 3) 0 0 r6.length)] [((1, 3), o9 r6)])
def ZEd : Zsu := vs (wa v2 1) <| vz (fl (r1 ++ y5)) <| ln (ZDF p0) (r1 ++ y5, v2 + 1)
def ZEo : Zsu := ar r1 y5 (1, 26) 1 <| vz (fl (r1 ++ y5)) <| lc (mkS [(3, .ref (1, 3) 0 0 (r1 ++ y5).length), (9, vL Zat p0), (10, vN p0.length), (11, vN v2)] [((1, 3), o9 (r1 ++ y5))]) ((ZEd p0 r1 v2 y5).m)
def Zz6 (y4 : List Bt × List Bt × List Bt) : Zsu := vw .sep <| vw .sep <| vz (fl r1) <| lc (mkS [(9, vL Zat p0), (10, vN p0.length), (11, vN v2), (21, .ref (1, 3) 0 0 r1.length), (25, .d (.list [ZdK y4.1, ZdK y4.2.1, ZdK y4.2.2]))] (ZwZ r1)) ((Zay ([y4.1, y4.2.1, y4.2.2] : List (List Bt))).bind fun y5 => (ZEo p0 r1 v2 y5).m)
def ZFu : Zsu := ix p0 v2 fun e3 => vw .go <| vw .go <| cl (ZHm e3) fun y4 => vz (fl r1) <| lc (mkS [(3, .ref (1, 3) 0 0 r1.length), (6, vL Zal y4.1), (7, vL Zal y4.2.1), (8, vL Zal y4.2.2), (9, vL Zat p0), (10, vN p0.length), (11, vN v2)] (ZwZ r1)) ((Zz6 p0 r1 v2 y4).m)
def ZDd : Zsu := br (decide ((v2 : Int) < (p0.length : Int))) (vz (fl r1) <| lc (mkS (ZHq p0 r1 v2) (ZwZ r1)) ((ZFu p0 r1 v2).m)) (vz (fl r1) <| lxe (ZKd) r1)
def ZpK := fun ((r1, v2) : List Bt × Nat) => (ZDd p0 r1 v2).m
def ZJm : ZjC := vz (fr y8) <| lr E37 (fun _ => []) y8
def ZGx : ZjC := vz (fl y8) <| lc (mkS [(2, .ref (1, 3) 0 0 y8.length)] [((1, 3), o9 y8)]) ((ZJm y8).m)
def ZJw : ZjC := vz (fl y7) <| lc (mkS [(31, .ref (1, 3) 0 0 y7.length)] [((1, 3), o9 y7)]) ((Zdg y7).bind fun y8 => (ZGx y8).m)
def ZF2 : ZjC := rn 3 3 r6.length y7 <| vz (fl y7) <| lc (mkS [(3, .ref (1, 3) 0 0 y7.length)] [((1, 3), o9 y7)]) ((ZJw y7).m)
def ZyQ : ZjC := vz (fl r6) <| lc (mkS [(3, .ref (1, 3) 0 0 r6.length), (29, .ref (1, 3) 0 0 r6.length)] [((1, 3), o9 r6)]) ((Zd3 r6).bind fun y7 => (ZF2 y7 r6).m)
def Zy2 : ZjC := vw (.ads 3 3 9 1) <| vz (fl ([] : List Bt)) <| lc (ZDF p0 (([] : List Bt), 0)) ((Zaa (ZpK p0) big (([] : List Bt), 0)).bind (Sum.elim (fun r6 => (ZyQ r6).m) some))
def ZyF : ZjC := vz (eqL p0) <| lc (mkS [(3, .e0), (9, vL Zat p0), (10, vN p0.length), (11, vI 0)] []) ((Zy2 p0).m)
def ZzZ : ZjC := lc (mkS [(0, vL Zat p0), (3, .e0)] []) ((ZyF p0).m)
def ZeG (p0 : List Fil) : Option (List Bt) := (ZzZ p0).m
theorem ZDt (co : CO C 0) : Kl 33 C (pa [0, 0, 1, 0, 1, 1] (Zac Tryz.f10)) [.tmp 2] 0 (ZDF p0) (ZKd) E37 (fun _ => []) (ZpK p0) := fun (r1, v2) _ m Q Post hQ L => mJ co 2 (lf2 [3, 9, 10, 11] [((1, 3), true)]) (lf2 [3] [((1, 3), true)]) hQ m L fun r g => ⟨fun _ m L => sq (bk 1 (mJ co 2 (lf2 [3, 6, 7, 8, 9, 10, 11] [((1, 3), true)]) nl hQ m L fun r g e3 y4 _ m L => rg (pR co 5 (lf2 [9, 10, 11, 21, 25] [((1, 3), true)]) m L fun r g _ m L => c6 co m (ZLN ([y4.1, y4.2.1, y4.2.2] : List (List Bt))) [((1, 26), ⟨0, false, 0, 0, []⟩)] [] (fun z => .ref (1, 26) 1 0 z.length) (fun z => [((1, 26), u9 z)]) [(1, 3)] fun y5 m => eR co (lf2 [3, 9, 10, 11] [((1, 3), true)]) m L fun r g _ m L => eN co (lf2 [3, 9, 10, 11] [((1, 3), true)]) nl hQ m L))), id⟩
end
theorem ZPw (p0 : List Fil) : KC tp 10 [vL Zat p0] (ZeG p0) E37 := kC Tryz.func10 Tryz.ntmps10 [.tmp 2] fun co m L => mK co 2 (lf1 [0, 3]) m L fun r g _ m L => sq (mK co 1 (lf1 [3, 9, 10, 11]) m L fun r g _ m L => bk 0 (cM co (lf2 [3, 9, 10, 11] [((1, 3), true)]) m L fun r g _ m L => lo (lpF (ZDt p0 co) ii m L (fun r6 m => sq (rg (pR co 1 (lf2 [3, 29] [((1, 3), true)]) m L fun r g _ m L => c6 co m (ZPW r6) [((1, 3), o9 r6)] [] (fun z => .tup []) (fun z => [((1, 3), o9 z)]) [] fun y7 m => eR co (lf2 [3] [((1, 3), true)]) m L fun r g _ m L => sq (rg (pR co 1 (lf2 [31] [((1, 3), true)]) m L fun r g _ m L => c6 co m (ZQg y7) [((1, 3), o9 y7)] [] (fun z => .ref (1, 3) 0 0 z.length) (fun z => [((1, 3), o9 z)]) [] fun y8 m => eR co (lf2 [2] [((1, 3), true)]) m L fun r g _ m L => fO co m L))))))))
def ZI8 (p0 : List Bt) : PT 1 (List Bt) := al Zal p0 false fun b1 => br b1 (vw .sep <| vw (.ads 2 2 9 1) <| mv 2 0 ([] : List Bt) <| lr E81 (G81) ([] : List Bt)) (a0 p0 <| mv 7 0 p0 <| lr E81 (G81) p0)
def Zc1 (p0 : List Bt) : Option (List Bt) := (ZI8 p0).m
theorem ZPX (p0 : List Bt) : KO tp 43 1 [vL Zal p0] [⟨0, false, 0, 0, []⟩] ct (Zc1 p0) E81 (G81) := kO Tryz.func43 Tryz.ntmps43 [.tmp 2] 1 (fun co hT m L => fO co m L)
section
variable {C : Cx} (co : CO C 0) (p0 : Scm) (p1 : Bt) (v2 : Nat) (e3 : Msg) (r1 : List Bt) (v10 : Nat) (e11 : Svc) (r9 : List Bt)
abbrev ZjB := PT 0 (Lv (List Bt × Nat) (List Bt) (List Bt))
abbrev Zr7 := PT 0 (List Bt)
abbrev Zlu : Blk := ⟨0, true, 26, 3, [vL ZaC p0.messages, vL Zan p0.enums, vL ZaG p0.services]⟩
abbrev ZJy : List (Nat × AV) := [(1, vS p1), (2, .ptr (1, 2) 0 0), (5, .ref (1, 5) 0 0 r1.length), (15, vL ZaC p0.messages), (16, vN p0.messages.length), (17, vN v2)]
abbrev Zvn : List (Key × Bool) := [((1, 2), false), ((1, 5), true)]
abbrev ZJM : List (Nat × AV) := [(1, vS p1), (5, .ref (1, 5) 0 0 r9.length), (53, vL ZaG p0.services), (54, vN p0.services.length), (55, vN v10)]
def ZBN : List Bt × Nat → St := fun (r1, v2) => mkS (ZJy p0 p1 v2 r1) [((1, 2), (Zlu p0)), ((1, 5), o9 r1)]
def ZKi : List Bt → Nat × St := fun r8 => (0, mkS [(1, vS p1), (2, .ptr (1, 2) 0 0), (5, .ref (1, 5) 0 0 r8.length)] [((1, 2), (Zlu p0)), ((1, 5), o9 r8)])
def ZwY : List Bt × Nat → St := fun (r4, v5) => mkS [(1, vS p1), (2, .ptr (1, 2) 0 0), (5, .ref (1, 5) 0 0 r4.length), (7, .ptr (1, 7) 0 0), (15, vL ZaC p0.messages), (16, vN p0.messages.length), (17, vN v2), (22, vL Zdb e3.fields), (23, vN e3.fields.length), (24, vN v5)] [((1, 2), (Zlu p0)), ((1, 5), o9 r4), ((1, 7), ⟨0, true, 48, 5, [vS e3.name, vL Zdb e3.fields, vL Zd0 e3.reserved, vL Zal e3.gone, vL eNt e3.notes]⟩)]
def ZHP : List Bt → Nat × St := fun r7 => (2, mkS [(1, vS p1), (2, .ptr (1, 2) 0 0), (5, .ref (1, 5) 0 0 r7.length), (15, vL ZaC p0.messages), (16, vN p0.messages.length), (17, vN v2)] [((1, 2), (Zlu p0)), ((1, 5), o9 r7)])
def ZCZ (r4 : List Bt) (v5 : Nat) : ZjB := br (decide ((v5 : Int) < (e3.fields.length : Int))) (ix e3.fields v5 fun e6 => vw .go <| vw .go <| vw .go <| vw .go <| br (decide (e3.name = p1) && (decide (e6.type.kind = (10 : Int)) || decide (e6.type.kind = (9 : Int)))) (vw .go <| vw .sep <| ap r4 (e6.type.name : Bt) <| vs (wa v5 1) <| vz (fl (r4 ++ [e6.type.name])) <| ln (ZwY p0 p1 v2 e3) (r4 ++ [e6.type.name], v5 + 1)) (vs (wa v5 1) <| vz (fl r4) <| ln (ZwY p0 p1 v2 e3) (r4, v5 + 1))) (vz (fl r4) <| lxe (ZHP p0 p1 v2) r4)
def Zpd := fun ((r4, v5) : List Bt × Nat) => (ZCZ p0 p1 v2 e3 r4 v5).m
def ZC7 (r7 : List Bt) : ZjB := vs (wa v2 1) <| vz (fl r7) <| ln (ZBN p0 p1) (r7, v2 + 1)
def ZBc : ZjB := ix p0.messages v2 fun e3 => vw .go <| vw .go <| vz (eqL e3.fields) <| vz (fl r1) <| lc (ZwY p0 p1 v2 e3 (r1, 0)) ((Zaa (Zpd p0 p1 v2 e3) big (r1, 0)).bind (Sum.elim (fun r7 => (ZC7 p0 p1 v2 r7).m) (fun z => some (.rt z))))
def ZBh : ZjB := br (decide ((v2 : Int) < (p0.messages.length : Int))) (vz (fl r1) <| lc (mkS (ZJy p0 p1 v2 r1) [((1, 2), (Zlu p0)), ((1, 5), o9 r1)]) ((ZBc p0 p1 v2 r1).m)) (vz (fl r1) <| lxe (ZKi p0 p1) r1)
def ZoP := fun ((r1, v2) : List Bt × Nat) => (ZBh p0 p1 v2 r1).m
def ZA3 : List Bt × Nat → St := fun (r9, v10) => mkS (ZJM p0 p1 v10 r9) [((1, 5), o9 r9)]
def ZIN : List Bt → Nat × St := fun r16 => (4, mkS [(5, .ref (1, 5) 0 0 r16.length)] [((1, 5), o9 r16)])
def ZxS : List Bt × Nat → St := fun (r12, v13) => mkS [(1, vS p1), (5, .ref (1, 5) 0 0 r12.length), (11, .ptr (1, 11) 0 0), (53, vL ZaG p0.services), (54, vN p0.services.length), (55, vN v10), (60, vL Zdv e11.methods), (61, vN e11.methods.length), (62, vN v13)] [((1, 5), o9 r12), ((1, 11), ⟨0, true, 62, 3, [vS e11.name, vL Zdv e11.methods, vL eNt e11.notes]⟩)]
def ZKl : List Bt → Nat × St := fun r15 => (6, mkS [(1, vS p1), (5, .ref (1, 5) 0 0 r15.length), (53, vL ZaG p0.services), (54, vN p0.services.length), (55, vN v10)] [((1, 5), o9 r15)])
def ZEs (r12 : List Bt) (v13 : Nat) : ZjB := br (decide ((v13 : Int) < (e11.methods.length : Int))) (ix e11.methods v13 fun e14 => vw .go <| vw .go <| br (decide (e11.name = p1)) (vw .go <| vw .go <| vw .sep <| ap2 r12 (e14.inn : Bt) e14.out <| vs (wa v13 1) <| vz (fl (r12 ++ ([e14.inn, e14.out]))) <| ln (ZxS p0 p1 v10 e11) (r12 ++ ([e14.inn, e14.out]), v13 + 1)) (vs (wa v13 1) <| vz (fl r12) <| ln (ZxS p0 p1 v10 e11) (r12, v13 + 1))) (vz (fl r12) <| lxe (ZKl p0 p1 v10) r12)
def ZpC := fun ((r12, v13) : List Bt × Nat) => (ZEs p0 p1 v10 e11 r12 v13).m
def ZEP (r15 : List Bt) : ZjB := vs (wa v10 1) <| vz (fl r15) <| ln (ZA3 p0 p1) (r15, v10 + 1)
def ZBZ : ZjB := ix p0.services v10 fun e11 => vw .go <| vw .go <| vz (eqL e11.methods) <| vz (fl r9) <| lc (ZxS p0 p1 v10 e11 (r9, 0)) ((Zaa (ZpC p0 p1 v10 e11) big (r9, 0)).bind (Sum.elim (fun r15 => (ZEP p0 p1 v10 r15).m) (fun z => some (.rt z))))
def ZAB : ZjB := br (decide ((v10 : Int) < (p0.services.length : Int))) (vz (fl r9) <| lc (mkS (ZJM p0 p1 v10 r9) [((1, 5), o9 r9)]) ((ZBZ p0 p1 v10 r9).m)) (vz (fl r9) <| lxe (ZIN) r9)
def Zpu := fun ((r9, v10) : List Bt × Nat) => (ZAB p0 p1 v10 r9).m
def ZEW (r16 : List Bt) : Zr7 := vz (fr r16) <| lr E37 (fun _ => []) r16
def Zt7 (r8 : List Bt) : Zr7 := vw .go <| vz (eqL p0.services) <| vz (fl r8) <| lc (ZA3 p0 p1 (r8, 0)) ((Zaa (Zpu p0 p1) big (r8, 0)).bind (Sum.elim (fun r16 => (ZEW r16).m) some))
def Zrg : Zr7 := vw (.ads 5 5 9 1) <| vz (fl ([] : List Bt)) <| lc (ZBN p0 p1 (([] : List Bt), 0)) ((Zaa (ZoP p0 p1) big (([] : List Bt), 0)).bind (Sum.elim (fun r8 => (Zt7 p0 p1 r8).m) some))
def ZqM : Zr7 := vw .go <| vz (eqL p0.messages) <| lc (mkS [(1, vS p1), (2, .ptr (1, 2) 0 0), (5, .e0), (15, vL ZaC p0.messages), (16, vN p0.messages.length), (17, vI 0)] [((1, 2), (Zlu p0))]) ((Zrg p0 p1).m)
def Zs6 : Zr7 := lc (mkS [(1, vS p1), (2, .ptr (1, 2) 0 0), (5, .e0)] [((1, 2), (Zlu p0))]) ((ZqM p0 p1).m)
def Zfh (p0 : Scm) (p1 : Bt) : Option (List Bt) := (Zs6 p0 p1).m
section
include co
theorem ZAd : Kl 80 C (pa [0, 0, 1, 1, 0, 0, 1, 1, 0, 0, 1, 0, 1, 1] (Zac Tryz.f44)) [.tmp 4] 0 (ZwY p0 p1 v2 e3) (ZHP p0 p1 v2) E37 (fun _ => []) (Zpd p0 p1 v2 e3) := fun (r4, v5) _ m Q Post hQ L => eN co (lf2 [1, 2, 5, 7, 15, 16, 17, 22, 23, 24] [((1, 2), false), ((1, 5), true), ((1, 7), false)]) (lf2 [1, 2, 5, 15, 16, 17] Zvn) hQ m L
theorem ZAY : Kl 80 C (pa [0, 0, 1, 0, 1, 1] (Zac Tryz.f44)) [.tmp 4] 0 (ZBN p0 p1) (ZKi p0 p1) E37 (fun _ => []) (ZoP p0 p1) := fun (r1, v2) _ m Q Post hQ L => mJ co 2 (lf2 [1, 2, 5, 15, 16, 17] Zvn) (lf2 [1, 2, 5] Zvn) hQ m L fun r g => ⟨fun _ m L => sq (bk 1 (mJ co 2 (lf2 [1, 2, 5, 7, 15, 16, 17, 22, 23, 24] [((1, 2), false), ((1, 5), true), ((1, 7), false)]) nl hQ m L fun r g e3 _ m L => bk 2 (lo (lpL (ZAd co p0 p1 v2 e3) hQ m L (fun r7 m => eN co (lf2 [1, 2, 5, 15, 16, 17] Zvn) nl hQ m L))))), id⟩
theorem ZAw : Kl 80 C (pa [0, 0, 1, 1, 0, 0, 1, 1, 0, 0, 1, 0, 1, 1, 1] (Zac Tryz.f44)) [.tmp 4] 0 (ZxS p0 p1 v10 e11) (ZKl p0 p1 v10) E37 (fun _ => []) (ZpC p0 p1 v10 e11) := fun (r12, v13) _ m Q Post hQ L => eN co (lf2 [1, 5, 11, 53, 54, 55, 60, 61, 62] [((1, 5), true), ((1, 11), false)]) (lf2 [1, 5, 53, 54, 55] [((1, 5), true)]) hQ m L
theorem ZEC : Kl 80 C (pa [0, 0, 1, 0, 1, 1, 1] (Zac Tryz.f44)) [.tmp 4] 0 (ZA3 p0 p1) (ZIN) E37 (fun _ => []) (Zpu p0 p1) := fun (r9, v10) _ m Q Post hQ L => mJ co 2 (lf2 [1, 5, 53, 54, 55] [((1, 5), true)]) (lf2 [5] [((1, 5), true)]) hQ m L fun r g => ⟨fun _ m L => sq (bk 5 (mJ co 2 (lf2 [1, 5, 11, 53, 54, 55, 60, 61, 62] [((1, 5), true), ((1, 11), false)]) nl hQ m L fun r g e11 _ m L => bk 6 (lo (lpL (ZAw co p0 p1 v10 e11) hQ m L (fun r15 m => eN co (lf2 [1, 5, 53, 54, 55] [((1, 5), true)]) nl hQ m L))))), id⟩
end
end
theorem ZQa (p0 : Scm) (p1 : Bt) : KC tp 44 [.agg ((Zj4 p0).map .d), vS p1] (Zfh p0 p1) E37 := kC Tryz.func44 Tryz.ntmps44 [.tmp 4] fun co m L => mK co 2 (lf2 [1, 2, 5] [((1, 2), false)]) m L fun r g _ m L => sq (mK co 1 (lf2 [1, 2, 5, 15, 16, 17] [((1, 2), false)]) m L fun r g _ m L => bk 0 (cM co (lf2 [1, 2, 5, 15, 16, 17] [((1, 2), false), ((1, 5), true)]) m L fun r g _ m L => lo (lpF (ZAY co p0 p1) ii m L (fun r8 m => sq (mK co 1 (lf2 [1, 5, 53, 54, 55] [((1, 5), true)]) m L fun r g _ m L => bk 4 (lo (lpF (ZEC co p0 p1) ii m L (fun r16 m => fO co m L))))))))
@[reducible] def Zww (p0 : List Msg) : Int → List Blk := fun y => [o48 p0]
def ZGl (pf1 : Msg → Option Bool) : Cl := fun no l H θ => (∀ (z0 : Msg) y, pf1 z0 = some y → Zfq tp l no H (θ 1) [.agg ((ZaC z0).map .d)] (vB y))
def Ztx (p0 : List Msg) : Nat → St := fun v1 => mkS [(0, rz p0.length), (1, .fn (.yield 1) [] []), (7, vN p0.length), (8, vN v1)] [((0, 0), o48 p0)]
def ZtX (p0 : List Msg) : Unit → Nat × St := fun _ => (0, mkS [] [((0, 0), o48 p0)])
def Zly (p0 : List Msg) (pf1 : Msg → Option Bool) (v1 : Nat) : PT 1 (Lv (Nat) (Unit) (Int)) := br (decide ((v1 : Int) < (p0.length : Int))) (vs (ir v1 p0.length 5) <| ca p0 v1 fun e2 => cf tp 1 [.agg ((ZaC e2).map .d)] (pf1 e2) (fun y => vB y) fun y3 => br y3 (lrt E47 (Zww p0) (v1 : Int)) (vs (wa v1 1) <| vz (fl p0) <| ln (Ztx p0) (v1 + 1))) (vz (fl p0) <| lxe (ZtX p0) ())
def Zji (p0 : List Msg) (pf1 : Msg → Option Bool) := fun (v1 : Nat) => (Zly p0 pf1 v1).m
def Zqv (p0 : List Msg) : PT 1 (Int) := lr E47 (Zww p0) (-1)
def ZsA (p0 : List Msg) (pf1 : Msg → Option Bool) : PT 1 (Int) := vz (eqN p0.length) <| vz (fl p0) <| lc (mkS [(0, rz p0.length), (1, .fn (.yield 1) [] []), (7, vN p0.length), (8, vI 0)] [((0, 0), o48 p0)]) ((Zaa (Zji p0 pf1) big 0).bind (Sum.elim (fun _ => (Zqv p0).m) some))
def ZsD (p0 : List Msg) (pf1 : Msg → Option Bool) : PT 1 (Int) := vz (fl p0) <| lc (mkS [(0, rz p0.length), (1, .fn (.yield 1) [] [])] [((0, 0), o48 p0)]) ((ZsA p0 pf1).m)
def Zbp (p0 : List Msg) (pf1 : Msg → Option Bool) : Option (Int) := (ZsD p0 pf1).m
theorem Ztn {C : Cx} (co : CO C 1) (p0 : List Msg) (pf1 : Msg → Option Bool) (hT : (ZGl pf1) C.no C.l C.H0 C.θ) : Kl 19 C (pa [0, 0, 1, 0, 1] (Zac Tryz.f47)) [.tmp 4] 1 (Ztx p0) (ZtX p0) E47 (Zww p0) (Zji p0 pf1) := fun v1 _ m Q Post hQ L => eN co (lf2 [0, 1, 7, 8] [z0]) (lf2 [] [z0]) hQ m L fun r g => ⟨fun e2 => ⟨⟨fun y hy => hT _ y hy, by intro r; kernel_rfl, by intro r y; kernel_rfl⟩, fun y3 => ⟨id, id⟩⟩, id⟩
theorem ZI2 (p0 : List Msg) (pf1 : Msg → Option Bool) : KO tp 47 1 [rz p0.length, .fn (.yield 1) [] []] [o48 p0] (ZGl pf1) (Zbp p0 pf1) E47 (Zww p0) := kO Tryz.func47 Tryz.ntmps47 [.tmp 4] 1 (fun co hT m L => mK co 1 (lf2 [0, 1] [z0]) m L fun r g _ m L => sq (mK co 1 (lf2 [0, 1, 7, 8] [z0]) m L fun r g _ m L => bk 0 (lo (lpF (Ztn co p0 pf1 hT) ii m L (fun _ m => fO co m L)))))
abbrev E84 : List Msg → AV := fun y => rz y.length
@[reducible] def G84 : List Msg → List Blk := fun y => [o48 y]
def H84 (pf1 : Msg → Option Bool) : Cl := fun no l H θ => (∀ (z0 : Msg) y, pf1 z0 = some y → Zfq tp l no H (θ 1) [.agg ((ZaC z0).map .d)] (vB y))
section
variable {C : Cx} (p0 : List Msg) (pf1 : Msg → Option Bool)
def Zu6 : Int × Int × List Msg → St := fun (v2, v3, r4) => mkS [(0, rz p0.length), (1, .fn (.yield 1) [] []), (5, vI v2), (6, vI v3)] [((0, 0), o48 r4)]
def ZG8 : Int × List Msg → Nat × St := fun (v7, r8) => (0, mkS [(0, rz p0.length), (5, vI v7)] [((0, 0), o48 r8)])
def ZA1 (v2 : Int) (v3 : Int) (r4 : List Msg) : PT 1 (Lv (Int × Int × List Msg) (Int × List Msg) (List Msg)) := vz (eqN p0.length) <| br (decide (v3 < (p0.length : Int))) (vs (iri v3 p0.length 5) <| ca r4 v3.toNat fun e5 => vw .go <| vw .go <| cf tp 1 [.agg ((ZaC e5).map .d)] (pf1 e5) (fun y => vB y) fun y6 => br (!y6) (vw .go <| vs (iri v2 p0.length 5) <| vs (st r4 v2.toNat e5) <| vwr 0 ((Rw.f (e5 : Msg)).map .d) (fun _ => ZeA _) <| vs (wi (v2 + 1)) <| vs (wi (v3 + 1)) <| vz (fl (r4.set v2.toNat e5)) <| ln (Zu6 p0) ((v2 + 1), (v3 + 1), r4.set v2.toNat e5)) (vs (wi (v3 + 1)) <| vz (fl r4) <| ln (Zu6 p0) (v2, (v3 + 1), r4))) (vz (fl r4) <| lxe (ZG8 p0) (v2, r4))
def Zql := fun ((v2, v3, r4) : Int × Int × List Msg) => (ZA1 p0 pf1 v2 v3 r4).m
def ZJS (v7 : Int) (r8 : List Msg) : PT 1 (List Msg) := sR p0.length 0 (.it v7) .no <| cr r8 (0 + v7.toNat) (p0.length - v7.toNat) [vS ⟨#[]⟩, .e0, .e0, .e0, .e0] <| vwr 0 ([vS ⟨#[]⟩, .e0, .e0, .e0, .e0]) (fun _ => Zmo (by kernel_rfl)) <| tro 0 r8 (0 + v7.toNat) (p0.length - v7.toNat) [vS ⟨#[]⟩, .e0, .e0, .e0, .e0] <| vw .sep <| sR p0.length 0 .no (.it v7) <| lfe (v7.toNat = (r8.take (0 + v7.toNat)).length) (fun E => E.P (rz v7.toNat) ([o48 (r8.take (0 + v7.toNat))])) (r8.take (0 + v7.toNat))
def ZH0 (y1 : Int) : PT 1 (List Msg) := vs (wi (y1 + 1)) <| vz (fl p0) <| lc (Zu6 p0 (y1, (y1 + 1), p0)) ((Zaa (Zql p0 pf1) big (y1, (y1 + 1), p0)).bind (Sum.elim (fun (v7, r8) => (ZJS p0 v7 r8).m) some))
def ZKc : PT 1 (List Msg) := cs tp 47 [rz p0.length, .fn (.yield 1) [] []] [(0, 0)] [((0, 0), o48 p0)] (Zbp p0 pf1) (fun y => vI y) fun y1 => br (decide (y1 = ((-1) : Int))) (lr E84 (G84) p0) (vz (fl p0) <| lc (mkS [(0, rz p0.length), (1, .fn (.yield 1) [] []), (5, vI y1)] [((0, 0), o48 p0)]) ((ZH0 p0 pf1 y1).m))
def ZbE (p0 : List Msg) (pf1 : Msg → Option Bool) : Option (List Msg) := (ZKc p0 pf1).m
theorem ZBJ (co : CO C 1) (hT : (H84 pf1) C.no C.l C.H0 C.θ) : Kl 42 C (pa [0, 0, 1, 0, 1, 1, 1] (Zac Tryz.f84)) [.tmp 4] 1 (Zu6 p0) (ZG8 p0) E84 (G84) (Zql p0 pf1) := fun (v2, v3, r4) _ m Q Post hQ L => eN co (lf2 [0, 1, 5, 6] [z0]) (lf2 [0, 5] [z0]) hQ m L fun r g => ⟨fun e5 => ⟨⟨fun y hy => hT _ y hy, by intro r; kernel_rfl, by intro r y; kernel_rfl⟩, fun y6 => ⟨id, id⟩⟩, id⟩
end
theorem ZPB (p0 : List Msg) (pf1 : Msg → Option Bool) : KO tp 84 1 [rz p0.length, .fn (.yield 1) [] []] [o48 p0] (H84 pf1) (ZbE p0 pf1) E84 (G84) := ko1 Tryz.func84 Tryz.ntmps84 tok [.tmp 4] 1 (fun C co hT y m Post L => mK co 3 (lf2 [0, 1, 5] [z0]) m L fun r g => ⟨fun y hy => Zbm (ZI2 p0 pf1) hy co g [((0, 0), o48 p0)] [] (lkS [(1, r.θ 1)]) (fun H' hg ho => (fun z0 y hz => ZaO co g [((0, 0), o48 p0)] ho (hT z0 y hz))) (fun H => ⟨fun _ => ⟨rfl, bz⟩, by kernel_rfl, trivial⟩), fun y1 => ⟨id, fun _ m L => sq (mK co 1 (lf2 [0, 1, 5, 6] [z0]) m L fun r g _ m L => bk 0 (lo (lpF (ZBJ p0 pf1 co hT) ii m L (fun (v7, r8) m => fO co m L fun r g h L => lfx (congrArg (fun n => (rz n : AV)) h) L))))⟩⟩)
@[reducible] def G85 (w0 : List (Bt × Bool)) : Bool → List Blk := fun y => [⟨0, true, 40, 1, [.d (.map false (w0.map eEt))]⟩]
def ZMq (p0 : Msg) (w0 : List (Bt × Bool)) : PT 1 (Bool) := vw .go <| vw .go <| mlk w0 p0.name fun m1 b2 => lr E49 (G85 w0) m1
def Zcy (p0 : Msg) (w0 : List (Bt × Bool)) : Option (Bool) := (ZMq p0 w0).m
theorem ZQz (p0 : Msg) (w0 : List (Bt × Bool)) : KO tp 85 1 [.agg ((ZaC p0).map .d), .ptr (0, 0) 0 0] [⟨0, true, 40, 1, [.d (.map false (w0.map eEt))]⟩] ct (Zcy p0 w0) E49 (G85 w0) := kO Tryz.func85 Tryz.ntmps85 [.tmp 3] 1 (fun co hT m L => fO co m L)
@[reducible] def Zw6 (p0 : List Enm) : Int → List Blk := fun y => [o55 p0]
def ZIt (pf1 : Enm → Option Bool) : Cl := fun no l H θ => (∀ (z0 : Enm) y, pf1 z0 = some y → Zfq tp l no H (θ 1) [.agg ((Zan z0).map .d)] (vB y))
def Zut (p0 : List Enm) : Nat → St := fun v1 => mkS [(0, rz p0.length), (1, .fn (.yield 1) [] []), (7, vN p0.length), (8, vN v1)] [((0, 0), o55 p0)]
def ZqL (p0 : List Enm) : Unit → Nat × St := fun _ => (0, mkS [] [((0, 0), o55 p0)])
def ZlU (p0 : List Enm) (pf1 : Enm → Option Bool) (v1 : Nat) : PT 1 (Lv (Nat) (Unit) (Int)) := br (decide ((v1 : Int) < (p0.length : Int))) (vs (ir v1 p0.length 5) <| ca p0 v1 fun e2 => cf tp 1 [.agg ((Zan e2).map .d)] (pf1 e2) (fun y => vB y) fun y3 => br y3 (lrt E47 (Zw6 p0) (v1 : Int)) (vs (wa v1 1) <| vz (fl p0) <| ln (Zut p0) (v1 + 1))) (vz (fl p0) <| lxe (ZqL p0) ())
def Zjl (p0 : List Enm) (pf1 : Enm → Option Bool) := fun (v1 : Nat) => (ZlU p0 pf1 v1).m
def ZsF (p0 : List Enm) : PT 1 (Int) := lr E47 (Zw6 p0) (-1)
def ZtN (p0 : List Enm) (pf1 : Enm → Option Bool) : PT 1 (Int) := vz (eqN p0.length) <| vz (fl p0) <| lc (mkS [(0, rz p0.length), (1, .fn (.yield 1) [] []), (7, vN p0.length), (8, vI 0)] [((0, 0), o55 p0)]) ((Zaa (Zjl p0 pf1) big 0).bind (Sum.elim (fun _ => (ZsF p0).m) some))
def ZtI (p0 : List Enm) (pf1 : Enm → Option Bool) : PT 1 (Int) := vz (fl p0) <| lc (mkS [(0, rz p0.length), (1, .fn (.yield 1) [] [])] [((0, 0), o55 p0)]) ((ZtN p0 pf1).m)
def Zca (p0 : List Enm) (pf1 : Enm → Option Bool) : Option (Int) := (ZtI p0 pf1).m
theorem ZqV {C : Cx} (co : CO C 1) (p0 : List Enm) (pf1 : Enm → Option Bool) (hT : (ZIt pf1) C.no C.l C.H0 C.θ) : Kl 19 C (pa [0, 0, 1, 0, 1] (Zac Tryz.f54)) [.tmp 4] 1 (Zut p0) (ZqL p0) E47 (Zw6 p0) (Zjl p0 pf1) := fun v1 _ m Q Post hQ L => eN co (lf2 [0, 1, 7, 8] [z0]) (lf2 [] [z0]) hQ m L fun r g => ⟨fun e2 => ⟨⟨fun y hy => hT _ y hy, by intro r; kernel_rfl, by intro r y; kernel_rfl⟩, fun y3 => ⟨id, id⟩⟩, id⟩
theorem ZGH (p0 : List Enm) (pf1 : Enm → Option Bool) : KO tp 54 1 [rz p0.length, .fn (.yield 1) [] []] [o55 p0] (ZIt pf1) (Zca p0 pf1) E47 (Zw6 p0) := kO Tryz.func54 Tryz.ntmps54 [.tmp 4] 1 (fun co hT m L => mK co 1 (lf2 [0, 1] [z0]) m L fun r g _ m L => sq (mK co 1 (lf2 [0, 1, 7, 8] [z0]) m L fun r g _ m L => bk 0 (lo (lpF (ZqV co p0 pf1 hT) ii m L (fun _ m => fO co m L)))))
abbrev E86 : List Enm → AV := fun y => rz y.length
@[reducible] def G86 : List Enm → List Blk := fun y => [o55 y]
def H86 (pf1 : Enm → Option Bool) : Cl := fun no l H θ => (∀ (z0 : Enm) y, pf1 z0 = some y → Zfq tp l no H (θ 1) [.agg ((Zan z0).map .d)] (vB y))
section
variable {C : Cx} (p0 : List Enm) (pf1 : Enm → Option Bool)
def ZuN : Int × Int × List Enm → St := fun (v2, v3, r4) => mkS [(0, rz p0.length), (1, .fn (.yield 1) [] []), (5, vI v2), (6, vI v3)] [((0, 0), o55 r4)]
def ZII : Int × List Enm → Nat × St := fun (v7, r8) => (0, mkS [(0, rz p0.length), (5, vI v7)] [((0, 0), o55 r8)])
def ZDR (v2 : Int) (v3 : Int) (r4 : List Enm) : PT 1 (Lv (Int × Int × List Enm) (Int × List Enm) (List Enm)) := vz (eqN p0.length) <| br (decide (v3 < (p0.length : Int))) (vs (iri v3 p0.length 5) <| ca r4 v3.toNat fun e5 => vw .go <| vw .go <| cf tp 1 [.agg ((Zan e5).map .d)] (pf1 e5) (fun y => vB y) fun y6 => br (!y6) (vw .go <| vs (iri v2 p0.length 5) <| vs (st r4 v2.toNat e5) <| vwr 0 ((Rw.f (e5 : Enm)).map .d) (fun _ => ZeA _) <| vs (wi (v2 + 1)) <| vs (wi (v3 + 1)) <| vz (fl (r4.set v2.toNat e5)) <| ln (ZuN p0) ((v2 + 1), (v3 + 1), r4.set v2.toNat e5)) (vs (wi (v3 + 1)) <| vz (fl r4) <| ln (ZuN p0) (v2, (v3 + 1), r4))) (vz (fl r4) <| lxe (ZII p0) (v2, r4))
def Zrd := fun ((v2, v3, r4) : Int × Int × List Enm) => (ZDR p0 pf1 v2 v3 r4).m
def ZG2 (v7 : Int) (r8 : List Enm) : PT 1 (List Enm) := sR p0.length 0 (.it v7) .no <| cr r8 (0 + v7.toNat) (p0.length - v7.toNat) [vS ⟨#[]⟩, vB false, .e0, .e0, .e0] <| vwr 0 ([vS ⟨#[]⟩, vB false, .e0, .e0, .e0]) (fun _ => Zmo (by kernel_rfl)) <| tro 0 r8 (0 + v7.toNat) (p0.length - v7.toNat) [vS ⟨#[]⟩, vB false, .e0, .e0, .e0] <| vw .sep <| sR p0.length 0 .no (.it v7) <| lfe (v7.toNat = (r8.take (0 + v7.toNat)).length) (fun E => E.P (rz v7.toNat) ([o55 (r8.take (0 + v7.toNat))])) (r8.take (0 + v7.toNat))
def ZF8 (y1 : Int) : PT 1 (List Enm) := vs (wi (y1 + 1)) <| vz (fl p0) <| lc (ZuN p0 (y1, (y1 + 1), p0)) ((Zaa (Zrd p0 pf1) big (y1, (y1 + 1), p0)).bind (Sum.elim (fun (v7, r8) => (ZG2 p0 v7 r8).m) some))
def ZGM : PT 1 (List Enm) := cs tp 54 [rz p0.length, .fn (.yield 1) [] []] [(0, 0)] [((0, 0), o55 p0)] (Zca p0 pf1) (fun y => vI y) fun y1 => br (decide (y1 = ((-1) : Int))) (lr E86 (G86) p0) (vz (fl p0) <| lc (mkS [(0, rz p0.length), (1, .fn (.yield 1) [] []), (5, vI y1)] [((0, 0), o55 p0)]) ((ZF8 p0 pf1 y1).m))
def Zck (p0 : List Enm) (pf1 : Enm → Option Bool) : Option (List Enm) := (ZGM p0 pf1).m
theorem ZCg (co : CO C 1) (hT : (H86 pf1) C.no C.l C.H0 C.θ) : Kl 42 C (pa [0, 0, 1, 0, 1, 1, 1] (Zac Tryz.f86)) [.tmp 4] 1 (ZuN p0) (ZII p0) E86 (G86) (Zrd p0 pf1) := fun (v2, v3, r4) _ m Q Post hQ L => eN co (lf2 [0, 1, 5, 6] [z0]) (lf2 [0, 5] [z0]) hQ m L fun r g => ⟨fun e5 => ⟨⟨fun y hy => hT _ y hy, by intro r; kernel_rfl, by intro r y; kernel_rfl⟩, fun y6 => ⟨id, id⟩⟩, id⟩
end
theorem ZRo (p0 : List Enm) (pf1 : Enm → Option Bool) : KO tp 86 1 [rz p0.length, .fn (.yield 1) [] []] [o55 p0] (H86 pf1) (Zck p0 pf1) E86 (G86) := ko1 Tryz.func86 Tryz.ntmps86 tok [.tmp 4] 1 (fun C co hT y m Post L => mK co 3 (lf2 [0, 1, 5] [z0]) m L fun r g => ⟨fun y hy => Zbm (ZGH p0 pf1) hy co g [((0, 0), o55 p0)] [] (lkS [(1, r.θ 1)]) (fun H' hg ho => (fun z0 y hz => ZaO co g [((0, 0), o55 p0)] ho (hT z0 y hz))) (fun H => ⟨fun _ => ⟨rfl, bz⟩, by kernel_rfl, trivial⟩), fun y1 => ⟨id, fun _ m L => sq (mK co 1 (lf2 [0, 1, 5, 6] [z0]) m L fun r g _ m L => bk 0 (lo (lpF (ZCg p0 pf1 co hT) ii m L (fun (v7, r8) m => fO co m L fun r g h L => lfx (congrArg (fun n => (rz n : AV)) h) L))))⟩⟩)
@[reducible] def G87 (w0 : List (Bt × Bool)) : Bool → List Blk := fun y => [⟨0, true, 40, 1, [.d (.map false (w0.map eEt))]⟩]
def ZNN (p0 : Enm) (w0 : List (Bt × Bool)) : PT 1 (Bool) := vw .go <| vw .go <| mlk w0 p0.name fun m1 b2 => lr E49 (G87 w0) m1
def ZcB (p0 : Enm) (w0 : List (Bt × Bool)) : Option (Bool) := (ZNN p0 w0).m
theorem ZPC (p0 : Enm) (w0 : List (Bt × Bool)) : KO tp 87 1 [.agg ((Zan p0).map .d), .ptr (0, 0) 0 0] [⟨0, true, 40, 1, [.d (.map false (w0.map eEt))]⟩] ct (ZcB p0 w0) E49 (G87 w0) := kO Tryz.func87 Tryz.ntmps87 [.tmp 3] 1 (fun co hT m L => fO co m L)
@[reducible] def Zxm (p0 : List Svc) : Int → List Blk := fun y => [o62 p0]
def ZLx (pf1 : Svc → Option Bool) : Cl := fun no l H θ => (∀ (z0 : Svc) y, pf1 z0 = some y → Zfq tp l no H (θ 1) [.agg ((ZaG z0).map .d)] (vB y))
def Zue (p0 : List Svc) : Nat → St := fun v1 => mkS [(0, rz p0.length), (1, .fn (.yield 1) [] []), (7, vN p0.length), (8, vN v1)] [((0, 0), o62 p0)]
def Zrk (p0 : List Svc) : Unit → Nat × St := fun _ => (0, mkS [] [((0, 0), o62 p0)])
def Zl4 (p0 : List Svc) (pf1 : Svc → Option Bool) (v1 : Nat) : PT 1 (Lv (Nat) (Unit) (Int)) := br (decide ((v1 : Int) < (p0.length : Int))) (vs (ir v1 p0.length 3) <| ca p0 v1 fun e2 => cf tp 1 [.agg ((ZaG e2).map .d)] (pf1 e2) (fun y => vB y) fun y3 => br y3 (lrt E47 (Zxm p0) (v1 : Int)) (vs (wa v1 1) <| vz (fl p0) <| ln (Zue p0) (v1 + 1))) (vz (fl p0) <| lxe (Zrk p0) ())
def ZiG (p0 : List Svc) (pf1 : Svc → Option Bool) := fun (v1 : Nat) => (Zl4 p0 pf1 v1).m
def ZqS (p0 : List Svc) : PT 1 (Int) := lr E47 (Zxm p0) (-1)
def ZtG (p0 : List Svc) (pf1 : Svc → Option Bool) : PT 1 (Int) := vz (eqN p0.length) <| vz (fl p0) <| lc (mkS [(0, rz p0.length), (1, .fn (.yield 1) [] []), (7, vN p0.length), (8, vI 0)] [((0, 0), o62 p0)]) ((Zaa (ZiG p0 pf1) big 0).bind (Sum.elim (fun _ => (ZqS p0).m) some))
def Zsd (p0 : List Svc) (pf1 : Svc → Option Bool) : PT 1 (Int) := vz (fl p0) <| lc (mkS [(0, rz p0.length), (1, .fn (.yield 1) [] [])] [((0, 0), o62 p0)]) ((ZtG p0 pf1).m)
def Zbq (p0 : List Svc) (pf1 : Svc → Option Bool) : Option (Int) := (Zsd p0 pf1).m
theorem Zq7 {C : Cx} (co : CO C 1) (p0 : List Svc) (pf1 : Svc → Option Bool) (hT : (ZLx pf1) C.no C.l C.H0 C.θ) : Kl 19 C (pa [0, 0, 1, 0, 1] (Zac Tryz.f59)) [.tmp 4] 1 (Zue p0) (Zrk p0) E47 (Zxm p0) (ZiG p0 pf1) := fun v1 _ m Q Post hQ L => eN co (lf2 [0, 1, 7, 8] [z0]) (lf2 [] [z0]) hQ m L fun r g => ⟨fun e2 => ⟨⟨fun y hy => hT _ y hy, by intro r; kernel_rfl, by intro r y; kernel_rfl⟩, fun y3 => ⟨id, id⟩⟩, id⟩
theorem ZJZ (p0 : List Svc) (pf1 : Svc → Option Bool) : KO tp 59 1 [rz p0.length, .fn (.yield 1) [] []] [o62 p0] (ZLx pf1) (Zbq p0 pf1) E47 (Zxm p0) := kO Tryz.func59 Tryz.ntmps59 [.tmp 4] 1 (fun co hT m L => mK co 1 (lf2 [0, 1] [z0]) m L fun r g _ m L => sq (mK co 1 (lf2 [0, 1, 7, 8] [z0]) m L fun r g _ m L => bk 0 (lo (lpF (Zq7 co p0 pf1 hT) ii m L (fun _ m => fO co m L)))))
abbrev E88 : List Svc → AV := fun y => rz y.length
@[reducible] def G88 : List Svc → List Blk := fun y => [o62 y]
def H88 (pf1 : Svc → Option Bool) : Cl := fun no l H θ => (∀ (z0 : Svc) y, pf1 z0 = some y → Zfq tp l no H (θ 1) [.agg ((ZaG z0).map .d)] (vB y))
section
variable {C : Cx} (p0 : List Svc) (pf1 : Svc → Option Bool)
def Zwp : Int × Int × List Svc → St := fun (v2, v3, r4) => mkS [(0, rz p0.length), (1, .fn (.yield 1) [] []), (5, vI v2), (6, vI v3)] [((0, 0), o62 r4)]
def ZHV : Int × List Svc → Nat × St := fun (v7, r8) => (0, mkS [(0, rz p0.length), (5, vI v7)] [((0, 0), o62 r8)])
def ZED (v2 : Int) (v3 : Int) (r4 : List Svc) : PT 1 (Lv (Int × Int × List Svc) (Int × List Svc) (List Svc)) := vz (eqN p0.length) <| br (decide (v3 < (p0.length : Int))) (vs (iri v3 p0.length 3) <| ca r4 v3.toNat fun e5 => vw .go <| vw .go <| cf tp 1 [.agg ((ZaG e5).map .d)] (pf1 e5) (fun y => vB y) fun y6 => br (!y6) (vw .go <| vs (iri v2 p0.length 3) <| vs (st r4 v2.toNat e5) <| vwr 0 ((Rw.f (e5 : Svc)).map .d) (fun _ => ZeA _) <| vs (wi (v2 + 1)) <| vs (wi (v3 + 1)) <| vz (fl (r4.set v2.toNat e5)) <| ln (Zwp p0) ((v2 + 1), (v3 + 1), r4.set v2.toNat e5)) (vs (wi (v3 + 1)) <| vz (fl r4) <| ln (Zwp p0) (v2, (v3 + 1), r4))) (vz (fl r4) <| lxe (ZHV p0) (v2, r4))
def Zte := fun ((v2, v3, r4) : Int × Int × List Svc) => (ZED p0 pf1 v2 v3 r4).m
def ZJr (v7 : Int) (r8 : List Svc) : PT 1 (List Svc) := sR p0.length 0 (.it v7) .no <| cr r8 (0 + v7.toNat) (p0.length - v7.toNat) [vS ⟨#[]⟩, .e0, .e0] <| vwr 0 ([vS ⟨#[]⟩, .e0, .e0]) (fun _ => Zmo (by kernel_rfl)) <| tro 0 r8 (0 + v7.toNat) (p0.length - v7.toNat) [vS ⟨#[]⟩, .e0, .e0] <| vw .sep <| sR p0.length 0 .no (.it v7) <| lfe (v7.toNat = (r8.take (0 + v7.toNat)).length) (fun E => E.P (rz v7.toNat) ([o62 (r8.take (0 + v7.toNat))])) (r8.take (0 + v7.toNat))
def ZJR (y1 : Int) : PT 1 (List Svc) := vs (wi (y1 + 1)) <| vz (fl p0) <| lc (Zwp p0 (y1, (y1 + 1), p0)) ((Zaa (Zte p0 pf1) big (y1, (y1 + 1), p0)).bind (Sum.elim (fun (v7, r8) => (ZJr p0 v7 r8).m) some))
def ZIy : PT 1 (List Svc) := cs tp 59 [rz p0.length, .fn (.yield 1) [] []] [(0, 0)] [((0, 0), o62 p0)] (Zbq p0 pf1) (fun y => vI y) fun y1 => br (decide (y1 = ((-1) : Int))) (lr E88 (G88) p0) (vz (fl p0) <| lc (mkS [(0, rz p0.length), (1, .fn (.yield 1) [] []), (5, vI y1)] [((0, 0), o62 p0)]) ((ZJR p0 pf1 y1).m))
def ZbC (p0 : List Svc) (pf1 : Svc → Option Bool) : Option (List Svc) := (ZIy p0 pf1).m
theorem ZFf (co : CO C 1) (hT : (H88 pf1) C.no C.l C.H0 C.θ) : Kl 42 C (pa [0, 0, 1, 0, 1, 1, 1] (Zac Tryz.f88)) [.tmp 4] 1 (Zwp p0) (ZHV p0) E88 (G88) (Zte p0 pf1) := fun (v2, v3, r4) _ m Q Post hQ L => eN co (lf2 [0, 1, 5, 6] [z0]) (lf2 [0, 5] [z0]) hQ m L fun r g => ⟨fun e5 => ⟨⟨fun y hy => hT _ y hy, by intro r; kernel_rfl, by intro r y; kernel_rfl⟩, fun y6 => ⟨id, id⟩⟩, id⟩
end
theorem ZQN (p0 : List Svc) (pf1 : Svc → Option Bool) : KO tp 88 1 [rz p0.length, .fn (.yield 1) [] []] [o62 p0] (H88 pf1) (ZbC p0 pf1) E88 (G88) := ko1 Tryz.func88 Tryz.ntmps88 tok [.tmp 4] 1 (fun C co hT y m Post L => mK co 3 (lf2 [0, 1, 5] [z0]) m L fun r g => ⟨fun y hy => Zbm (ZJZ p0 pf1) hy co g [((0, 0), o62 p0)] [] (lkS [(1, r.θ 1)]) (fun H' hg ho => (fun z0 y hz => ZaO co g [((0, 0), o62 p0)] ho (hT z0 y hz))) (fun H => ⟨fun _ => ⟨rfl, bz⟩, by kernel_rfl, trivial⟩), fun y1 => ⟨id, fun _ m L => sq (mK co 1 (lf2 [0, 1, 5, 6] [z0]) m L fun r g _ m L => bk 0 (lo (lpF (ZFf p0 pf1 co hT) ii m L (fun (v7, r8) m => fO co m L fun r g h L => lfx (congrArg (fun n => (rz n : AV)) h) L))))⟩⟩)
@[reducible] def G89 (w0 : List (Bt × Bool)) : Bool → List Blk := fun y => [⟨0, true, 40, 1, [.d (.map false (w0.map eEt))]⟩]
def ZMo (p0 : Svc) (w0 : List (Bt × Bool)) : PT 1 (Bool) := vw .go <| vw .go <| mlk w0 p0.name fun m1 b2 => lr E49 (G89 w0) m1
def Zcv (p0 : Svc) (w0 : List (Bt × Bool)) : Option (Bool) := (ZMo p0 w0).m
theorem ZPx (p0 : Svc) (w0 : List (Bt × Bool)) : KO tp 89 1 [.agg ((ZaG p0).map .d), .ptr (0, 0) 0 0] [⟨0, true, 40, 1, [.d (.map false (w0.map eEt))]⟩] ct (Zcv p0 w0) E49 (G89 w0) := kO Tryz.func89 Tryz.ntmps89 [.tmp 3] 1 (fun co hT m L => fO co m L)
end
end Go.Proofs.YthagpbkmakocjaaGreat
