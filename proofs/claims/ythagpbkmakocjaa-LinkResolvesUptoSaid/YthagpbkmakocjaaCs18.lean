import Derived.Test.YthagpbkmakocjaaCs17
import Derived.Test.YthagpbkmakocjaaCs11
namespace Go.Proofs.Ythagpbkmakocjaa
set_option linter.all false
open Go Go.Eng
abbrev E12 : Bool → AV := fun y => vB y
def T12_1 : PT 0 (Bool) := vw .sep <| vw .sep <| vw .sep <| vw .sep <| vw .go <| vw .go <| vw .sep <| cl (K_9 ([(.mk ⟨#[120]⟩ ⟨#[97]⟩ ([] : List ByteArray) ([(.mk ⟨#[77]⟩ ([(.mk 1 ⟨#[102]⟩ 2 0 (.mk 0 ⟨#[78]⟩ : Typ) ⟨#[]⟩ false (.mk 0 0 ⟨#[]⟩ ([] : List Val) ([] : List Pr) ([] : List Slt) ([] : List Raw) : Val) ([] : List Nt) : Fld)] : List Fld) ([] : List Spn) ([] : List ByteArray) ([] : List Nt) : Msg), (.mk (⟨#[77, 46, 78]⟩) ([] : List Fld) ([] : List Spn) ([] : List ByteArray) ([] : List Nt) : Msg)] : List Msg) ([] : List Enm) ([] : List Svc) : Fil)] : List Fil)) fun y1 => vw .go <| vw .go <| vy (decide (y1.2.2 = (0 : Int)) && decide (y1.2.1 = (⟨#[]⟩ : ByteArray))) (eqL y1.1.messages) <| vw .go <| ixg ((decide (y1.2.2 = (0 : Int)) && decide (y1.2.1 = (⟨#[]⟩ : ByteArray))) && decide ((y1.1.messages.length : Int) = (2 : Int))) y1.1.messages 0 fun e2 => vw .go <| ixg (((decide (y1.2.2 = (0 : Int)) && decide (y1.2.1 = (⟨#[]⟩ : ByteArray))) && decide ((y1.1.messages.length : Int) = (2 : Int))) && decide (e2.name = (⟨#[97, 46, 77]⟩ : ByteArray))) y1.1.messages 1 fun e3 => vw .go <| ixg ((((decide (y1.2.2 = (0 : Int)) && decide (y1.2.1 = (⟨#[]⟩ : ByteArray))) && decide ((y1.1.messages.length : Int) = (2 : Int))) && decide (e2.name = (⟨#[97, 46, 77]⟩ : ByteArray))) && decide (e3.name = (⟨#[97, 46, 77, 46, 78]⟩ : ByteArray))) y1.1.messages 0 fun e4 => vy ((((decide (y1.2.2 = (0 : Int)) && decide (y1.2.1 = (⟨#[]⟩ : ByteArray))) && decide ((y1.1.messages.length : Int) = (2 : Int))) && decide (e2.name = (⟨#[97, 46, 77]⟩ : ByteArray))) && decide (e3.name = (⟨#[97, 46, 77, 46, 78]⟩ : ByteArray))) (eqL e4.fields) <| vw .go <| ixg (((((decide (y1.2.2 = (0 : Int)) && decide (y1.2.1 = (⟨#[]⟩ : ByteArray))) && decide ((y1.1.messages.length : Int) = (2 : Int))) && decide (e2.name = (⟨#[97, 46, 77]⟩ : ByteArray))) && decide (e3.name = (⟨#[97, 46, 77, 46, 78]⟩ : ByteArray))) && decide ((e4.fields.length : Int) = (1 : Int))) y1.1.messages 0 fun e5 => ixg (((((decide (y1.2.2 = (0 : Int)) && decide (y1.2.1 = (⟨#[]⟩ : ByteArray))) && decide ((y1.1.messages.length : Int) = (2 : Int))) && decide (e2.name = (⟨#[97, 46, 77]⟩ : ByteArray))) && decide (e3.name = (⟨#[97, 46, 77, 46, 78]⟩ : ByteArray))) && decide ((e4.fields.length : Int) = (1 : Int))) e5.fields 0 fun e6 => lr E12 (fun _ => []) ((((((decide (y1.2.2 = (0 : Int)) && decide (y1.2.1 = (⟨#[]⟩ : ByteArray))) && decide ((y1.1.messages.length : Int) = (2 : Int))) && decide (e2.name = (⟨#[97, 46, 77]⟩ : ByteArray))) && decide (e3.name = (⟨#[97, 46, 77, 46, 78]⟩ : ByteArray))) && decide ((e4.fields.length : Int) = (1 : Int))) && (decide (e6.type.kind = 10) && (decide (e6.type.name = (⟨#[97, 46, 77, 46, 78]⟩)) && true)))
def M_wireschemalaw11_awake : Option (Bool) := (T12_1).m
set_option maxRecDepth 100000 in
theorem K_12 : KC Try.prog 12 [] (M_wireschemalaw11_awake) E12 := kc1 Try.func12 Try.ntmps12 tok [.tmp 0] fun C co y hm Post hL => fin4 co tok tmo (T12_1) hm hL fun r g => fun y1 => fun e2 => fun e3 => fun e4 => fun e5 => fun e6 => id
abbrev E13 : Bool → AV := fun y => vB y
section
variable {C : Cx} (co : CO C 0) (p0 : List Fil) (v1 : Nat) (e2 : Fil) (v3 : Nat) (e4 : Msg)
def S13_1 : Nat → St := fun v1 => mkS [(9, vL eFil p0), (10, vN p0.length), (11, vN v1)] []
def X13_1 : Unit → Nat × St := fun _ => (0, mkS [] [])
def S13_2 : Nat → St := fun v3 => mkS [(9, vL eFil p0), (10, vN p0.length), (11, vN v1), (16, vL eMsg e2.messages), (17, vN e2.messages.length), (18, vN v3)] []
def X13_2 : Unit → Nat × St := fun _ => (2, mkS [(9, vL eFil p0), (10, vN p0.length), (11, vN v1)] [])
def S13_3 : Nat → St := fun v5 => mkS [(9, vL eFil p0), (10, vN p0.length), (11, vN v1), (16, vL eMsg e2.messages), (17, vN e2.messages.length), (18, vN v3), (23, vL eFld e4.fields), (24, vN e4.fields.length), (25, vN v5)] []
def X13_3 : Unit → Nat × St := fun _ => (4, mkS [(9, vL eFil p0), (10, vN p0.length), (11, vN v1), (16, vL eMsg e2.messages), (17, vN e2.messages.length), (18, vN v3)] [])
def T13_1 (v5 : Nat) : PT 0 (Lv (Nat) (Unit) (Bool)) := br (decide ((v5 : Int) < (e4.fields.length : Int))) (ix e4.fields v5 fun e6 => vw .go <| vw .go <| vw .go <| br (decide (e6.type.kind = (10 : Int)) || decide (e6.type.kind = (9 : Int))) (lrt E13 (fun _ => []) true) (vs (wa v5 1) <| ln (S13_3 p0 v1 e2 v3 e4) (v5 + 1))) (lxe (X13_3 p0 v1 e2 v3) ())
def B13_3 : Nat → Option (Lv (Nat) (Unit) (Bool)) := fun v5 => (T13_1 p0 v1 e2 v3 e4 v5).m
def T13_2 : PT 0 (Lv (Nat) (Unit) (Bool)) := vs (wa v3 1) <| ln (S13_2 p0 v1 e2) (v3 + 1)
def T13_3 : PT 0 (Lv (Nat) (Unit) (Bool)) := ix e2.messages v3 fun e4 => vw .go <| vw .go <| vz (eqL e4.fields) <| lc (mkS [(9, vL eFil p0), (10, vN p0.length), (11, vN v1), (16, vL eMsg e2.messages), (17, vN e2.messages.length), (18, vN v3), (23, vL eFld e4.fields), (24, vN e4.fields.length), (25, vI 0)] []) ((loopM (B13_3 p0 v1 e2 v3 e4) big 0).bind (Sum.elim (fun _ => (T13_2 p0 v1 e2 v3).m) (fun z => some (.rt z))))
def T13_4 : PT 0 (Lv (Nat) (Unit) (Bool)) := br (decide ((v3 : Int) < (e2.messages.length : Int))) (lc (mkS [(9, vL eFil p0), (10, vN p0.length), (11, vN v1), (16, vL eMsg e2.messages), (17, vN e2.messages.length), (18, vN v3)] []) ((T13_3 p0 v1 e2 v3).m)) (lxe (X13_2 p0 v1) ())
def B13_2 : Nat → Option (Lv (Nat) (Unit) (Bool)) := fun v3 => (T13_4 p0 v1 e2 v3).m
def T13_5 : PT 0 (Lv (Nat) (Unit) (Bool)) := vs (wa v1 1) <| ln (S13_1 p0) (v1 + 1)
def T13_6 : PT 0 (Lv (Nat) (Unit) (Bool)) := ix p0 v1 fun e2 => vw .go <| vw .go <| vz (eqL e2.messages) <| lc (mkS [(9, vL eFil p0), (10, vN p0.length), (11, vN v1), (16, vL eMsg e2.messages), (17, vN e2.messages.length), (18, vI 0)] []) ((loopM (B13_2 p0 v1 e2) big 0).bind (Sum.elim (fun _ => (T13_5 p0 v1).m) (fun z => some (.rt z))))
def T13_7 : PT 0 (Lv (Nat) (Unit) (Bool)) := br (decide ((v1 : Int) < (p0.length : Int))) (lc (mkS [(9, vL eFil p0), (10, vN p0.length), (11, vN v1)] []) ((T13_6 p0 v1).m)) (lxe (X13_1) ())
def B13_1 : Nat → Option (Lv (Nat) (Unit) (Bool)) := fun v1 => (T13_7 p0 v1).m
def T13_8 : PT 0 (Bool) := lr E13 (fun _ => []) false
def T13_9 : PT 0 (Bool) := vz (eqL p0) <| lc (mkS [(9, vL eFil p0), (10, vN p0.length), (11, vI 0)] []) ((loopM (B13_1 p0) big 0).bind (Sum.elim (fun _ => (T13_8).m) some))
def T13_10 : PT 0 (Bool) := lc (mkS [(0, vL eFil p0)] []) ((T13_9 p0).m)
def M_wireschemalaw11_raw (p0 : List Fil) : Option (Bool) := (T13_10 p0).m
section
include co
set_option maxRecDepth 100000 in
theorem K_13_L3 : KL Try.prog (lkT tl) 42 C (pa [0, 0, 1, 1, 0, 0, 1, 1, 0, 0, 1, 1, 0, 0, 1, 1, 0, 0, 1, 0, 1] (bodyOf Try.f13)) [.tmp 2] 0 (S13_3 p0 v1 e2 v3 e4) (X13_3 p0 v1 e2 v3) E13 (fun _ => []) (B13_3 p0 v1 e2 v3 e4) := fun v5 _ hm Q Post hQ hL => end4 co tok tmo (T13_1 p0 v1 e2 v3 e4 v5) (lf1 [9, 10, 11, 16, 17, 18, 23, 24, 25]) (lf1 [9, 10, 11, 16, 17, 18]) hQ hm hL fun r g => ⟨fun e6 => ⟨id, id⟩, id⟩
set_option maxRecDepth 100000 in
theorem K_13_L2 : KL Try.prog (lkT tl) 42 C (pa [0, 0, 1, 1, 0, 0, 1, 1, 0, 0, 1, 0, 1] (bodyOf Try.f13)) [.tmp 2] 0 (S13_2 p0 v1 e2) (X13_2 p0 v1) E13 (fun _ => []) (B13_2 p0 v1 e2) := fun v3 _ hm Q Post hQ hL => mid4 co tok tmo 2 (T13_4 p0 v1 e2 v3) (lf1 [9, 10, 11, 16, 17, 18]) (lf1 [9, 10, 11]) hQ hm hL fun r g => ⟨fun _ hm hL => sq (bk 3 (mid4 co tok tmo 2 (T13_3 p0 v1 e2 v3) (lf1 [9, 10, 11, 16, 17, 18, 23, 24, 25]) nl hQ hm hL fun r g => fun e4 => fun _ hm hL => bk 4 (lo (lpL (K_13_L3 co p0 v1 e2 v3 e4) hQ hm hL (fun _ hm => end4 co tok tmo (T13_2 p0 v1 e2 v3) (lf1 [9, 10, 11, 16, 17, 18]) nl hQ hm hL fun r g => id))))), id⟩
set_option maxRecDepth 100000 in
theorem K_13_L1 : KL Try.prog (lkT tl) 42 C (pa [0, 0, 1, 0, 1] (bodyOf Try.f13)) [.tmp 2] 0 (S13_1 p0) (X13_1) E13 (fun _ => []) (B13_1 p0) := fun v1 _ hm Q Post hQ hL => mid4 co tok tmo 2 (T13_7 p0 v1) (lf1 [9, 10, 11]) nl hQ hm hL fun r g => ⟨fun _ hm hL => sq (bk 1 (mid4 co tok tmo 2 (T13_6 p0 v1) (lf1 [9, 10, 11, 16, 17, 18]) nl hQ hm hL fun r g => fun e2 => fun _ hm hL => bk 2 (lo (lpL (K_13_L2 co p0 v1 e2) hQ hm hL (fun _ hm => end4 co tok tmo (T13_5 p0 v1) (lf1 [9, 10, 11]) nl hQ hm hL fun r g => id))))), id⟩
end
end
set_option maxRecDepth 100000 in
theorem K_13 (p0 : List Fil) : KC Try.prog 13 [vL eFil p0] (M_wireschemalaw11_raw p0) E13 := kc1 Try.func13 Try.ntmps13 tok [.tmp 2] fun C co y hm Post hL => mid4 co tok tmo 1 (T13_10 p0) (lf1 [0]) nl (fun _ h => h) hm hL fun r g => fun _ hm hL => sq (mid4 co tok tmo 1 (T13_9 p0) (lf1 [9, 10, 11]) nl (fun _ h => h) hm hL fun r g => fun _ hm hL => bk 0 (lo (lpF (K_13_L1 co p0) (fun _ h => h) hm hL (fun _ hm => fin4 co tok tmo (T13_8) hm hL fun r g => id))))
abbrev E14 : Bool → AV := fun y => vB y
section
variable {C : Cx} (p0 : List ByteArray) (p1 : ByteArray)
def S14_1 : Nat → St := fun v1 => mkS [(0, vL eStr p0), (1, vS p1), (5, vN v1)] []
def X14_1 : Unit → Nat × St := fun _ => (0, mkS [] [])
def T14_1 (v1 : Nat) : PT 0 (Lv (Nat) (Unit) (Bool)) := vz (eqL p0) <| br (decide ((v1 : Int) < (p0.length : Int))) (ix p0 v1 fun e2 => br (decide (e2 = p1)) (lrt E14 (fun _ => []) true) (vs (wa v1 1) <| ln (S14_1 p0 p1) (v1 + 1))) (lxe (X14_1) ())
def B14_1 : Nat → Option (Lv (Nat) (Unit) (Bool)) := fun v1 => (T14_1 p0 p1 v1).m
def T14_2 : PT 0 (Bool) := lr E14 (fun _ => []) false
def T14_3 : PT 0 (Bool) := lc (mkS [(0, vL eStr p0), (1, vS p1), (5, vI 0)] []) ((loopM (B14_1 p0 p1) big 0).bind (Sum.elim (fun _ => (T14_2).m) some))
def T14_4 : PT 0 (Bool) := lc (mkS [(0, vL eStr p0), (1, vS p1)] []) ((T14_3 p0 p1).m)
def M_wireschemalaw11_has (p0 : List ByteArray) (p1 : ByteArray) : Option (Bool) := (T14_4 p0 p1).m
set_option maxRecDepth 100000 in
theorem K_14_L1 (co : CO C 0) : KL Try.prog (lkT tl) 18 C (pa [0, 0, 1, 0, 1] (bodyOf Try.f14)) [.tmp 4] 0 (S14_1 p0 p1) (X14_1) E14 (fun _ => []) (B14_1 p0 p1) := fun v1 _ hm Q Post hQ hL => end4 co tok tmo (T14_1 p0 p1 v1) (lf1 [0, 1, 5]) nl hQ hm hL fun r g => ⟨fun e2 => ⟨id, id⟩, id⟩
end
set_option maxRecDepth 100000 in
theorem K_14 (p0 : List ByteArray) (p1 : ByteArray) : KC Try.prog 14 [vL eStr p0, vS p1] (M_wireschemalaw11_has p0 p1) E14 := kc1 Try.func14 Try.ntmps14 tok [.tmp 4] fun C co y hm Post hL => mid4 co tok tmo 1 (T14_4 p0 p1) (lf1 [0, 1]) nl (fun _ h => h) hm hL fun r g => fun _ hm hL => sq (mid4 co tok tmo 1 (T14_3 p0 p1) (lf1 [0, 1, 5]) nl (fun _ h => h) hm hL fun r g => fun _ hm hL => bk 0 (lo (lpF (K_14_L1 p0 p1 co) (fun _ h => h) hm hL (fun _ hm => fin4 co tok tmo (T14_2) hm hL fun r g => id))))
abbrev E4 : Bool → AV := fun y => vB y
section
variable {C : Cx} (co : CO C 0) (y3 : Scm × ByteArray × Int) (r9 r14 : List ByteArray) (v15 : Nat) (e16 : Msg) (v21 : Nat) (e22 : Svc)
def S4_1 : List ByteArray × Nat → St := fun (r5, v6) => mkS [(3, .ptr (1, 3) 0 0), (6, .ref (1, 6) 0 0 r5.length), (7, .e0), (47, vL eMsg y3.1.messages), (48, vN y3.1.messages.length), (49, vN v6)] [((1, 3), ⟨0, true, 27, 3, [vL eMsg y3.1.messages, vL eEnm y3.1.enums, vL eSvc y3.1.services]⟩), ((1, 6), ⟨0, true, 9, 1, vecC eStr r5⟩)]
def X4_1 : List ByteArray → Nat × St := fun r9 => (0, mkS [(3, .ptr (1, 3) 0 0), (6, .ref (1, 6) 0 0 r9.length), (7, .e0)] [((1, 3), ⟨0, true, 27, 3, [vL eMsg y3.1.messages, vL eEnm y3.1.enums, vL eSvc y3.1.services]⟩), ((1, 6), ⟨0, true, 9, 1, vecC eStr r9⟩)])
def T4_1 (r5 : List ByteArray) (v6 : Nat) : PT 0 (Lv (List ByteArray × Nat) (List ByteArray) (Bool)) := br (decide ((v6 : Int) < (y3.1.messages.length : Int))) (ix y3.1.messages v6 fun e7 => vw .go <| vw .go <| vg (decide ((0 : Int) < (v6 : Int))) (wi ((v6 : Int) - 1)) <| ixg (decide ((0 : Int) < (v6 : Int))) y3.1.messages ((v6 : Int) - 1) fun e8 => vw .go <| br (decide ((0 : Int) < (v6 : Int)) && (!sLt e8.name e7.name)) (lrt E4 (fun _ => []) false) (vw .go <| vw .sep <| ap r5 (e7.name : ByteArray) <| vs (wa v6 1) <| vz (fl (r5 ++ [e7.name])) <| ln (S4_1 y3) (r5 ++ [e7.name], v6 + 1))) (vz (fl r5) <| lxe (X4_1 y3) r5)
def B4_1 : List ByteArray × Nat → Option (Lv (List ByteArray × Nat) (List ByteArray) (Bool)) := fun (r5, v6) => (T4_1 y3 r5 v6).m
def S4_2 : List ByteArray × Nat → St := fun (r10, v11) => mkS [(3, .ptr (1, 3) 0 0), (6, .ref (1, 6) 0 0 r9.length), (7, .ref (1, 7) 0 0 r10.length), (75, vL eEnm y3.1.enums), (76, vN y3.1.enums.length), (77, vN v11)] [((1, 3), ⟨0, true, 27, 3, [vL eMsg y3.1.messages, vL eEnm y3.1.enums, vL eSvc y3.1.services]⟩), ((1, 6), ⟨0, true, 9, 1, vecC eStr r9⟩), ((1, 7), ⟨0, true, 9, 1, vecC eStr r10⟩)]
def X4_2 : List ByteArray → Nat × St := fun r14 => (2, mkS [(3, .ptr (1, 3) 0 0), (6, .ref (1, 6) 0 0 r9.length), (7, .ref (1, 7) 0 0 r14.length)] [((1, 3), ⟨0, true, 27, 3, [vL eMsg y3.1.messages, vL eEnm y3.1.enums, vL eSvc y3.1.services]⟩), ((1, 6), ⟨0, true, 9, 1, vecC eStr r9⟩), ((1, 7), ⟨0, true, 9, 1, vecC eStr r14⟩)])
def T4_2 (r10 : List ByteArray) (v11 : Nat) : PT 0 (Lv (List ByteArray × Nat) (List ByteArray) (Bool)) := br (decide ((v11 : Int) < (y3.1.enums.length : Int))) (ix y3.1.enums v11 fun e12 => vw .go <| vw .go <| vg (decide ((0 : Int) < (v11 : Int))) (wi ((v11 : Int) - 1)) <| ixg (decide ((0 : Int) < (v11 : Int))) y3.1.enums ((v11 : Int) - 1) fun e13 => vw .go <| br (decide ((0 : Int) < (v11 : Int)) && (!sLt e13.name e12.name)) (lrt E4 (fun _ => []) false) (vw .go <| vw .sep <| ap r10 (e12.name : ByteArray) <| vs (wa v11 1) <| vz (fl r9) <| vz (fl (r10 ++ [e12.name])) <| ln (S4_2 y3 r9) (r10 ++ [e12.name], v11 + 1))) (vz (fl r9) <| vz (fl r10) <| lxe (X4_2 y3 r9) r10)
def B4_2 : List ByteArray × Nat → Option (Lv (List ByteArray × Nat) (List ByteArray) (Bool)) := fun (r10, v11) => (T4_2 y3 r9 r10 v11).m
def S4_3 : Nat → St := fun v15 => mkS [(3, .ptr (1, 3) 0 0), (6, vL eStr r9), (7, vL eStr r14), (103, vL eMsg y3.1.messages), (104, vN y3.1.messages.length), (105, vN v15)] [((1, 3), ⟨0, true, 27, 3, [vL eMsg y3.1.messages, vL eEnm y3.1.enums, vL eSvc y3.1.services]⟩)]
def X4_3 : Unit → Nat × St := fun _ => (4, mkS [(3, .ptr (1, 3) 0 0), (6, vL eStr r9)] [((1, 3), ⟨0, true, 27, 3, [vL eMsg y3.1.messages, vL eEnm y3.1.enums, vL eSvc y3.1.services]⟩)])
def S4_4 : Nat → St := fun v17 => mkS [(3, .ptr (1, 3) 0 0), (6, vL eStr r9), (7, vL eStr r14), (103, vL eMsg y3.1.messages), (104, vN y3.1.messages.length), (105, vN v15), (110, vL eFld e16.fields), (111, vN e16.fields.length), (112, vN v17)] [((1, 3), ⟨0, true, 27, 3, [vL eMsg y3.1.messages, vL eEnm y3.1.enums, vL eSvc y3.1.services]⟩)]
def X4_4 : Unit → Nat × St := fun _ => (6, mkS [(3, .ptr (1, 3) 0 0), (6, vL eStr r9), (7, vL eStr r14), (103, vL eMsg y3.1.messages), (104, vN y3.1.messages.length), (105, vN v15)] [((1, 3), ⟨0, true, 27, 3, [vL eMsg y3.1.messages, vL eEnm y3.1.enums, vL eSvc y3.1.services]⟩)])
def T4_3 (v17 : Nat) : PT 0 (Lv (Nat) (Unit) (Bool)) := br (decide ((v17 : Int) < (e16.fields.length : Int))) (ix e16.fields v17 fun e18 => vw .go <| vw .go <| vw .go <| vw .go <| clg ((!(decide (e18.type.kind = (0 : Int)))) && decide (e18.type.kind = (10 : Int))) (K_14 r9 e18.type.name) fun y19 => vw .go <| vw .go <| clg ((!(decide (e18.type.kind = (0 : Int)) || (decide (e18.type.kind = (10 : Int)) && (!y19)))) && decide (e18.type.kind = (9 : Int))) (K_14 r14 e18.type.name) fun y20 => br ((decide (e18.type.kind = (0 : Int)) || (decide (e18.type.kind = (10 : Int)) && (!y19))) || (decide (e18.type.kind = (9 : Int)) && (!y20))) (lrt E4 (fun _ => []) false) (vs (wa v17 1) <| ln (S4_4 y3 r9 r14 v15 e16) (v17 + 1))) (lxe (X4_4 y3 r9 r14 v15) ())
def B4_4 : Nat → Option (Lv (Nat) (Unit) (Bool)) := fun v17 => (T4_3 y3 r9 r14 v15 e16 v17).m
def T4_4 : PT 0 (Lv (Nat) (Unit) (Bool)) := vs (wa v15 1) <| ln (S4_3 y3 r9 r14) (v15 + 1)
def T4_5 : PT 0 (Lv (Nat) (Unit) (Bool)) := ix y3.1.messages v15 fun e16 => vw .go <| vw .go <| vz (eqL e16.fields) <| lc (mkS [(3, .ptr (1, 3) 0 0), (6, vL eStr r9), (7, vL eStr r14), (103, vL eMsg y3.1.messages), (104, vN y3.1.messages.length), (105, vN v15), (110, vL eFld e16.fields), (111, vN e16.fields.length), (112, vI 0)] [((1, 3), ⟨0, true, 27, 3, [vL eMsg y3.1.messages, vL eEnm y3.1.enums, vL eSvc y3.1.services]⟩)]) ((loopM (B4_4 y3 r9 r14 v15 e16) big 0).bind (Sum.elim (fun _ => (T4_4 y3 r9 r14 v15).m) (fun z => some (.rt z))))
def T4_6 : PT 0 (Lv (Nat) (Unit) (Bool)) := br (decide ((v15 : Int) < (y3.1.messages.length : Int))) (lc (mkS [(3, .ptr (1, 3) 0 0), (6, vL eStr r9), (7, vL eStr r14), (103, vL eMsg y3.1.messages), (104, vN y3.1.messages.length), (105, vN v15)] [((1, 3), ⟨0, true, 27, 3, [vL eMsg y3.1.messages, vL eEnm y3.1.enums, vL eSvc y3.1.services]⟩)]) ((T4_5 y3 r9 r14 v15).m)) (lxe (X4_3 y3 r9) ())
def B4_3 : Nat → Option (Lv (Nat) (Unit) (Bool)) := fun v15 => (T4_6 y3 r9 r14 v15).m
def S4_5 : Nat → St := fun v21 => mkS [(3, .ptr (1, 3) 0 0), (6, vL eStr r9), (151, vL eSvc y3.1.services), (152, vN y3.1.services.length), (153, vN v21)] [((1, 3), ⟨0, true, 27, 3, [vL eMsg y3.1.messages, vL eEnm y3.1.enums, vL eSvc y3.1.services]⟩)]
def X4_5 : Unit → Nat × St := fun _ => (8, mkS [] [])
def S4_6 : Nat → St := fun v24 => mkS [(3, .ptr (1, 3) 0 0), (6, vL eStr r9), (151, vL eSvc y3.1.services), (152, vN y3.1.services.length), (153, vN v21), (173, vL eMth e22.methods), (174, vN e22.methods.length), (175, vN v24)] [((1, 3), ⟨0, true, 27, 3, [vL eMsg y3.1.messages, vL eEnm y3.1.enums, vL eSvc y3.1.services]⟩)]
def X4_6 : Unit → Nat × St := fun _ => (10, mkS [(3, .ptr (1, 3) 0 0), (6, vL eStr r9), (151, vL eSvc y3.1.services), (152, vN y3.1.services.length), (153, vN v21)] [((1, 3), ⟨0, true, 27, 3, [vL eMsg y3.1.messages, vL eEnm y3.1.enums, vL eSvc y3.1.services]⟩)])
def T4_7 (v24 : Nat) : PT 0 (Lv (Nat) (Unit) (Bool)) := br (decide ((v24 : Int) < (e22.methods.length : Int))) (ix e22.methods v24 fun e25 => vw .go <| vw .go <| cl (K_14 r9 e25.inn) fun y26 => vw .go <| clg (!(!y26)) (K_14 r9 e25.out) fun y27 => br ((!y26) || (!y27)) (lrt E4 (fun _ => []) false) (vs (wa v24 1) <| ln (S4_6 y3 r9 v21 e22) (v24 + 1))) (lxe (X4_6 y3 r9 v21) ())
def B4_6 : Nat → Option (Lv (Nat) (Unit) (Bool)) := fun v24 => (T4_7 y3 r9 v21 e22 v24).m
def T4_8 : PT 0 (Lv (Nat) (Unit) (Bool)) := vs (wa v21 1) <| ln (S4_5 y3 r9) (v21 + 1)
def T4_9 : PT 0 (Lv (Nat) (Unit) (Bool)) := ix y3.1.services v21 fun e22 => vw .go <| vw .go <| vg (decide ((0 : Int) < (v21 : Int))) (wi ((v21 : Int) - 1)) <| ixg (decide ((0 : Int) < (v21 : Int))) y3.1.services ((v21 : Int) - 1) fun e23 => vw .go <| br (decide ((0 : Int) < (v21 : Int)) && (!sLt e23.name e22.name)) (lrt E4 (fun _ => []) false) (vw .go <| vz (eqL e22.methods) <| lc (mkS [(3, .ptr (1, 3) 0 0), (6, vL eStr r9), (151, vL eSvc y3.1.services), (152, vN y3.1.services.length), (153, vN v21), (173, vL eMth e22.methods), (174, vN e22.methods.length), (175, vI 0)] [((1, 3), ⟨0, true, 27, 3, [vL eMsg y3.1.messages, vL eEnm y3.1.enums, vL eSvc y3.1.services]⟩)]) ((loopM (B4_6 y3 r9 v21 e22) big 0).bind (Sum.elim (fun _ => (T4_8 y3 r9 v21).m) (fun z => some (.rt z)))))
def T4_10 : PT 0 (Lv (Nat) (Unit) (Bool)) := br (decide ((v21 : Int) < (y3.1.services.length : Int))) (lc (mkS [(3, .ptr (1, 3) 0 0), (6, vL eStr r9), (151, vL eSvc y3.1.services), (152, vN y3.1.services.length), (153, vN v21)] [((1, 3), ⟨0, true, 27, 3, [vL eMsg y3.1.messages, vL eEnm y3.1.enums, vL eSvc y3.1.services]⟩)]) ((T4_9 y3 r9 v21).m)) (lxe (X4_5) ())
def B4_5 : Nat → Option (Lv (Nat) (Unit) (Bool)) := fun v21 => (T4_10 y3 r9 v21).m
def T4_11 : PT 0 (Bool) := cl (K_12) fun y28 => lr E4 (fun _ => []) y28
def T4_12 : PT 0 (Bool) := vw .go <| vz (eqL y3.1.services) <| lc (mkS [(3, .ptr (1, 3) 0 0), (6, vL eStr r9), (151, vL eSvc y3.1.services), (152, vN y3.1.services.length), (153, vI 0)] [((1, 3), ⟨0, true, 27, 3, [vL eMsg y3.1.messages, vL eEnm y3.1.enums, vL eSvc y3.1.services]⟩)]) ((loopM (B4_5 y3 r9) big 0).bind (Sum.elim (fun _ => (T4_11).m) some))
def T4_13 : PT 0 (Bool) := vw (.frz 6 [(6, (r9.map eStr))] []) <| vz (fz r9) <| vw (.frz 7 [(7, (r14.map eStr))] []) <| vz (fz r14) <| lc (mkS [(3, .ptr (1, 3) 0 0), (6, vL eStr r9), (7, vL eStr r14), (103, vL eMsg y3.1.messages), (104, vN y3.1.messages.length), (105, vI 0)] [((1, 3), ⟨0, true, 27, 3, [vL eMsg y3.1.messages, vL eEnm y3.1.enums, vL eSvc y3.1.services]⟩)]) ((loopM (B4_3 y3 r9 r14) big 0).bind (Sum.elim (fun _ => (T4_12 y3 r9).m) some))
def T4_14 : PT 0 (Bool) := vw .go <| vz (eqL y3.1.messages) <| vz (fl r9) <| vz (fl r14) <| lc (mkS [(3, .ptr (1, 3) 0 0), (6, .ref (1, 6) 0 0 r9.length), (7, .ref (1, 7) 0 0 r14.length), (103, vL eMsg y3.1.messages), (104, vN y3.1.messages.length), (105, vI 0)] [((1, 3), ⟨0, true, 27, 3, [vL eMsg y3.1.messages, vL eEnm y3.1.enums, vL eSvc y3.1.services]⟩), ((1, 6), ⟨0, true, 9, 1, vecC eStr r9⟩), ((1, 7), ⟨0, true, 9, 1, vecC eStr r14⟩)]) ((T4_13 y3 r9 r14).m)
def T4_15 : PT 0 (Bool) := vw (.ads 7 7 9 1) <| vz (fl r9) <| vz (fl ([] : List ByteArray)) <| lc (mkS [(3, .ptr (1, 3) 0 0), (6, .ref (1, 6) 0 0 r9.length), (7, .ref (1, 7) 0 0 ([] : List ByteArray).length), (75, vL eEnm y3.1.enums), (76, vN y3.1.enums.length), (77, vI 0)] [((1, 3), ⟨0, true, 27, 3, [vL eMsg y3.1.messages, vL eEnm y3.1.enums, vL eSvc y3.1.services]⟩), ((1, 6), ⟨0, true, 9, 1, vecC eStr r9⟩), ((1, 7), ⟨0, true, 9, 1, vecC eStr ([] : List ByteArray)⟩)]) ((loopM (B4_2 y3 r9) big (([] : List ByteArray), 0)).bind (Sum.elim (fun r14 => (T4_14 y3 r9 r14).m) some))
def T4_16 : PT 0 (Bool) := vw .go <| vz (eqL y3.1.enums) <| vz (fl r9) <| lc (mkS [(3, .ptr (1, 3) 0 0), (6, .ref (1, 6) 0 0 r9.length), (7, .e0), (75, vL eEnm y3.1.enums), (76, vN y3.1.enums.length), (77, vI 0)] [((1, 3), ⟨0, true, 27, 3, [vL eMsg y3.1.messages, vL eEnm y3.1.enums, vL eSvc y3.1.services]⟩), ((1, 6), ⟨0, true, 9, 1, vecC eStr r9⟩)]) ((T4_15 y3 r9).m)
def T4_17 : PT 0 (Bool) := vw (.ads 6 6 9 1) <| vz (fl ([] : List ByteArray)) <| lc (mkS [(3, .ptr (1, 3) 0 0), (6, .ref (1, 6) 0 0 ([] : List ByteArray).length), (7, .e0), (47, vL eMsg y3.1.messages), (48, vN y3.1.messages.length), (49, vI 0)] [((1, 3), ⟨0, true, 27, 3, [vL eMsg y3.1.messages, vL eEnm y3.1.enums, vL eSvc y3.1.services]⟩), ((1, 6), ⟨0, true, 9, 1, vecC eStr ([] : List ByteArray)⟩)]) ((loopM (B4_1 y3) big (([] : List ByteArray), 0)).bind (Sum.elim (fun r9 => (T4_16 y3 r9).m) some))
def T4_18 : PT 0 (Bool) := vw .go <| vz (eqL y3.1.messages) <| lc (mkS [(3, .ptr (1, 3) 0 0), (6, .e0), (7, .e0), (47, vL eMsg y3.1.messages), (48, vN y3.1.messages.length), (49, vI 0)] [((1, 3), ⟨0, true, 27, 3, [vL eMsg y3.1.messages, vL eEnm y3.1.enums, vL eSvc y3.1.services]⟩)]) ((T4_17 y3).m)
def T4_19 (p0 : List Fil) : PT 0 (Bool) := cl (K_13 p0) fun y1 => br y1 (cl (K_12) fun y2 => lr E4 (fun _ => []) y2) (cl (K_9 p0) fun y3 => vw .go <| br (!decide (y3.2.2 = (0 : Int))) (vw .go <| vz (eqL y3.1.messages) <| vw .go <| vz (eqL y3.1.enums) <| vs (wa y3.1.messages.length y3.1.enums.length) <| vw .go <| vz (eqL y3.1.services) <| vs (wa (y3.1.messages.length + y3.1.enums.length) y3.1.services.length) <| clg (decide ((((y3.1.messages.length + y3.1.enums.length) + y3.1.services.length : Nat) : Int) = (0 : Int))) (K_12) fun y4 => lr E4 (fun _ => []) (decide ((((y3.1.messages.length + y3.1.enums.length) + y3.1.services.length : Nat) : Int) = (0 : Int)) && y4)) (lc (mkS [(3, .ptr (1, 3) 0 0), (6, .e0), (7, .e0)] [((1, 3), ⟨0, true, 27, 3, [vL eMsg y3.1.messages, vL eEnm y3.1.enums, vL eSvc y3.1.services]⟩)]) ((T4_18 y3).m)))
def M_wireschemalaw11_LinkResolves (p0 : List Fil) : Option (Bool) := (T4_19 p0).m
section
include co
set_option maxRecDepth 100000 in
theorem K_4_L1 : KL Try.prog (lkT tl) 194 C (pa [0, 0, 1, 0, 1, 1, 1, 1, 1] (bodyOf Try.f4)) [.tmp 2] 0 (S4_1 y3) (X4_1 y3) E4 (fun _ => []) (B4_1 y3) := fun (r5, v6) _ hm Q Post hQ hL => end4 co tok tmo (T4_1 y3 r5 v6) (lf2 [3, 6, 7, 47, 48, 49] [((1, 3), false), ((1, 6), true)]) (lf2 [3, 6, 7] [((1, 3), false), ((1, 6), true)]) hQ hm hL fun r g => ⟨fun e7 => fun e8 => ⟨id, id⟩, id⟩
set_option maxRecDepth 100000 in
theorem K_4_L2 : KL Try.prog (lkT tl) 194 C (pa [0, 0, 1, 0, 1, 1, 1, 1, 1, 1] (bodyOf Try.f4)) [.tmp 2] 0 (S4_2 y3 r9) (X4_2 y3 r9) E4 (fun _ => []) (B4_2 y3 r9) := fun (r10, v11) _ hm Q Post hQ hL => end4 co tok tmo (T4_2 y3 r9 r10 v11) (lf2 [3, 6, 7, 75, 76, 77] [((1, 3), false), ((1, 6), true), ((1, 7), true)]) (lf2 [3, 6, 7] [((1, 3), false), ((1, 6), true), ((1, 7), true)]) hQ hm hL fun r g => ⟨fun e12 => fun e13 => ⟨id, id⟩, id⟩
set_option maxRecDepth 100000 in
theorem K_4_L4 : KL Try.prog (lkT tl) 194 C (pa [0, 0, 1, 1, 0, 0, 1, 1, 0, 0, 1, 0, 1, 1, 1, 1, 1, 1, 1] (bodyOf Try.f4)) [.tmp 2] 0 (S4_4 y3 r9 r14 v15 e16) (X4_4 y3 r9 r14 v15) E4 (fun _ => []) (B4_4 y3 r9 r14 v15 e16) := fun v17 _ hm Q Post hQ hL => end4 co tok tmo (T4_3 y3 r9 r14 v15 e16 v17) (lf2 [3, 6, 7, 103, 104, 105, 110, 111, 112] [((1, 3), false)]) (lf2 [3, 6, 7, 103, 104, 105] [((1, 3), false)]) hQ hm hL fun r g => ⟨fun e18 => fun y19 => fun y20 => ⟨id, id⟩, id⟩
set_option maxRecDepth 100000 in
theorem K_4_L3 : KL Try.prog (lkT tl) 194 C (pa [0, 0, 1, 0, 1, 1, 1, 1, 1, 1, 1] (bodyOf Try.f4)) [.tmp 2] 0 (S4_3 y3 r9 r14) (X4_3 y3 r9) E4 (fun _ => []) (B4_3 y3 r9 r14) := fun v15 _ hm Q Post hQ hL => mid4 co tok tmo 2 (T4_6 y3 r9 r14 v15) (lf2 [3, 6, 7, 103, 104, 105] [((1, 3), false)]) (lf2 [3, 6] [((1, 3), false)]) hQ hm hL fun r g => ⟨fun _ hm hL => sq (bk 5 (mid4 co tok tmo 2 (T4_5 y3 r9 r14 v15) (lf2 [3, 6, 7, 103, 104, 105, 110, 111, 112] [((1, 3), false)]) nl hQ hm hL fun r g => fun e16 => fun _ hm hL => bk 6 (lo (lpL (K_4_L4 co y3 r9 r14 v15 e16) hQ hm hL (fun _ hm => end4 co tok tmo (T4_4 y3 r9 r14 v15) (lf2 [3, 6, 7, 103, 104, 105] [((1, 3), false)]) nl hQ hm hL fun r g => id))))), id⟩
set_option maxRecDepth 100000 in
theorem K_4_L6 : KL Try.prog (lkT tl) 194 C (pa [0, 0, 1, 1, 1, 0, 0, 1, 1, 0, 0, 1, 0, 1, 1, 1, 1, 1, 1, 1, 1] (bodyOf Try.f4)) [.tmp 2] 0 (S4_6 y3 r9 v21 e22) (X4_6 y3 r9 v21) E4 (fun _ => []) (B4_6 y3 r9 v21 e22) := fun v24 _ hm Q Post hQ hL => end4 co tok tmo (T4_7 y3 r9 v21 e22 v24) (lf2 [3, 6, 151, 152, 153, 173, 174, 175] [((1, 3), false)]) (lf2 [3, 6, 151, 152, 153] [((1, 3), false)]) hQ hm hL fun r g => ⟨fun e25 => fun y26 => fun y27 => ⟨id, id⟩, id⟩
set_option maxRecDepth 100000 in
theorem K_4_L5 : KL Try.prog (lkT tl) 194 C (pa [0, 0, 1, 0, 1, 1, 1, 1, 1, 1, 1, 1] (bodyOf Try.f4)) [.tmp 2] 0 (S4_5 y3 r9) (X4_5) E4 (fun _ => []) (B4_5 y3 r9) := fun v21 _ hm Q Post hQ hL => mid4 co tok tmo 2 (T4_10 y3 r9 v21) (lf2 [3, 6, 151, 152, 153] [((1, 3), false)]) nl hQ hm hL fun r g => ⟨fun _ hm hL => sq (bk 9 (mid4 co tok tmo 3 (T4_9 y3 r9 v21) (lf2 [3, 6, 151, 152, 153, 173, 174, 175] [((1, 3), false)]) nl hQ hm hL fun r g => fun e22 => fun e23 => ⟨id, fun _ hm hL => bk 10 (lo (lpL (K_4_L6 co y3 r9 v21 e22) hQ hm hL (fun _ hm => end4 co tok tmo (T4_8 y3 r9 v21) (lf2 [3, 6, 151, 152, 153] [((1, 3), false)]) nl hQ hm hL fun r g => id)))⟩)), id⟩
end
end
set_option maxRecDepth 100000 in
theorem K_4 (p0 : List Fil) : KC Try.prog 4 [vL eFil p0] (M_wireschemalaw11_LinkResolves p0) E4 := kc1 Try.func4 Try.ntmps4 tok [.tmp 2] fun C co y hm Post hL => mid4 co tok tmo 5 (T4_19 p0) (lf2 [3, 6, 7] [((1, 3), false)]) nl (fun _ h => h) hm hL fun r g => fun y1 => ⟨fun y2 => id, fun y3 => ⟨fun y4 => id, fun _ hm hL => sq (mid4 co tok tmo 1 (T4_18 y3) (lf2 [3, 6, 7, 47, 48, 49] [((1, 3), false)]) nl (fun _ h => h) hm hL fun r g => fun _ hm hL => bk 0 (cmd4 co (T4_17 y3) (lf2 [3, 6, 7, 47, 48, 49] [((1, 3), false), ((1, 6), true)]) hm hL fun r g => fun _ hm hL => lo (lpF (K_4_L1 co y3) (fun _ h => h) hm hL (fun r9 hm => sq (mid4 co tok tmo 1 (T4_16 y3 r9) (lf2 [3, 6, 7, 75, 76, 77] [((1, 3), false), ((1, 6), true)]) nl (fun _ h => h) hm hL fun r g => fun _ hm hL => bk 2 (cmd4 co (T4_15 y3 r9) (lf2 [3, 6, 7, 75, 76, 77] [((1, 3), false), ((1, 6), true), ((1, 7), true)]) hm hL fun r g => fun _ hm hL => lo (lpF (K_4_L2 co y3 r9) (fun _ h => h) hm hL (fun r14 hm => sq (mid4 co tok tmo 1 (T4_14 y3 r9 r14) (lf2 [3, 6, 7, 103, 104, 105] [((1, 3), false), ((1, 6), true), ((1, 7), true)]) nl (fun _ h => h) hm hL fun r g => fun _ hm hL => bk 4 (cmd4 co (T4_13 y3 r9 r14) (lf2 [3, 6, 7, 103, 104, 105] [((1, 3), false)]) hm hL fun r g => fun _ hm hL => lo (lpF (K_4_L3 co y3 r9 r14) (fun _ h => h) hm hL (fun _ hm => sq (mid4 co tok tmo 1 (T4_12 y3 r9) (lf2 [3, 6, 151, 152, 153] [((1, 3), false)]) nl (fun _ h => h) hm hL fun r g => fun _ hm hL => bk 8 (lo (lpF (K_4_L5 co y3 r9) (fun _ h => h) hm hL (fun _ hm => fin4 co tok tmo (T4_11) hm hL fun r g => fun y28 => id))))))))))))))))⟩⟩
end Go.Proofs.Ythagpbkmakocjaa
namespace Go.Eng
set_option linter.all false
open Go Go.RowKit
section
variable {σ ξ ρ α β γ : Type}
def foldE (g : β → α → β ⊕ ρ) : β → List α → β ⊕ ρ
 | b, [] => .inl b
 | b, x :: l => match g b x with
  | .inl b' => foldE g b' l
  | .inr r => .inr r
theorem loop_fold {B : σ → Option (Lv σ ξ ρ)} {N : Nat} (l : List α) (mk : Nat → β → σ) (I : Nat → β → Prop) (g : β → α → β ⊕ ρ) (e : β → ξ)
  (hs : ∀ i b x, l[i]? = some x → I i b → B (mk i b) = some (Sum.elim (fun b' => Lv.nx (mk (i + 1) b')) Lv.rt (g b x)) ∧ ∀ b', g b x = .inl b' → I (i + 1) b')
  (he : ∀ b, I l.length b → B (mk l.length b) = some (.ex (e b))) (b0 : β) (h0 : I 0 b0) (hN : l.length < N) : loopM B N (mk 0 b0) = some (Sum.map e id (foldE g b0 l)) := by
 suffices H : ∀ k i b N, i + k = l.length → I i b → k < N → loopM B N (mk i b) = some (Sum.map e id (foldE g b (l.drop i))) by
  have := H l.length 0 b0 N (by omega) h0 hN
  simpa using this
 intro k
 induction k with
 | zero =>
  intro i b N hi hI hN
  obtain ⟨N, rfl⟩ : ∃ m, N = m + 1 := ⟨N - 1, by omega⟩
  have : i = l.length := by omega
  subst this
  rw [loopM, he b hI, List.drop_length]
  rfl
 | succ k ih =>
  intro i b N hi hI hN
  obtain ⟨N, rfl⟩ : ∃ m, N = m + 1 := ⟨N - 1, by omega⟩
  have hlt : i < l.length := by omega
  obtain ⟨h1, h2⟩ := hs i b l[i] (List.getElem?_eq_getElem hlt) hI
  rw [loopM, h1, List.drop_eq_getElem_cons hlt, foldE]
  cases hg : g b l[i] with
  | inl b' => exact ih (i + 1) b' N (by omega) (h2 b' hg) (by omega)
  | inr r => rfl
theorem loop_find {B : Nat → Option (Lv Nat ξ ρ)} {N : Nat} (l : List α) (p : α → Bool) (f : Nat → ρ) (e : ξ)
  (hs : ∀ i x, l[i]? = some x → B i = some (if p x = true then .rt (f i) else .nx (i + 1))) (he : B l.length = some (.ex e)) (hN : l.length < N) :
  loopM B N 0 = some (match l.findIdx? p with | some i => .inr (f i) | none => .inl e) := by
 suffices H : ∀ k i N, i + k = l.length → k < N → loopM B N i = some (match (l.drop i).findIdx? p with | some j => .inr (f (i + j)) | none => .inl e) by
  have := H l.length 0 N (by omega) hN
  simpa using this
 intro k
 induction k with
 | zero =>
  intro i N hi hN
  obtain ⟨N, rfl⟩ : ∃ m, N = m + 1 := ⟨N - 1, by omega⟩
  have : i = l.length := by omega
  subst this
  rw [loopM, he, List.drop_length]
  rfl
 | succ k ih =>
  intro i N hi hN
  obtain ⟨N, rfl⟩ : ∃ m, N = m + 1 := ⟨N - 1, by omega⟩
  have hlt : i < l.length := by omega
  rw [loopM, hs i l[i] (List.getElem?_eq_getElem hlt), List.drop_eq_getElem_cons hlt, List.findIdx?_cons]
  cases hp : p l[i] with
  | true => simp
  | false =>
   simp only [Bool.false_eq_true, if_false]
   rw [ih (i + 1) N (by omega) (by omega)]
   cases (List.drop (i + 1) l).findIdx? p with
   | none => rfl
   | some j => simp [Nat.add_assoc, Nat.add_comm 1 j]
theorem foldE_inl {g : β → α → β ⊕ ρ} (h : β → α → β) (hg : ∀ b x, g b x = .inl (h b x)) : ∀ (l : List α) (b : β), foldE g b l = .inl (l.foldl h b)
 | [], b => rfl
 | x :: l, b => by rw [foldE, hg]; exact foldE_inl h hg l _
theorem foldl_snoc (f : α → γ) : ∀ (l : List α) (b : List γ), l.foldl (fun b x => b ++ [f x]) b = b ++ l.map f
 | [], b => by simp
 | x :: l, b => by rw [List.foldl_cons, foldl_snoc f l]; simp
theorem loop_map {B : List γ × Nat → Option (Lv (List γ × Nat) (List γ) ρ)} {N : Nat} (l : List α) (f : α → γ) (b0 : List γ)
  (hs : ∀ i b x, l[i]? = some x → b.length = b0.length + i → B (b, i) = some (.nx (b ++ [f x], i + 1))) (he : ∀ b, B (b, l.length) = some (.ex b)) (hN : l.length < N) :
  loopM B N (b0, 0) = some (.inl (b0 ++ l.map f)) := by
 have := loop_fold (B := B) (N := N) l (fun i b => (b, i)) (fun i b => b.length = b0.length + i) (fun b x => (.inl (b ++ [f x]) : List γ ⊕ ρ)) id (fun i b x hx hb => ⟨hs i b x hx hb, fun b' e => by cases e; rw [List.length_append, hb]; rfl⟩) (fun b _ => he b) b0 rfl hN
 rw [this, foldE_inl (fun b x => b ++ [f x]) (fun _ _ => rfl), foldl_snoc]
 rfl
def firstR (R : List α → α → Option ρ) : List α → List α → Option ρ
 | _, [] => none
 | p, x :: l => match R p x with
  | some r => some r
  | none => firstR R (p ++ [x]) l
theorem loop_pre {B : σ → Option (Lv σ ξ ρ)} {N : Nat} (l : List α) (S : List α → β) (R : List α → α → Option ρ) (mk : Nat → β → σ) (e : β → ξ)
  (hs : ∀ i x, l[i]? = some x → B (mk i (S (l.take i))) = some (match R (l.take i) x with | some r => .rt r | none => .nx (mk (i + 1) (S (l.take i ++ [x])))))
  (he : B (mk l.length (S l)) = some (.ex (e (S l)))) (hN : l.length < N) : loopM B N (mk 0 (S [])) = some ((firstR R [] l).elim (.inl (e (S l))) .inr) := by
 suffices H : ∀ k i N, i + k = l.length → k < N → loopM B N (mk i (S (l.take i))) = some ((firstR R (l.take i) (l.drop i)).elim (.inl (e (S l))) .inr) by
  have := H l.length 0 N (by omega) hN
  simpa using this
 intro k
 induction k with
 | zero =>
  intro i N hi hN
  obtain ⟨N, rfl⟩ : ∃ m, N = m + 1 := ⟨N - 1, by omega⟩
  have : i = l.length := by omega
  subst this
  rw [loopM, List.take_length, he, List.drop_length]
  rfl
 | succ k ih =>
  intro i N hi hN
  obtain ⟨N, rfl⟩ : ∃ m, N = m + 1 := ⟨N - 1, by omega⟩
  have hlt : i < l.length := by omega
  rw [loopM, hs i l[i] (List.getElem?_eq_getElem hlt), List.drop_eq_getElem_cons hlt, firstR]
  cases R (l.take i) l[i] with
  | some r => rfl
  | none =>
   have := ih (i + 1) N (by omega) (by omega)
   rw [List.take_succ_eq_append_getElem hlt] at this
   exact this
theorem firstR_none {R : List α → α → Option ρ} (h : ∀ p x, R p x = none) : ∀ (l p : List α), firstR R p l = none
 | [], p => rfl
 | x :: l, p => by rw [firstR, h]; exact firstR_none h l _
theorem loop_pre0 {B : σ → Option (Lv σ ξ ρ)} {N : Nat} (l : List α) (S : List α → β) (mk : Nat → β → σ) (e : β → ξ)
  (hs : ∀ i x, l[i]? = some x → B (mk i (S (l.take i))) = some (.nx (mk (i + 1) (S (l.take i ++ [x])))))
  (he : B (mk l.length (S l)) = some (.ex (e (S l)))) (hN : l.length < N) : loopM B N (mk 0 (S [])) = some (.inl (e (S l))) := by
 rw [loop_pre l S (fun _ _ => none) mk e hs he hN, firstR_none fun _ _ => rfl]
 rfl
theorem loop_inv {B : σ → Option (Lv σ ξ ρ)} (I : Nat → σ → Prop) (Q : ξ ⊕ ρ → Prop)
  (h : ∀ k v, I k v → ∃ o, B v = some o ∧ match o with | .nx v' => ∃ k', k' < k ∧ I k' v' | .ex b => Q (.inl b) | .rt y => Q (.inr y)) :
  ∀ N k v, k < N → I k v → ∃ o, loopM B N v = some o ∧ Q o
 | 0, k, v, hk, _ => absurd hk (Nat.not_lt_zero _)
 | N + 1, k, v, hk, hI => by
  obtain ⟨o, h1, h2⟩ := h k v hI
  rw [loopM, h1]
  cases o with
  | nx v' => obtain ⟨k', h3, h4⟩ := h2; exact loop_inv I Q h N k' v' (by omega) h4
  | ex b => exact ⟨_, rfl, h2⟩
  | rt y => exact ⟨_, rfl, h2⟩
theorem at_lt {l : List α} {i : Nat} {x : α} (h : l[i]? = some x) : (i : Int) < (l.length : Int) := by
 have := (List.getElem?_eq_some_iff.1 h).1
 omega
theorem big_gt {n : Nat} (h : n < 4611686018427387904) : n < big := h
end
end Go.Eng
namespace Go.Proofs.Ythagpbkmakocjaa
set_option linter.all false
open Go Go.Eng
def ixP {α : Type} (l : List α) (p : α → Bool) : Int := match l.findIdx? p with
 | some i => (i : Int)
 | none => -1
theorem ixP_ge {α : Type} {l : List α} {p : α → Bool} : decide (0 ≤ ixP l p) = l.any p := by
 unfold ixP
 rw [← List.findIdx?_isSome]
 cases l.findIdx? p <;> simp
theorem m116 (l : List Int) (x : Int) (h : l.length < 4611686018427387904) : M_Index_int l x = some (ixP l (fun y => decide (x = y))) := by
 unfold M_Index_int
 simp only [T116_1, T116_2, T116_3, T116_4, al, frt, stp, br, ix, ixi, vz, vy, vw, vs, vg, v2, lr, lrt, ln, lxe, lc, lf, lfe, ap, aq, a0, a1, ad, cl, cs, cf, wa, wi, ir, ca, cp, dd, mv, st, ss, sL, Bd.c, Bd.vl]
 rw [loop_find l (fun y => decide (x = y)) (fun i => (i : Int)) () (hN := big_gt h) (he := by simp [B116_1, T116_1, T116_2, T116_3, T116_4, al, frt, stp, br, ix, ixi, vz, vy, vw, vs, vg, v2, lr, lrt, ln, lxe, lc, lf, lfe, ap, aq, a0, a1, ad, cl, cs, cf, wa, wi, ir, ca, cp, dd, mv, st, ss, sL, Bd.c, Bd.vl]) (hs := by
  intro i y hy
  obtain ⟨h1, rfl⟩ := List.getElem?_eq_some_iff.1 hy
  have h2 : i + 1 < 9223372036854775808 := by omega
  simp [B116_1, T116_1, T116_2, T116_3, T116_4, al, frt, stp, br, ix, ixi, vz, vy, vw, vs, vg, v2, lr, lrt, ln, lxe, lc, lf, lfe, ap, aq, a0, a1, ad, cl, cs, cf, wa, wi, ir, ca, cp, dd, mv, st, ss, sL, Bd.c, Bd.vl, h1, h2]
  split <;> rfl)]
 unfold ixP
 cases l.findIdx? _ <;> rfl
theorem m116r0 (l : List Int) (x : Int) (h : l.length < 4611686018427387904) : M_Index_intr0 l x = some (ixP l (fun y => decide (x = y))) := by
 unfold M_Index_intr0
 simp only [T116r0_1, T116r0_2, T116r0_3, T116r0_4, al, frt, stp, br, ix, ixi, vz, vy, vw, vs, vg, v2, lr, lrt, ln, lxe, lc, lf, lfe, ap, aq, a0, a1, ad, cl, cs, cf, wa, wi, ir, ca, cp, dd, mv, st, ss, sL, Bd.c, Bd.vl]
 rw [loop_find l (fun y => decide (x = y)) (fun i => (i : Int)) () (hN := big_gt h) (he := by simp [B116r0_1, T116r0_1, T116r0_2, T116r0_3, T116r0_4, al, frt, stp, br, ix, ixi, vz, vy, vw, vs, vg, v2, lr, lrt, ln, lxe, lc, lf, lfe, ap, aq, a0, a1, ad, cl, cs, cf, wa, wi, ir, ca, cp, dd, mv, st, ss, sL, Bd.c, Bd.vl]) (hs := by
  intro i y hy
  obtain ⟨h1, rfl⟩ := List.getElem?_eq_some_iff.1 hy
  have h2 : i + 1 < 9223372036854775808 := by omega
  simp [B116r0_1, T116r0_1, T116r0_2, T116r0_3, T116r0_4, al, frt, stp, br, ix, ixi, vz, vy, vw, vs, vg, v2, lr, lrt, ln, lxe, lc, lf, lfe, ap, aq, a0, a1, ad, cl, cs, cf, wa, wi, ir, ca, cp, dd, mv, st, ss, sL, Bd.c, Bd.vl, h1, h2]
  split <;> rfl)]
 unfold ixP
 cases l.findIdx? _ <;> rfl
theorem m91 (l : List ByteArray) (x : ByteArray) (h : l.length < 4611686018427387904) : M_Index_string l x = some (ixP l (fun y => decide (x = y))) := by
 unfold M_Index_string
 simp only [T91_1, T91_2, T91_3, T91_4, al, frt, stp, br, ix, ixi, vz, vy, vw, vs, vg, v2, lr, lrt, ln, lxe, lc, lf, lfe, ap, aq, a0, a1, ad, cl, cs, cf, wa, wi, ir, ca, cp, dd, mv, st, ss, sL, Bd.c, Bd.vl]
 rw [loop_find l (fun y => decide (x = y)) (fun i => (i : Int)) () (hN := big_gt h) (he := by simp [B91_1, T91_1, T91_2, T91_3, T91_4, al, frt, stp, br, ix, ixi, vz, vy, vw, vs, vg, v2, lr, lrt, ln, lxe, lc, lf, lfe, ap, aq, a0, a1, ad, cl, cs, cf, wa, wi, ir, ca, cp, dd, mv, st, ss, sL, Bd.c, Bd.vl]) (hs := by
  intro i y hy
  obtain ⟨h1, rfl⟩ := List.getElem?_eq_some_iff.1 hy
  have h2 : i + 1 < 9223372036854775808 := by omega
  simp [B91_1, T91_1, T91_2, T91_3, T91_4, al, frt, stp, br, ix, ixi, vz, vy, vw, vs, vg, v2, lr, lrt, ln, lxe, lc, lf, lfe, ap, aq, a0, a1, ad, cl, cs, cf, wa, wi, ir, ca, cp, dd, mv, st, ss, sL, Bd.c, Bd.vl, h1, h2]
  split <;> rfl)]
 unfold ixP
 cases l.findIdx? _ <;> rfl
theorem m14 (l : List ByteArray) (x : ByteArray) (h : l.length < 4611686018427387904) : M_wireschemalaw11_has l x = some (l.any fun y => decide (y = x)) := by
 unfold M_wireschemalaw11_has
 simp only [T14_1, T14_2, T14_3, T14_4, al, frt, stp, br, ix, ixi, vz, vy, vw, vs, vg, v2, lr, lrt, ln, lxe, lc, lf, lfe, ap, aq, a0, a1, ad, cl, cs, cf, wa, wi, ir, ca, cp, dd, mv, st, ss, sL, Bd.c, Bd.vl]
 rw [loop_find l (fun y => decide (y = x)) (fun _ => true) () (hN := big_gt h) (he := by simp [B14_1, T14_1, T14_2, T14_3, T14_4, al, frt, stp, br, ix, ixi, vz, vy, vw, vs, vg, v2, lr, lrt, ln, lxe, lc, lf, lfe, ap, aq, a0, a1, ad, cl, cs, cf, wa, wi, ir, ca, cp, dd, mv, st, ss, sL, Bd.c, Bd.vl]) (hs := by
  intro i y hy
  obtain ⟨h1, rfl⟩ := List.getElem?_eq_some_iff.1 hy
  have h2 : i + 1 < 9223372036854775808 := by omega
  simp [B14_1, T14_1, T14_2, T14_3, T14_4, al, frt, stp, br, ix, ixi, vz, vy, vw, vs, vg, v2, lr, lrt, ln, lxe, lc, lf, lfe, ap, aq, a0, a1, ad, cl, cs, cf, wa, wi, ir, ca, cp, dd, mv, st, ss, sL, Bd.c, Bd.vl, h1, h2]
  split <;> rfl)]
 rw [← List.findIdx?_isSome]
 cases l.findIdx? _ <;> rfl
theorem m85 (l : List Fil) (f : Fil → Option Bool) (p : Fil → Bool) (hf : ∀ x ∈ l, f x = some (p x)) (h : l.length < 4611686018427387904) : M_IndexFunc_File l f = some (ixP l (p)) := by
 unfold M_IndexFunc_File
 simp only [T85_1, T85_2, T85_3, T85_4, al, frt, stp, br, ix, ixi, vz, vy, vw, vs, vg, v2, lr, lrt, ln, lxe, lc, lf, lfe, ap, aq, a0, a1, ad, cl, cs, cf, wa, wi, ir, ca, cp, dd, mv, st, ss, sL, Bd.c, Bd.vl]
 rw [loop_find l (p) (fun i => (i : Int)) () (hN := big_gt h) (he := by simp [B85_1, T85_1, T85_2, T85_3, T85_4, al, frt, stp, br, ix, ixi, vz, vy, vw, vs, vg, v2, lr, lrt, ln, lxe, lc, lf, lfe, ap, aq, a0, a1, ad, cl, cs, cf, wa, wi, ir, ca, cp, dd, mv, st, ss, sL, Bd.c, Bd.vl]) (hs := by
  intro i y hy
  obtain ⟨h1, rfl⟩ := List.getElem?_eq_some_iff.1 hy
  have h2 : i + 1 < 9223372036854775808 := by omega
  have h3 := hf l[i] (List.mem_of_getElem? hy)
  simp [B85_1, T85_1, T85_2, T85_3, T85_4, al, frt, stp, br, ix, ixi, vz, vy, vw, vs, vg, v2, lr, lrt, ln, lxe, lc, lf, lfe, ap, aq, a0, a1, ad, cl, cs, cf, wa, wi, ir, ca, cp, dd, mv, st, ss, sL, Bd.c, Bd.vl, h1, h2, h3]
  cases p l[i] <;> rfl)]
 unfold ixP
 cases l.findIdx? _ <;> rfl
theorem m117 (l : List ByteArray) (f : ByteArray → Option Bool) (p : ByteArray → Bool) (hf : ∀ x ∈ l, f x = some (p x)) (h : l.length < 4611686018427387904) : M_IndexFunc_string l f = some (ixP l (p)) := by
 unfold M_IndexFunc_string
 simp only [T117_1, T117_2, T117_3, T117_4, al, frt, stp, br, ix, ixi, vz, vy, vw, vs, vg, v2, lr, lrt, ln, lxe, lc, lf, lfe, ap, aq, a0, a1, ad, cl, cs, cf, wa, wi, ir, ca, cp, dd, mv, st, ss, sL, Bd.c, Bd.vl]
 rw [loop_find l (p) (fun i => (i : Int)) () (hN := big_gt h) (he := by simp [B117_1, T117_1, T117_2, T117_3, T117_4, al, frt, stp, br, ix, ixi, vz, vy, vw, vs, vg, v2, lr, lrt, ln, lxe, lc, lf, lfe, ap, aq, a0, a1, ad, cl, cs, cf, wa, wi, ir, ca, cp, dd, mv, st, ss, sL, Bd.c, Bd.vl]) (hs := by
  intro i y hy
  obtain ⟨h1, rfl⟩ := List.getElem?_eq_some_iff.1 hy
  have h2 : i + 1 < 9223372036854775808 := by omega
  have h3 := hf l[i] (List.mem_of_getElem? hy)
  simp [B117_1, T117_1, T117_2, T117_3, T117_4, al, frt, stp, br, ix, ixi, vz, vy, vw, vs, vg, v2, lr, lrt, ln, lxe, lc, lf, lfe, ap, aq, a0, a1, ad, cl, cs, cf, wa, wi, ir, ca, cp, dd, mv, st, ss, sL, Bd.c, Bd.vl, h1, h2, h3]
  cases p l[i] <;> rfl)]
 unfold ixP
 cases l.findIdx? _ <;> rfl
theorem m103 (l : List Enm) (f : Enm → Option Bool) (p : Enm → Bool) (hf : ∀ x ∈ l, f x = some (p x)) (h : l.length < 4611686018427387904) : M_IndexFunc_Enum l f = some (ixP l (p)) := by
 unfold M_IndexFunc_Enum
 simp only [T103_1, T103_2, T103_3, T103_4, al, frt, stp, br, ix, ixi, vz, vy, vw, vs, vg, v2, lr, lrt, ln, lxe, lc, lf, lfe, ap, aq, a0, a1, ad, cl, cs, cf, wa, wi, ir, ca, cp, dd, mv, st, ss, sL, Bd.c, Bd.vl]
 rw [loop_find l (p) (fun i => (i : Int)) () (hN := big_gt h) (he := by simp [B103_1, T103_1, T103_2, T103_3, T103_4, al, frt, stp, br, ix, ixi, vz, vy, vw, vs, vg, v2, lr, lrt, ln, lxe, lc, lf, lfe, ap, aq, a0, a1, ad, cl, cs, cf, wa, wi, ir, ca, cp, dd, mv, st, ss, sL, Bd.c, Bd.vl]) (hs := by
  intro i y hy
  obtain ⟨h1, rfl⟩ := List.getElem?_eq_some_iff.1 hy
  have h2 : i + 1 < 9223372036854775808 := by omega
  have h3 := hf l[i] (List.mem_of_getElem? hy)
  simp [B103_1, T103_1, T103_2, T103_3, T103_4, al, frt, stp, br, ix, ixi, vz, vy, vw, vs, vg, v2, lr, lrt, ln, lxe, lc, lf, lfe, ap, aq, a0, a1, ad, cl, cs, cf, wa, wi, ir, ca, cp, dd, mv, st, ss, sL, Bd.c, Bd.vl, h1, h2, h3]
  cases p l[i] <;> rfl)]
 unfold ixP
 cases l.findIdx? _ <;> rfl
theorem m88 (l : List Int) (x : Int) (h : l.length < 4611686018427387904) : M_Contains_int l x = some (l.any fun y => decide (x = y)) := by
 unfold M_Contains_int
 simp only [T88_1, al, frt, stp, br, ix, ixi, vz, vy, vw, vs, vg, v2, lr, lrt, ln, lxe, lc, lf, lfe, ap, aq, a0, a1, ad, cl, cs, cf, wa, wi, ir, ca, cp, dd, mv, st, ss, sL, Bd.c, Bd.vl, m116 l x h, Option.bind_some, ixP_ge]
theorem m88r0 (l : List Int) (x : Int) (h : l.length < 4611686018427387904) : M_Contains_intr0 l x = some (l.any fun y => decide (x = y)) := by
 unfold M_Contains_intr0
 simp only [T88r0_1, al, frt, stp, br, ix, ixi, vz, vy, vw, vs, vg, v2, lr, lrt, ln, lxe, lc, lf, lfe, ap, aq, a0, a1, ad, cl, cs, cf, wa, wi, ir, ca, cp, dd, mv, st, ss, sL, Bd.c, Bd.vl, m116r0 l x h, Option.bind_some, ixP_ge]
theorem m54 (l : List ByteArray) (x : ByteArray) (h : l.length < 4611686018427387904) : M_Contains_string l x = some (l.any fun y => decide (x = y)) := by
 unfold M_Contains_string
 simp only [T54_1, al, frt, stp, br, ix, ixi, vz, vy, vw, vs, vg, v2, lr, lrt, ln, lxe, lc, lf, lfe, ap, aq, a0, a1, ad, cl, cs, cf, wa, wi, ir, ca, cp, dd, mv, st, ss, sL, Bd.c, Bd.vl, m91 l x h, Option.bind_some, ixP_ge]
theorem m89 (l : List ByteArray) (f : ByteArray → Option Bool) (p : ByteArray → Bool) (hf : ∀ x ∈ l, f x = some (p x)) (h : l.length < 4611686018427387904) : M_ContainsFunc_string l f = some (l.any p) := by
 unfold M_ContainsFunc_string
 simp only [T89_1, al, frt, stp, br, ix, ixi, vz, vy, vw, vs, vg, v2, lr, lrt, ln, lxe, lc, lf, lfe, ap, aq, a0, a1, ad, cl, cs, cf, wa, wi, ir, ca, cp, dd, mv, st, ss, sL, Bd.c, Bd.vl, m117 l f p hf h, Option.bind_some, ixP_ge]
theorem m120 (l : List Enm) (f : Enm → Option Bool) (p : Enm → Bool) (hf : ∀ x ∈ l, f x = some (p x)) (h : l.length < 4611686018427387904) : M_ContainsFunc_Enum l f = some (l.any p) := by
 unfold M_ContainsFunc_Enum
 simp only [T120_1, al, frt, stp, br, ix, ixi, vz, vy, vw, vs, vg, v2, lr, lrt, ln, lxe, lc, lf, lfe, ap, aq, a0, a1, ad, cl, cs, cf, wa, wi, ir, ca, cp, dd, mv, st, ss, sL, Bd.c, Bd.vl, m103 l f p hf h, Option.bind_some, ixP_ge]
theorem m51 (l : List Fil) (x : ByteArray) (h : l.length < 4611686018427387904) : M_link_fileAt l x = some (ixP l fun y => decide (y.name = x)) := by
 unfold M_link_fileAt
 simp only [T51_1, al, frt, stp, br, ix, ixi, vz, vy, vw, vs, vg, v2, lr, lrt, ln, lxe, lc, lf, lfe, ap, aq, a0, a1, ad, cl, cs, cf, wa, wi, ir, ca, cp, dd, mv, st, ss, sL, Bd.c, Bd.vl]
 rw [m85 l _ (fun y => decide (y.name = x)) (fun y _ => (by simp only [M_link_fileAt_1, T86_1, al, frt, stp, br, ix, ixi, vz, vy, vw, vs, vg, v2, lr, lrt, ln, lxe, lc, lf, lfe, ap, aq, a0, a1, ad, cl, cs, cf, wa, wi, ir, ca, cp, dd, mv, st, ss, sL, Bd.c, Bd.vl] : M_link_fileAt_1 y x = _)) h]
 rfl
def joinB (a b : ByteArray) : ByteArray := if a = ⟨#[]⟩ then b else a ++ ⟨#[46]⟩ ++ b
theorem joinB_size (a b : ByteArray) : (joinB a b).size ≤ a.size + 1 + b.size := by
 unfold joinB
 split
 ·omega
 ·rw [ByteArray.size_append, ByteArray.size_append]; exact Nat.le_refl _
theorem m25 (a b : ByteArray) (ha : a.size < 4611686018427387904) (hb : b.size < 4611686018427387903) : M_ident_Join a b = some (joinB a b) := by
 unfold M_ident_Join joinB
 simp only [T25_1, al, frt, stp, br, ix, ixi, vz, vy, vw, vs, vg, v2, lr, lrt, ln, lxe, lc, lf, lfe, ap, aq, a0, a1, ad, cl, cs, cf, wa, wi, ir, ca, cp, dd, mv, st, ss, sL, Bd.c, Bd.vl]
 by_cases e : a = ⟨#[]⟩
 ·simp [e]
 ·have hd : (⟨#[46]⟩ : ByteArray).size = 1 := rfl
  have h1 : a.size + 1 ≤ 9223372036854775807 := by omega
  have h2 : a.size + 1 + b.size ≤ 9223372036854775807 := by omega
  simp [e, hd, h1, h2]
structure SzF (f : Fil) : Prop where
 sp : f.space.size < 2147483648
 nm : f.name.size < 2147483648
 ms : f.messages.length < 2147483648
 es : f.enums.length < 2147483648
 vs : f.services.length < 2147483648
 is : f.imports.length < 2147483648
 nm1 : ∀ x ∈ f.messages, x.name.size < 2147483648
 nm2 : ∀ x ∈ f.enums, x.name.size < 2147483648
 nm3 : ∀ x ∈ f.services, x.name.size < 2147483648
def own1 (f : Fil) : List ByteArray := f.messages.map fun x => joinB f.space x.name
def own2 (f : Fil) : List ByteArray := f.enums.map fun x => joinB f.space x.name
def own3 (f : Fil) : List ByteArray := f.services.map fun x => joinB f.space x.name
theorem m24 (f : Fil) (hf : SzF f) : M_link_own f = some (own1 f, own2 f, own3 f) := by
 have g1 := hf.sp
 have g2 := hf.ms
 have g3 := hf.es
 have g4 := hf.vs
 have q1 : loopM (B24_1 f) big ([], 0) = some (.inl ([] ++ f.messages.map fun x => joinB f.space x.name)) := loop_map f.messages (fun x => joinB f.space x.name) [] (hN := big_gt (by omega)) (he := by intro b; simp [B24_1, T24_1, T24_2, T24_3, T24_4, T24_5, T24_6, T24_7, T24_8, T24_9, T24_10, T24_11, al, frt, stp, br, ix, ixi, vz, vy, vw, vs, vg, v2, lr, lrt, ln, lxe, lc, lf, lfe, ap, aq, a0, a1, ad, cl, cs, cf, wa, wi, ir, ca, cp, dd, mv, st, ss, sL, Bd.c, Bd.vl]) (hs := by
  intro i b x hx hb
  obtain ⟨h1, rfl⟩ := List.getElem?_eq_some_iff.1 hx
  have h2 : i + 1 < 9223372036854775808 := by omega
  have h3 := m25 f.space (f.messages[i]).name (by omega) (by have := hf.nm1 _ (List.mem_of_getElem? hx); omega)
  have h4 : b.length < 549755813887 := by simp only [List.length_append, List.length_map, List.length_nil] at hb; omega
  simp [B24_1, T24_1, T24_2, T24_3, T24_4, T24_5, T24_6, T24_7, T24_8, T24_9, T24_10, T24_11, al, frt, stp, br, ix, ixi, vz, vy, vw, vs, vg, v2, lr, lrt, ln, lxe, lc, lf, lfe, ap, aq, a0, a1, ad, cl, cs, cf, wa, wi, ir, ca, cp, dd, mv, st, ss, sL, Bd.c, Bd.vl, h1, h2, h3, h4])
 have q2 : ∀ r5 : List ByteArray, loopM (B24_2 f r5) big ([], 0) = some (.inl ([] ++ f.enums.map fun x => joinB f.space x.name)) := fun r5 => loop_map f.enums (fun x => joinB f.space x.name) [] (hN := big_gt (by omega)) (he := by intro b; simp [B24_2, T24_1, T24_2, T24_3, T24_4, T24_5, T24_6, T24_7, T24_8, T24_9, T24_10, T24_11, al, frt, stp, br, ix, ixi, vz, vy, vw, vs, vg, v2, lr, lrt, ln, lxe, lc, lf, lfe, ap, aq, a0, a1, ad, cl, cs, cf, wa, wi, ir, ca, cp, dd, mv, st, ss, sL, Bd.c, Bd.vl]) (hs := by
  intro i b x hx hb
  obtain ⟨h1, rfl⟩ := List.getElem?_eq_some_iff.1 hx
  have h2 : i + 1 < 9223372036854775808 := by omega
  have h3 := m25 f.space (f.enums[i]).name (by omega) (by have := hf.nm2 _ (List.mem_of_getElem? hx); omega)
  have h4 : b.length < 549755813887 := by simp only [List.length_append, List.length_map, List.length_nil] at hb; omega
  simp [B24_2, T24_1, T24_2, T24_3, T24_4, T24_5, T24_6, T24_7, T24_8, T24_9, T24_10, T24_11, al, frt, stp, br, ix, ixi, vz, vy, vw, vs, vg, v2, lr, lrt, ln, lxe, lc, lf, lfe, ap, aq, a0, a1, ad, cl, cs, cf, wa, wi, ir, ca, cp, dd, mv, st, ss, sL, Bd.c, Bd.vl, h1, h2, h3, h4])
 have q3 : ∀ r5 r10 : List ByteArray, loopM (B24_3 f r5 r10) big ([], 0) = some (.inl ([] ++ f.services.map fun x => joinB f.space x.name)) := fun r5 r10 => loop_map f.services (fun x => joinB f.space x.name) [] (hN := big_gt (by omega)) (he := by intro b; simp [B24_3, T24_1, T24_2, T24_3, T24_4, T24_5, T24_6, T24_7, T24_8, T24_9, T24_10, T24_11, al, frt, stp, br, ix, ixi, vz, vy, vw, vs, vg, v2, lr, lrt, ln, lxe, lc, lf, lfe, ap, aq, a0, a1, ad, cl, cs, cf, wa, wi, ir, ca, cp, dd, mv, st, ss, sL, Bd.c, Bd.vl]) (hs := by
  intro i b x hx hb
  obtain ⟨h1, rfl⟩ := List.getElem?_eq_some_iff.1 hx
  have h2 : i + 1 < 9223372036854775808 := by omega
  have h3 := m25 f.space (f.services[i]).name (by omega) (by have := hf.nm3 _ (List.mem_of_getElem? hx); omega)
  have h4 : b.length < 549755813887 := by simp only [List.length_append, List.length_map, List.length_nil] at hb; omega
  simp [B24_3, T24_1, T24_2, T24_3, T24_4, T24_5, T24_6, T24_7, T24_8, T24_9, T24_10, T24_11, al, frt, stp, br, ix, ixi, vz, vy, vw, vs, vg, v2, lr, lrt, ln, lxe, lc, lf, lfe, ap, aq, a0, a1, ad, cl, cs, cf, wa, wi, ir, ca, cp, dd, mv, st, ss, sL, Bd.c, Bd.vl, h1, h2, h3, h4])
 unfold M_link_own own1 own2 own3
 simp only [T24_1, T24_2, T24_3, T24_4, T24_5, T24_6, T24_7, T24_8, T24_9, T24_10, T24_11, al, frt, stp, br, ix, ixi, vz, vy, vw, vs, vg, v2, lr, lrt, ln, lxe, lc, lf, lfe, ap, aq, a0, a1, ad, cl, cs, cf, wa, wi, ir, ca, cp, dd, mv, st, ss, sL, Bd.c, Bd.vl, q1, q2, q3, Option.bind_some, Sum.elim_inl, List.nil_append]
end Go.Proofs.Ythagpbkmakocjaa
