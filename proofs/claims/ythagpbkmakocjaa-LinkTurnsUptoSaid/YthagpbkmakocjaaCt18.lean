import Derived.Test.YthagpbkmakocjaaCt17
import Derived.Test.YthagpbkmakocjaaCt11
namespace Go.Proofs.Ythagpbkmakocjaa
set_option linter.all false
open Go Go.Eng
abbrev E71 : Bool → AV := fun y => vB y
section
variable {C : Cx} (p0 p1 : List Spn)
def S71_1 : Nat → St := fun v1 => mkS [(0, vL eSpn p0), (1, vL eSpn p1), (5, vN v1)] []
def X71_1 : Unit → Nat × St := fun _ => (0, mkS [] [])
def T71_1 (v1 : Nat) : PT 0 (Lv (Nat) (Unit) (Bool)) := vz (eqL p0) <| br (decide ((v1 : Int) < (p0.length : Int))) (ix p0 v1 fun e2 => ix p1 v1 fun e3 => br (!(decide (e2.lo = e3.lo) && (decide (e2.hi = e3.hi) && true))) (lrt E71 (fun _ => []) false) (vs (wa v1 1) <| ln (S71_1 p0 p1) (v1 + 1))) (lxe (X71_1) ())
def B71_1 : Nat → Option (Lv (Nat) (Unit) (Bool)) := fun v1 => (T71_1 p0 p1 v1).m
def T71_2 : PT 0 (Bool) := lr E71 (fun _ => []) true
def T71_3 : PT 0 (Bool) := lc (mkS [(0, vL eSpn p0), (1, vL eSpn p1), (5, vI 0)] []) ((loopM (B71_1 p0 p1) big 0).bind (Sum.elim (fun _ => (T71_2).m) some))
def T71_4 : PT 0 (Bool) := vz (eqL p0) <| vz (eqL p1) <| br (!decide ((p0.length : Int) = (p1.length : Int))) (lr E71 (fun _ => []) false) (lc (mkS [(0, vL eSpn p0), (1, vL eSpn p1)] []) ((T71_3 p0 p1).m))
def M_wireschemaref11_sameSpans (p0 : List Spn) (p1 : List Spn) : Option (Bool) := (T71_4 p0 p1).m
set_option maxRecDepth 100000 in
theorem K_71_L1 (co : CO C 0) : KL Try.prog (lkT tl) 26 C (pa [0, 0, 1, 0, 1, 1] (bodyOf Try.f71)) [.tmp 4] 0 (S71_1 p0 p1) (X71_1) E71 (fun _ => []) (B71_1 p0 p1) := fun v1 _ hm Q Post hQ hL => end4 co tok tmo (T71_1 p0 p1 v1) (lf1 [0, 1, 5]) nl hQ hm hL fun r g => ⟨fun e2 => fun e3 => ⟨id, id⟩, id⟩
end
set_option maxRecDepth 100000 in
theorem K_71 (p0 : List Spn) (p1 : List Spn) : KC Try.prog 71 [vL eSpn p0, vL eSpn p1] (M_wireschemaref11_sameSpans p0 p1) E71 := kc1 Try.func71 Try.ntmps71 tok [.tmp 4] fun C co y hm Post hL => mid4 co tok tmo 2 (T71_4 p0 p1) (lf1 [0, 1]) nl (fun _ h => h) hm hL fun r g => ⟨id, fun _ hm hL => sq (mid4 co tok tmo 1 (T71_3 p0 p1) (lf1 [0, 1, 5]) nl (fun _ h => h) hm hL fun r g => fun _ hm hL => bk 0 (lo (lpF (K_71_L1 p0 p1 co) (fun _ h => h) hm hL (fun _ hm => fin4 co tok tmo (T71_2) hm hL fun r g => id))))⟩
abbrev E72 : Bool → AV := fun y => vB y
section
variable {C : Cx} (p0 p1 : List Nt)
def S72_1 : Nat → St := fun v1 => mkS [(0, vL eNt p0), (1, vL eNt p1), (5, vN v1)] []
def X72_1 : Unit → Nat × St := fun _ => (0, mkS [] [])
def T72_1 (v1 : Nat) : PT 0 (Lv (Nat) (Unit) (Bool)) := vz (eqL p0) <| br (decide ((v1 : Int) < (p0.length : Int))) (ix p0 v1 fun e2 => ix p1 v1 fun e3 => ixg (!(!decide (e2.name = e3.name))) p0 (v1 : Int) fun e4 => ixg (!(!decide (e2.name = e3.name))) p1 (v1 : Int) fun e5 => ixg (!((!decide (e2.name = e3.name)) || (!decide (e4.val.kind = e5.val.kind)))) p0 (v1 : Int) fun e6 => ixg (!((!decide (e2.name = e3.name)) || (!decide (e4.val.kind = e5.val.kind)))) p1 (v1 : Int) fun e7 => ixg (!(((!decide (e2.name = e3.name)) || (!decide (e4.val.kind = e5.val.kind))) || (!decide (e6.val.bits = e7.val.bits)))) p0 (v1 : Int) fun e8 => ixg (!(((!decide (e2.name = e3.name)) || (!decide (e4.val.kind = e5.val.kind))) || (!decide (e6.val.bits = e7.val.bits)))) p1 (v1 : Int) fun e9 => br ((((!decide (e2.name = e3.name)) || (!decide (e4.val.kind = e5.val.kind))) || (!decide (e6.val.bits = e7.val.bits))) || (!decide (e8.val.text = e9.val.text))) (lrt E72 (fun _ => []) false) (vs (wa v1 1) <| ln (S72_1 p0 p1) (v1 + 1))) (lxe (X72_1) ())
def B72_1 : Nat → Option (Lv (Nat) (Unit) (Bool)) := fun v1 => (T72_1 p0 p1 v1).m
def T72_2 : PT 0 (Bool) := lr E72 (fun _ => []) true
def T72_3 : PT 0 (Bool) := lc (mkS [(0, vL eNt p0), (1, vL eNt p1), (5, vI 0)] []) ((loopM (B72_1 p0 p1) big 0).bind (Sum.elim (fun _ => (T72_2).m) some))
def T72_4 : PT 0 (Bool) := vz (eqL p0) <| vz (eqL p1) <| br (!decide ((p0.length : Int) = (p1.length : Int))) (lr E72 (fun _ => []) false) (lc (mkS [(0, vL eNt p0), (1, vL eNt p1)] []) ((T72_3 p0 p1).m))
def M_wireschemaref08_Same (p0 : List Nt) (p1 : List Nt) : Option (Bool) := (T72_4 p0 p1).m
set_option maxRecDepth 100000 in
theorem K_72_L1 (co : CO C 0) : KL Try.prog (lkT tl) 73 C (pa [0, 0, 1, 0, 1, 1] (bodyOf Try.f72)) [.tmp 4] 0 (S72_1 p0 p1) (X72_1) E72 (fun _ => []) (B72_1 p0 p1) := fun v1 _ hm Q Post hQ hL => end4 co tok tmo (T72_1 p0 p1 v1) (lf1 [0, 1, 5]) nl hQ hm hL fun r g => ⟨fun e2 => fun e3 => fun e4 => fun e5 => fun e6 => fun e7 => fun e8 => fun e9 => ⟨id, id⟩, id⟩
end
set_option maxRecDepth 100000 in
theorem K_72 (p0 : List Nt) (p1 : List Nt) : KC Try.prog 72 [vL eNt p0, vL eNt p1] (M_wireschemaref08_Same p0 p1) E72 := kc1 Try.func72 Try.ntmps72 tok [.tmp 4] fun C co y hm Post hL => mid4 co tok tmo 2 (T72_4 p0 p1) (lf1 [0, 1]) nl (fun _ h => h) hm hL fun r g => ⟨id, fun _ hm hL => sq (mid4 co tok tmo 1 (T72_3 p0 p1) (lf1 [0, 1, 5]) nl (fun _ h => h) hm hL fun r g => fun _ hm hL => bk 0 (lo (lpF (K_72_L1 p0 p1 co) (fun _ h => h) hm hL (fun _ hm => fin4 co tok tmo (T72_2) hm hL fun r g => id))))⟩
abbrev E73 : Bool → AV := fun y => vB y
def T73_1 (p0 : Fld) (p1 : Fld) : PT 0 (Bool) := vw .go <| vw .go <| vw .go <| vw .go <| vw .go <| vw .go <| vw .go <| vw .go <| vw .go <| vw .go <| vw .go <| vw .go <| vw .go <| vw .go <| br (((((((!decide (p0.num = p1.num)) || (!decide (p0.name = p1.name))) || (!decide (p0.card = p1.card))) || (!decide (p0.key = p1.key))) || (!(decide (p0.type.kind = p1.type.kind) && (decide (p0.type.name = p1.type.name) && true)))) || (!decide (p0.union = p1.union))) || (!(p0.hasDefault == p1.hasDefault))) (lr E73 (fun _ => []) false) (vw .go <| vw .go <| vw .go <| vw .go <| vw .go <| vw .go <| vw .go <| vw .go <| clg ((decide (p0.dflt.kind = p1.dflt.kind) && decide (p0.dflt.bits = p1.dflt.bits)) && decide (p0.dflt.text = p1.dflt.text)) (K_72 p0.notes p1.notes) fun y1 => lr E73 (fun _ => []) (((decide (p0.dflt.kind = p1.dflt.kind) && decide (p0.dflt.bits = p1.dflt.bits)) && decide (p0.dflt.text = p1.dflt.text)) && y1))
def M_wireschemaref11_SameField (p0 : Fld) (p1 : Fld) : Option (Bool) := (T73_1 p0 p1).m
set_option maxRecDepth 100000 in
theorem K_73 (p0 : Fld) (p1 : Fld) : KC Try.prog 73 [.agg ((eFld p0).map .d), .agg ((eFld p1).map .d)] (M_wireschemaref11_SameField p0 p1) E73 := kc1 Try.func73 Try.ntmps73 tok [.tmp 4] fun C co y hm Post hL => fin4 co tok tmo (T73_1 p0 p1) hm hL fun r g => ⟨id, fun y1 => id⟩
abbrev E37 : Bool → AV := fun y => vB y
section
variable {C : Cx} (co : CO C 0) (p0 p1 : List Msg) (v1 : Nat) (e2 e3 : Msg)
def S37_1 : Nat → St := fun v1 => mkS [(0, vL eMsg p0), (1, vL eMsg p1), (5, vN v1)] []
def X37_1 : Unit → Nat × St := fun _ => (0, mkS [] [])
def S37_2 : Nat → St := fun v6 => mkS [(0, vL eMsg p0), (1, vL eMsg p1), (5, vN v1), (6, .ptr (1, 6) 0 0), (7, .ptr (1, 7) 0 0), (8, vN v6)] [((1, 6), ⟨0, true, 39, 5, [vS e2.name, vL eFld e2.fields, vL eSpn e2.reserved, vL eStr e2.gone, vL eNt e2.notes]⟩), ((1, 7), ⟨0, true, 39, 5, [vS e3.name, vL eFld e3.fields, vL eSpn e3.reserved, vL eStr e3.gone, vL eNt e3.notes]⟩)]
def X37_2 : Unit → Nat × St := fun _ => (2, mkS [(0, vL eMsg p0), (1, vL eMsg p1), (5, vN v1), (6, .ptr (1, 6) 0 0), (7, .ptr (1, 7) 0 0)] [((1, 6), ⟨0, true, 39, 5, [vS e2.name, vL eFld e2.fields, vL eSpn e2.reserved, vL eStr e2.gone, vL eNt e2.notes]⟩), ((1, 7), ⟨0, true, 39, 5, [vS e3.name, vL eFld e3.fields, vL eSpn e3.reserved, vL eStr e3.gone, vL eNt e3.notes]⟩)])
def T37_1 (v6 : Nat) : PT 0 (Lv (Nat) (Unit) (Bool)) := vw .go <| vz (eqL e2.fields) <| br (decide ((v6 : Int) < (e2.fields.length : Int))) (vw .go <| ix e2.fields v6 fun e7 => vw .go <| ix e3.fields v6 fun e8 => cl (K_73 e7 e8) fun y9 => br (!y9) (lrt E37 (fun _ => []) false) (vs (wa v6 1) <| ln (S37_2 p0 p1 v1 e2 e3) (v6 + 1))) (lxe (X37_2 p0 p1 v1 e2 e3) ())
def B37_2 : Nat → Option (Lv (Nat) (Unit) (Bool)) := fun v6 => (T37_1 p0 p1 v1 e2 e3 v6).m
def S37_3 : Nat → St := fun v10 => mkS [(0, vL eMsg p0), (1, vL eMsg p1), (5, vN v1), (6, .ptr (1, 6) 0 0), (7, .ptr (1, 7) 0 0), (9, vN v10)] [((1, 6), ⟨0, true, 39, 5, [vS e2.name, vL eFld e2.fields, vL eSpn e2.reserved, vL eStr e2.gone, vL eNt e2.notes]⟩), ((1, 7), ⟨0, true, 39, 5, [vS e3.name, vL eFld e3.fields, vL eSpn e3.reserved, vL eStr e3.gone, vL eNt e3.notes]⟩)]
def X37_3 : Unit → Nat × St := fun _ => (4, mkS [(0, vL eMsg p0), (1, vL eMsg p1), (5, vN v1)] [])
def T37_2 (v10 : Nat) : PT 0 (Lv (Nat) (Unit) (Bool)) := vw .go <| vz (eqL e2.gone) <| br (decide ((v10 : Int) < (e2.gone.length : Int))) (vw .go <| ix e2.gone v10 fun e11 => vw .go <| ix e3.gone v10 fun e12 => br (!decide (e11 = e12)) (lrt E37 (fun _ => []) false) (vs (wa v10 1) <| ln (S37_3 p0 p1 v1 e2 e3) (v10 + 1))) (lxe (X37_3 p0 p1 v1) ())
def B37_3 : Nat → Option (Lv (Nat) (Unit) (Bool)) := fun v10 => (T37_2 p0 p1 v1 e2 e3 v10).m
def T37_3 : PT 0 (Lv (Nat) (Unit) (Bool)) := vs (wa v1 1) <| ln (S37_1 p0 p1) (v1 + 1)
def T37_4 : PT 0 (Lv (Nat) (Unit) (Bool)) := lc (mkS [(0, vL eMsg p0), (1, vL eMsg p1), (5, vN v1), (6, .ptr (1, 6) 0 0), (7, .ptr (1, 7) 0 0), (9, vI 0)] [((1, 6), ⟨0, true, 39, 5, [vS e2.name, vL eFld e2.fields, vL eSpn e2.reserved, vL eStr e2.gone, vL eNt e2.notes]⟩), ((1, 7), ⟨0, true, 39, 5, [vS e3.name, vL eFld e3.fields, vL eSpn e3.reserved, vL eStr e3.gone, vL eNt e3.notes]⟩)]) ((loopM (B37_3 p0 p1 v1 e2 e3) big 0).bind (Sum.elim (fun _ => (T37_3 p0 p1 v1).m) (fun z => some (.rt z))))
def T37_5 : PT 0 (Lv (Nat) (Unit) (Bool)) := lc (mkS [(0, vL eMsg p0), (1, vL eMsg p1), (5, vN v1), (6, .ptr (1, 6) 0 0), (7, .ptr (1, 7) 0 0), (8, vI 0)] [((1, 6), ⟨0, true, 39, 5, [vS e2.name, vL eFld e2.fields, vL eSpn e2.reserved, vL eStr e2.gone, vL eNt e2.notes]⟩), ((1, 7), ⟨0, true, 39, 5, [vS e3.name, vL eFld e3.fields, vL eSpn e3.reserved, vL eStr e3.gone, vL eNt e3.notes]⟩)]) ((loopM (B37_2 p0 p1 v1 e2 e3) big 0).bind (Sum.elim (fun _ => (T37_4 p0 p1 v1 e2 e3).m) (fun z => some (.rt z))))
def T37_6 : PT 0 (Lv (Nat) (Unit) (Bool)) := ix p0 v1 fun e2 => vw .go <| ix p1 v1 fun e3 => vw .go <| vw .go <| vw .go <| vw .go <| vy (!(!decide (e2.name = e3.name))) (eqL e2.fields) <| vw .go <| vy (!(!decide (e2.name = e3.name))) (eqL e3.fields) <| vw .go <| vw .go <| clg (!((!decide (e2.name = e3.name)) || (!decide ((e2.fields.length : Int) = (e3.fields.length : Int))))) (K_71 e2.reserved e3.reserved) fun y4 => vw .go <| vy (!(((!decide (e2.name = e3.name)) || (!decide ((e2.fields.length : Int) = (e3.fields.length : Int)))) || (!y4))) (eqL e2.gone) <| vw .go <| vy (!(((!decide (e2.name = e3.name)) || (!decide ((e2.fields.length : Int) = (e3.fields.length : Int)))) || (!y4))) (eqL e3.gone) <| vw .go <| vw .go <| clg (!((((!decide (e2.name = e3.name)) || (!decide ((e2.fields.length : Int) = (e3.fields.length : Int)))) || (!y4)) || (!decide ((e2.gone.length : Int) = (e3.gone.length : Int))))) (K_72 e2.notes e3.notes) fun y5 => br (((((!decide (e2.name = e3.name)) || (!decide ((e2.fields.length : Int) = (e3.fields.length : Int)))) || (!y4)) || (!decide ((e2.gone.length : Int) = (e3.gone.length : Int)))) || (!y5)) (lrt E37 (fun _ => []) false) (lc (mkS [(0, vL eMsg p0), (1, vL eMsg p1), (5, vN v1), (6, .ptr (1, 6) 0 0), (7, .ptr (1, 7) 0 0)] [((1, 6), ⟨0, true, 39, 5, [vS e2.name, vL eFld e2.fields, vL eSpn e2.reserved, vL eStr e2.gone, vL eNt e2.notes]⟩), ((1, 7), ⟨0, true, 39, 5, [vS e3.name, vL eFld e3.fields, vL eSpn e3.reserved, vL eStr e3.gone, vL eNt e3.notes]⟩)]) ((T37_5 p0 p1 v1 e2 e3).m))
def T37_7 : PT 0 (Lv (Nat) (Unit) (Bool)) := vz (eqL p0) <| br (decide ((v1 : Int) < (p0.length : Int))) (lc (mkS [(0, vL eMsg p0), (1, vL eMsg p1), (5, vN v1)] []) ((T37_6 p0 p1 v1).m)) (lxe (X37_1) ())
def B37_1 : Nat → Option (Lv (Nat) (Unit) (Bool)) := fun v1 => (T37_7 p0 p1 v1).m
def T37_8 : PT 0 (Bool) := lr E37 (fun _ => []) true
def T37_9 : PT 0 (Bool) := lc (mkS [(0, vL eMsg p0), (1, vL eMsg p1), (5, vI 0)] []) ((loopM (B37_1 p0 p1) big 0).bind (Sum.elim (fun _ => (T37_8).m) some))
def T37_10 : PT 0 (Bool) := vz (eqL p0) <| vz (eqL p1) <| br (!decide ((p0.length : Int) = (p1.length : Int))) (lr E37 (fun _ => []) false) (lc (mkS [(0, vL eMsg p0), (1, vL eMsg p1)] []) ((T37_9 p0 p1).m))
def M_wireschemaref11_SameMessages (p0 : List Msg) (p1 : List Msg) : Option (Bool) := (T37_10 p0 p1).m
section
include co
set_option maxRecDepth 100000 in
theorem K_37_L2 : KL Try.prog (lkT tl) 105 C (pa [0, 0, 1, 0, 1, 1, 1, 0, 0, 1, 0, 0, 1, 0, 1, 1] (bodyOf Try.f37)) [.tmp 4] 0 (S37_2 p0 p1 v1 e2 e3) (X37_2 p0 p1 v1 e2 e3) E37 (fun _ => []) (B37_2 p0 p1 v1 e2 e3) := fun v6 _ hm Q Post hQ hL => end4 co tok tmo (T37_1 p0 p1 v1 e2 e3 v6) (lf2 [0, 1, 5, 6, 7, 8] [((1, 6), false), ((1, 7), false)]) (lf2 [0, 1, 5, 6, 7] [((1, 6), false), ((1, 7), false)]) hQ hm hL fun r g => ⟨fun e7 => fun e8 => fun y9 => ⟨id, id⟩, id⟩
set_option maxRecDepth 100000 in
theorem K_37_L3 : KL Try.prog (lkT tl) 105 C (pa [0, 0, 1, 1, 1, 1, 1, 0, 0, 1, 0, 0, 1, 0, 1, 1] (bodyOf Try.f37)) [.tmp 4] 0 (S37_3 p0 p1 v1 e2 e3) (X37_3 p0 p1 v1) E37 (fun _ => []) (B37_3 p0 p1 v1 e2 e3) := fun v10 _ hm Q Post hQ hL => end4 co tok tmo (T37_2 p0 p1 v1 e2 e3 v10) (lf2 [0, 1, 5, 6, 7, 9] [((1, 6), false), ((1, 7), false)]) (lf1 [0, 1, 5]) hQ hm hL fun r g => ⟨fun e11 => fun e12 => ⟨id, id⟩, id⟩
set_option maxRecDepth 100000 in
theorem K_37_L1 : KL Try.prog (lkT tl) 105 C (pa [0, 0, 1, 0, 1, 1] (bodyOf Try.f37)) [.tmp 4] 0 (S37_1 p0 p1) (X37_1) E37 (fun _ => []) (B37_1 p0 p1) := fun v1 _ hm Q Post hQ hL => mid4 co tok tmo 1 (T37_7 p0 p1 v1) (lf1 [0, 1, 5]) nl hQ hm hL fun r g => ⟨fun _ hm hL => sq (bk 1 (mid4 co tok tmo 3 (T37_6 p0 p1 v1) (lf2 [0, 1, 5, 6, 7] [((1, 6), false), ((1, 7), false)]) nl hQ hm hL fun r g => fun e2 => fun e3 => fun y4 => fun y5 => ⟨id, fun _ hm hL => sq (mid4 co tok tmo 1 (T37_5 p0 p1 v1 e2 e3) (lf2 [0, 1, 5, 6, 7, 8] [((1, 6), false), ((1, 7), false)]) nl hQ hm hL fun r g => fun _ hm hL => bk 2 (lo (lpL (K_37_L2 co p0 p1 v1 e2 e3) hQ hm hL (fun _ hm => mid4 co tok tmo 1 (T37_4 p0 p1 v1 e2 e3) (lf2 [0, 1, 5, 6, 7, 9] [((1, 6), false), ((1, 7), false)]) nl hQ hm hL fun r g => fun _ hm hL => bk 4 (lo (lpL (K_37_L3 co p0 p1 v1 e2 e3) hQ hm hL (fun _ hm => end4 co tok tmo (T37_3 p0 p1 v1) (lf1 [0, 1, 5]) nl hQ hm hL fun r g => id)))))))⟩)), id⟩
end
end
set_option maxRecDepth 100000 in
theorem K_37 (p0 : List Msg) (p1 : List Msg) : KC Try.prog 37 [vL eMsg p0, vL eMsg p1] (M_wireschemaref11_SameMessages p0 p1) E37 := kc1 Try.func37 Try.ntmps37 tok [.tmp 4] fun C co y hm Post hL => mid4 co tok tmo 2 (T37_10 p0 p1) (lf1 [0, 1]) nl (fun _ h => h) hm hL fun r g => ⟨id, fun _ hm hL => sq (mid4 co tok tmo 1 (T37_9 p0 p1) (lf1 [0, 1, 5]) nl (fun _ h => h) hm hL fun r g => fun _ hm hL => bk 0 (lo (lpF (K_37_L1 co p0 p1) (fun _ h => h) hm hL (fun _ hm => fin4 co tok tmo (T37_8) hm hL fun r g => id))))⟩
abbrev E38 : Bool → AV := fun y => vB y
section
variable {C : Cx} (co : CO C 0) (p0 p1 : List Enm) (v1 : Nat) (e2 e3 : Enm)
def S38_1 : Nat → St := fun v1 => mkS [(0, vL eEnm p0), (1, vL eEnm p1), (5, vN v1)] []
def X38_1 : Unit → Nat × St := fun _ => (0, mkS [] [])
def S38_2 : Nat → St := fun v6 => mkS [(0, vL eEnm p0), (1, vL eEnm p1), (5, vN v1), (6, .ptr (1, 6) 0 0), (7, .ptr (1, 7) 0 0), (8, vN v6)] [((1, 6), ⟨0, true, 42, 5, [vS e2.name, vB e2.opn, vL eItm e2.items, vL eSpn e2.reserved, vL eNt e2.notes]⟩), ((1, 7), ⟨0, true, 42, 5, [vS e3.name, vB e3.opn, vL eItm e3.items, vL eSpn e3.reserved, vL eNt e3.notes]⟩)]
def X38_2 : Unit → Nat × St := fun _ => (2, mkS [(0, vL eEnm p0), (1, vL eEnm p1), (5, vN v1)] [])
def T38_1 (v6 : Nat) : PT 0 (Lv (Nat) (Unit) (Bool)) := vw .go <| vz (eqL e2.items) <| br (decide ((v6 : Int) < (e2.items.length : Int))) (vw .go <| ix e2.items v6 fun e7 => vw .go <| ix e3.items v6 fun e8 => vw .go <| ixg (!(!decide (e7.name = e8.name))) e2.items (v6 : Int) fun e9 => vw .go <| ixg (!(!decide (e7.name = e8.name))) e3.items (v6 : Int) fun e10 => vw .go <| ixg (!((!decide (e7.name = e8.name)) || (!decide (e9.num = e10.num)))) e2.items (v6 : Int) fun e11 => vw .go <| ixg (!((!decide (e7.name = e8.name)) || (!decide (e9.num = e10.num)))) e3.items (v6 : Int) fun e12 => clg (!((!decide (e7.name = e8.name)) || (!decide (e9.num = e10.num)))) (K_72 e11.notes e12.notes) fun y13 => br (((!decide (e7.name = e8.name)) || (!decide (e9.num = e10.num))) || (!y13)) (lrt E38 (fun _ => []) false) (vs (wa v6 1) <| ln (S38_2 p0 p1 v1 e2 e3) (v6 + 1))) (lxe (X38_2 p0 p1 v1) ())
def B38_2 : Nat → Option (Lv (Nat) (Unit) (Bool)) := fun v6 => (T38_1 p0 p1 v1 e2 e3 v6).m
def T38_2 : PT 0 (Lv (Nat) (Unit) (Bool)) := vs (wa v1 1) <| ln (S38_1 p0 p1) (v1 + 1)
def T38_3 : PT 0 (Lv (Nat) (Unit) (Bool)) := ix p0 v1 fun e2 => vw .go <| ix p1 v1 fun e3 => vw .go <| vw .go <| vw .go <| vw .go <| vw .go <| vw .go <| vy (!((!decide (e2.name = e3.name)) || (!(e2.opn == e3.opn)))) (eqL e2.items) <| vw .go <| vy (!((!decide (e2.name = e3.name)) || (!(e2.opn == e3.opn)))) (eqL e3.items) <| vw .go <| vw .go <| clg (!(((!decide (e2.name = e3.name)) || (!(e2.opn == e3.opn))) || (!decide ((e2.items.length : Int) = (e3.items.length : Int))))) (K_71 e2.reserved e3.reserved) fun y4 => vw .go <| vw .go <| clg (!((((!decide (e2.name = e3.name)) || (!(e2.opn == e3.opn))) || (!decide ((e2.items.length : Int) = (e3.items.length : Int)))) || (!y4))) (K_72 e2.notes e3.notes) fun y5 => br (((((!decide (e2.name = e3.name)) || (!(e2.opn == e3.opn))) || (!decide ((e2.items.length : Int) = (e3.items.length : Int)))) || (!y4)) || (!y5)) (lrt E38 (fun _ => []) false) (lc (mkS [(0, vL eEnm p0), (1, vL eEnm p1), (5, vN v1), (6, .ptr (1, 6) 0 0), (7, .ptr (1, 7) 0 0), (8, vI 0)] [((1, 6), ⟨0, true, 42, 5, [vS e2.name, vB e2.opn, vL eItm e2.items, vL eSpn e2.reserved, vL eNt e2.notes]⟩), ((1, 7), ⟨0, true, 42, 5, [vS e3.name, vB e3.opn, vL eItm e3.items, vL eSpn e3.reserved, vL eNt e3.notes]⟩)]) ((loopM (B38_2 p0 p1 v1 e2 e3) big 0).bind (Sum.elim (fun _ => (T38_2 p0 p1 v1).m) (fun z => some (.rt z)))))
def T38_4 : PT 0 (Lv (Nat) (Unit) (Bool)) := vz (eqL p0) <| br (decide ((v1 : Int) < (p0.length : Int))) (lc (mkS [(0, vL eEnm p0), (1, vL eEnm p1), (5, vN v1)] []) ((T38_3 p0 p1 v1).m)) (lxe (X38_1) ())
def B38_1 : Nat → Option (Lv (Nat) (Unit) (Bool)) := fun v1 => (T38_4 p0 p1 v1).m
def T38_5 : PT 0 (Bool) := lr E38 (fun _ => []) true
def T38_6 : PT 0 (Bool) := lc (mkS [(0, vL eEnm p0), (1, vL eEnm p1), (5, vI 0)] []) ((loopM (B38_1 p0 p1) big 0).bind (Sum.elim (fun _ => (T38_5).m) some))
def T38_7 : PT 0 (Bool) := vz (eqL p0) <| vz (eqL p1) <| br (!decide ((p0.length : Int) = (p1.length : Int))) (lr E38 (fun _ => []) false) (lc (mkS [(0, vL eEnm p0), (1, vL eEnm p1)] []) ((T38_6 p0 p1).m))
def M_wireschemaref11_SameEnums (p0 : List Enm) (p1 : List Enm) : Option (Bool) := (T38_7 p0 p1).m
section
include co
set_option maxRecDepth 100000 in
theorem K_38_L2 : KL Try.prog (lkT tl) 116 C (pa [0, 0, 1, 1, 1, 1, 0, 0, 1, 0, 0, 1, 0, 1, 1] (bodyOf Try.f38)) [.tmp 4] 0 (S38_2 p0 p1 v1 e2 e3) (X38_2 p0 p1 v1) E38 (fun _ => []) (B38_2 p0 p1 v1 e2 e3) := fun v6 _ hm Q Post hQ hL => end4 co tok tmo (T38_1 p0 p1 v1 e2 e3 v6) (lf2 [0, 1, 5, 6, 7, 8] [((1, 6), false), ((1, 7), false)]) (lf1 [0, 1, 5]) hQ hm hL fun r g => ⟨fun e7 => fun e8 => fun e9 => fun e10 => fun e11 => fun e12 => fun y13 => ⟨id, id⟩, id⟩
set_option maxRecDepth 100000 in
theorem K_38_L1 : KL Try.prog (lkT tl) 116 C (pa [0, 0, 1, 0, 1, 1] (bodyOf Try.f38)) [.tmp 4] 0 (S38_1 p0 p1) (X38_1) E38 (fun _ => []) (B38_1 p0 p1) := fun v1 _ hm Q Post hQ hL => mid4 co tok tmo 1 (T38_4 p0 p1 v1) (lf1 [0, 1, 5]) nl hQ hm hL fun r g => ⟨fun _ hm hL => sq (bk 1 (mid4 co tok tmo 4 (T38_3 p0 p1 v1) (lf2 [0, 1, 5, 6, 7, 8] [((1, 6), false), ((1, 7), false)]) nl hQ hm hL fun r g => fun e2 => fun e3 => fun y4 => fun y5 => ⟨id, fun _ hm hL => bk 2 (lo (lpL (K_38_L2 co p0 p1 v1 e2 e3) hQ hm hL (fun _ hm => end4 co tok tmo (T38_2 p0 p1 v1) (lf1 [0, 1, 5]) nl hQ hm hL fun r g => id)))⟩)), id⟩
end
end
set_option maxRecDepth 100000 in
theorem K_38 (p0 : List Enm) (p1 : List Enm) : KC Try.prog 38 [vL eEnm p0, vL eEnm p1] (M_wireschemaref11_SameEnums p0 p1) E38 := kc1 Try.func38 Try.ntmps38 tok [.tmp 4] fun C co y hm Post hL => mid4 co tok tmo 2 (T38_7 p0 p1) (lf1 [0, 1]) nl (fun _ h => h) hm hL fun r g => ⟨id, fun _ hm hL => sq (mid4 co tok tmo 1 (T38_6 p0 p1) (lf1 [0, 1, 5]) nl (fun _ h => h) hm hL fun r g => fun _ hm hL => bk 0 (lo (lpF (K_38_L1 co p0 p1) (fun _ h => h) hm hL (fun _ hm => fin4 co tok tmo (T38_5) hm hL fun r g => id))))⟩
abbrev E39 : Bool → AV := fun y => vB y
section
variable {C : Cx} (co : CO C 0) (p0 p1 : List Svc) (v1 : Nat) (e2 e3 : Svc)
def S39_1 : Nat → St := fun v1 => mkS [(0, vL eSvc p0), (1, vL eSvc p1), (5, vN v1)] []
def X39_1 : Unit → Nat × St := fun _ => (0, mkS [] [])
def S39_2 : Nat → St := fun v5 => mkS [(0, vL eSvc p0), (1, vL eSvc p1), (5, vN v1), (6, .ptr (1, 6) 0 0), (7, .ptr (1, 7) 0 0), (8, vN v5)] [((1, 6), ⟨0, true, 57, 3, [vS e2.name, vL eMth e2.methods, vL eNt e2.notes]⟩), ((1, 7), ⟨0, true, 57, 3, [vS e3.name, vL eMth e3.methods, vL eNt e3.notes]⟩)]
def X39_2 : Unit → Nat × St := fun _ => (2, mkS [(0, vL eSvc p0), (1, vL eSvc p1), (5, vN v1)] [])
def T39_1 (v5 : Nat) : PT 0 (Lv (Nat) (Unit) (Bool)) := vw .go <| vz (eqL e2.methods) <| br (decide ((v5 : Int) < (e2.methods.length : Int))) (vw .go <| ix e2.methods v5 fun e6 => vw .go <| vw .go <| ix e3.methods v5 fun e7 => vw .go <| vw .go <| vw .go <| vw .go <| vw .go <| vw .go <| vw .go <| vw .go <| vw .go <| vw .go <| vw .go <| clg (!((((!decide (e6.name = e7.name)) || (!decide (e6.inn = e7.inn))) || (!decide (e6.out = e7.out))) || (!decide (e6.shape = e7.shape)))) (K_72 e6.notes e7.notes) fun y8 => br (((((!decide (e6.name = e7.name)) || (!decide (e6.inn = e7.inn))) || (!decide (e6.out = e7.out))) || (!decide (e6.shape = e7.shape))) || (!y8)) (lrt E39 (fun _ => []) false) (vs (wa v5 1) <| ln (S39_2 p0 p1 v1 e2 e3) (v5 + 1))) (lxe (X39_2 p0 p1 v1) ())
def B39_2 : Nat → Option (Lv (Nat) (Unit) (Bool)) := fun v5 => (T39_1 p0 p1 v1 e2 e3 v5).m
def T39_2 : PT 0 (Lv (Nat) (Unit) (Bool)) := vs (wa v1 1) <| ln (S39_1 p0 p1) (v1 + 1)
def T39_3 : PT 0 (Lv (Nat) (Unit) (Bool)) := ix p0 v1 fun e2 => vw .go <| ix p1 v1 fun e3 => vw .go <| vw .go <| vw .go <| vw .go <| vy (!(!decide (e2.name = e3.name))) (eqL e2.methods) <| vw .go <| vy (!(!decide (e2.name = e3.name))) (eqL e3.methods) <| vw .go <| vw .go <| clg (!((!decide (e2.name = e3.name)) || (!decide ((e2.methods.length : Int) = (e3.methods.length : Int))))) (K_72 e2.notes e3.notes) fun y4 => br (((!decide (e2.name = e3.name)) || (!decide ((e2.methods.length : Int) = (e3.methods.length : Int)))) || (!y4)) (lrt E39 (fun _ => []) false) (lc (mkS [(0, vL eSvc p0), (1, vL eSvc p1), (5, vN v1), (6, .ptr (1, 6) 0 0), (7, .ptr (1, 7) 0 0), (8, vI 0)] [((1, 6), ⟨0, true, 57, 3, [vS e2.name, vL eMth e2.methods, vL eNt e2.notes]⟩), ((1, 7), ⟨0, true, 57, 3, [vS e3.name, vL eMth e3.methods, vL eNt e3.notes]⟩)]) ((loopM (B39_2 p0 p1 v1 e2 e3) big 0).bind (Sum.elim (fun _ => (T39_2 p0 p1 v1).m) (fun z => some (.rt z)))))
def T39_4 : PT 0 (Lv (Nat) (Unit) (Bool)) := vz (eqL p0) <| br (decide ((v1 : Int) < (p0.length : Int))) (lc (mkS [(0, vL eSvc p0), (1, vL eSvc p1), (5, vN v1)] []) ((T39_3 p0 p1 v1).m)) (lxe (X39_1) ())
def B39_1 : Nat → Option (Lv (Nat) (Unit) (Bool)) := fun v1 => (T39_4 p0 p1 v1).m
def T39_5 : PT 0 (Bool) := lr E39 (fun _ => []) true
def T39_6 : PT 0 (Bool) := lc (mkS [(0, vL eSvc p0), (1, vL eSvc p1), (5, vI 0)] []) ((loopM (B39_1 p0 p1) big 0).bind (Sum.elim (fun _ => (T39_5).m) some))
def T39_7 : PT 0 (Bool) := vz (eqL p0) <| vz (eqL p1) <| br (!decide ((p0.length : Int) = (p1.length : Int))) (lr E39 (fun _ => []) false) (lc (mkS [(0, vL eSvc p0), (1, vL eSvc p1)] []) ((T39_6 p0 p1).m))
def M_wireschemaref11_SameServices (p0 : List Svc) (p1 : List Svc) : Option (Bool) := (T39_7 p0 p1).m
section
include co
set_option maxRecDepth 100000 in
theorem K_39_L2 : KL Try.prog (lkT tl) 103 C (pa [0, 0, 1, 1, 1, 1, 0, 0, 1, 0, 0, 1, 0, 1, 1] (bodyOf Try.f39)) [.tmp 4] 0 (S39_2 p0 p1 v1 e2 e3) (X39_2 p0 p1 v1) E39 (fun _ => []) (B39_2 p0 p1 v1 e2 e3) := fun v5 _ hm Q Post hQ hL => end4 co tok tmo (T39_1 p0 p1 v1 e2 e3 v5) (lf2 [0, 1, 5, 6, 7, 8] [((1, 6), false), ((1, 7), false)]) (lf1 [0, 1, 5]) hQ hm hL fun r g => ⟨fun e6 => fun e7 => fun y8 => ⟨id, id⟩, id⟩
set_option maxRecDepth 100000 in
theorem K_39_L1 : KL Try.prog (lkT tl) 103 C (pa [0, 0, 1, 0, 1, 1] (bodyOf Try.f39)) [.tmp 4] 0 (S39_1 p0 p1) (X39_1) E39 (fun _ => []) (B39_1 p0 p1) := fun v1 _ hm Q Post hQ hL => mid4 co tok tmo 1 (T39_4 p0 p1 v1) (lf1 [0, 1, 5]) nl hQ hm hL fun r g => ⟨fun _ hm hL => sq (bk 1 (mid4 co tok tmo 4 (T39_3 p0 p1 v1) (lf2 [0, 1, 5, 6, 7, 8] [((1, 6), false), ((1, 7), false)]) nl hQ hm hL fun r g => fun e2 => fun e3 => fun y4 => ⟨id, fun _ hm hL => bk 2 (lo (lpL (K_39_L2 co p0 p1 v1 e2 e3) hQ hm hL (fun _ hm => end4 co tok tmo (T39_2 p0 p1 v1) (lf1 [0, 1, 5]) nl hQ hm hL fun r g => id)))⟩)), id⟩
end
end
set_option maxRecDepth 100000 in
theorem K_39 (p0 : List Svc) (p1 : List Svc) : KC Try.prog 39 [vL eSvc p0, vL eSvc p1] (M_wireschemaref11_SameServices p0 p1) E39 := kc1 Try.func39 Try.ntmps39 tok [.tmp 4] fun C co y hm Post hL => mid4 co tok tmo 2 (T39_7 p0 p1) (lf1 [0, 1]) nl (fun _ h => h) hm hL fun r g => ⟨id, fun _ hm hL => sq (mid4 co tok tmo 1 (T39_6 p0 p1) (lf1 [0, 1, 5]) nl (fun _ h => h) hm hL fun r g => fun _ hm hL => bk 0 (lo (lpF (K_39_L1 co p0 p1) (fun _ h => h) hm hL (fun _ hm => fin4 co tok tmo (T39_5) hm hL fun r g => id))))⟩
abbrev E11 : Bool → AV := fun y => vB y
def T11_1 (p0 : Scm) (p1 : Scm) : PT 0 (Bool) := vw .go <| vw .go <| cl (K_37 p0.messages p1.messages) fun y1 => vw .go <| vw .go <| clg y1 (K_38 p0.enums p1.enums) fun y2 => vw .go <| vw .go <| clg (y1 && y2) (K_39 p0.services p1.services) fun y3 => lr E11 (fun _ => []) ((y1 && y2) && y3)
def M_wireschemaref11_Same (p0 : Scm) (p1 : Scm) : Option (Bool) := (T11_1 p0 p1).m
set_option maxRecDepth 100000 in
theorem K_11 (p0 : Scm) (p1 : Scm) : KC Try.prog 11 [.agg ((eScm p0).map .d), .agg ((eScm p1).map .d)] (M_wireschemaref11_Same p0 p1) E11 := kc1 Try.func11 Try.ntmps11 tok [.tmp 4] fun C co y hm Post hL => fin4 co tok tmo (T11_1 p0 p1) hm hL fun r g => fun y1 => fun y2 => fun y3 => id
abbrev E12 : Bool → AV := fun y => vB y
def T12_1 : PT 0 (Bool) := vw .sep <| vw .sep <| vw .sep <| vw .sep <| vw .go <| vw .go <| vw .sep <| cl (K_9 ([(.mk ⟨#[120]⟩ ⟨#[97]⟩ ([] : List ByteArray) ([(.mk ⟨#[77]⟩ ([(.mk 1 ⟨#[102]⟩ 2 0 (.mk 0 ⟨#[78]⟩ : Typ) ⟨#[]⟩ false (.mk 0 0 ⟨#[]⟩ ([] : List Val) ([] : List Pr) ([] : List Slt) ([] : List Raw) : Val) ([] : List Nt) : Fld)] : List Fld) ([] : List Spn) ([] : List ByteArray) ([] : List Nt) : Msg), (.mk (⟨#[77, 46, 78]⟩) ([] : List Fld) ([] : List Spn) ([] : List ByteArray) ([] : List Nt) : Msg)] : List Msg) ([] : List Enm) ([] : List Svc) : Fil)] : List Fil)) fun y1 => vw .go <| vw .go <| vy (decide (y1.2.2 = (0 : Int)) && decide (y1.2.1 = (⟨#[]⟩ : ByteArray))) (eqL y1.1.messages) <| vw .go <| ixg ((decide (y1.2.2 = (0 : Int)) && decide (y1.2.1 = (⟨#[]⟩ : ByteArray))) && decide ((y1.1.messages.length : Int) = (2 : Int))) y1.1.messages 0 fun e2 => vw .go <| ixg (((decide (y1.2.2 = (0 : Int)) && decide (y1.2.1 = (⟨#[]⟩ : ByteArray))) && decide ((y1.1.messages.length : Int) = (2 : Int))) && decide (e2.name = (⟨#[97, 46, 77]⟩ : ByteArray))) y1.1.messages 1 fun e3 => vw .go <| ixg ((((decide (y1.2.2 = (0 : Int)) && decide (y1.2.1 = (⟨#[]⟩ : ByteArray))) && decide ((y1.1.messages.length : Int) = (2 : Int))) && decide (e2.name = (⟨#[97, 46, 77]⟩ : ByteArray))) && decide (e3.name = (⟨#[97, 46, 77, 46, 78]⟩ : ByteArray))) y1.1.messages 0 fun e4 => vy ((((decide (y1.2.2 = (0 : Int)) && decide (y1.2.1 = (⟨#[]⟩ : ByteArray))) && decide ((y1.1.messages.length : Int) = (2 : Int))) && decide (e2.name = (⟨#[97, 46, 77]⟩ : ByteArray))) && decide (e3.name = (⟨#[97, 46, 77, 46, 78]⟩ : ByteArray))) (eqL e4.fields) <| vw .go <| ixg (((((decide (y1.2.2 = (0 : Int)) && decide (y1.2.1 = (⟨#[]⟩ : ByteArray))) && decide ((y1.1.messages.length : Int) = (2 : Int))) && decide (e2.name = (⟨#[97, 46, 77]⟩ : ByteArray))) && decide (e3.name = (⟨#[97, 46, 77, 46, 78]⟩ : ByteArray))) && decide ((e4.fields.length : Int) = (1 : Int))) y1.1.messages 0 fun e5 => ixg (((((decide (y1.2.2 = (0 : Int)) && decide (y1.2.1 = (⟨#[]⟩ : ByteArray))) && decide ((y1.1.messages.length : Int) = (2 : Int))) && decide (e2.name = (⟨#[97, 46, 77]⟩ : ByteArray))) && decide (e3.name = (⟨#[97, 46, 77, 46, 78]⟩ : ByteArray))) && decide ((e4.fields.length : Int) = (1 : Int))) e5.fields 0 fun e6 => lr E12 (fun _ => []) ((((((decide (y1.2.2 = (0 : Int)) && decide (y1.2.1 = (⟨#[]⟩ : ByteArray))) && decide ((y1.1.messages.length : Int) = (2 : Int))) && decide (e2.name = (⟨#[97, 46, 77]⟩ : ByteArray))) && decide (e3.name = (⟨#[97, 46, 77, 46, 78]⟩ : ByteArray))) && decide ((e4.fields.length : Int) = (1 : Int))) && (decide (e6.type.kind = 10) && (decide (e6.type.name = (⟨#[97, 46, 77, 46, 78]⟩)) && true)))
def M_wireschemalaw11_awake : Option (Bool) := (T12_1).m
set_option maxRecDepth 100000 in
theorem K_12 : KC Try.prog 12 [] (M_wireschemalaw11_awake) E12 := kc1 Try.func12 Try.ntmps12 tok [.tmp 0] fun C co y hm Post hL => fin4 co tok tmo (T12_1) hm hL fun r g => fun y1 => fun e2 => fun e3 => fun e4 => fun e5 => fun e6 => id
abbrev E5 : Bool → AV := fun y => vB y
section
variable {C : Cx} (p0 : List Fil)
def S5_1 : List Fil × Int → St := fun (r1, v2) => mkS [(0, vL eFil p0), (3, .ref (1, 3) 0 0 r1.length), (4, vI v2)] [((1, 3), ⟨0, true, 61, 6, vecC eFil r1⟩)]
def X5_1 : List Fil → Nat × St := fun r4 => (0, mkS [(0, vL eFil p0), (3, .ref (1, 3) 0 0 r4.length)] [((1, 3), ⟨0, true, 61, 6, vecC eFil r4⟩)])
def T5_1 (r1 : List Fil) (v2 : Int) : PT 0 (Lv (List Fil × Int) (List Fil) (Bool)) := br (decide ((0 : Int) ≤ v2)) (ixi p0 v2 fun e3 => vw .sep <| ap r1 (e3 : Fil) <| vs (wi (v2 - 1)) <| vz (fl (r1 ++ [e3])) <| ln (S5_1 p0) (r1 ++ [e3], (v2 - 1))) (vz (fl r1) <| lxe (X5_1 p0) r1)
def B5_1 : List Fil × Int → Option (Lv (List Fil × Int) (List Fil) (Bool)) := fun (r1, v2) => (T5_1 p0 r1 v2).m
def T5_2 (r4 : List Fil) : PT 0 (Bool) := cl (K_9 p0) fun y5 => vw .go <| vw (.frz 3 [(3, (r4.map eFil))] []) <| vz (fz r4) <| vw .sep <| cl (K_9 r4) fun y6 => vw .go <| vw .go <| vw .go <| clg ((decide (y5.2.2 = (0 : Int))) == (decide (y6.2.2 = (0 : Int)))) (K_11 y5.1 y6.1) fun y7 => clg (((decide (y5.2.2 = (0 : Int))) == (decide (y6.2.2 = (0 : Int)))) && y7) (K_12) fun y8 => lr E5 (fun _ => []) ((((decide (y5.2.2 = (0 : Int))) == (decide (y6.2.2 = (0 : Int)))) && y7) && y8)
def T5_3 : PT 0 (Bool) := vw (.ads 3 3 61 6) <| vz (fl ([] : List Fil)) <| lc (mkS [(0, vL eFil p0), (3, .ref (1, 3) 0 0 ([] : List Fil).length), (4, vI ((p0.length : Int) - 1))] [((1, 3), ⟨0, true, 61, 6, vecC eFil ([] : List Fil)⟩)]) ((loopM (B5_1 p0) big (([] : List Fil), ((p0.length : Int) - 1))).bind (Sum.elim (fun r4 => (T5_2 p0 r4).m) some))
def T5_4 : PT 0 (Bool) := vz (eqL p0) <| vs (wi ((p0.length : Int) - 1)) <| lc (mkS [(0, vL eFil p0), (3, .e0), (4, vI ((p0.length : Int) - 1))] []) ((T5_3 p0).m)
def T5_5 : PT 0 (Bool) := lc (mkS [(0, vL eFil p0), (3, .e0)] []) ((T5_4 p0).m)
def M_wireschemalaw11_LinkTurns (p0 : List Fil) : Option (Bool) := (T5_5 p0).m
set_option maxRecDepth 100000 in
theorem K_5_L1 (co : CO C 0) : KL Try.prog (lkT tl) 50 C (pa [0, 0, 1, 0, 1, 1] (bodyOf Try.f5)) [.tmp 2] 0 (S5_1 p0) (X5_1 p0) E5 (fun _ => []) (B5_1 p0) := fun (r1, v2) _ hm Q Post hQ hL => end4 co tok tmo (T5_1 p0 r1 v2) (lf2 [0, 3, 4] [((1, 3), true)]) (lf2 [0, 3] [((1, 3), true)]) hQ hm hL fun r g => ⟨fun e3 => id, id⟩
end
set_option maxRecDepth 100000 in
theorem K_5 (p0 : List Fil) : KC Try.prog 5 [vL eFil p0] (M_wireschemalaw11_LinkTurns p0) E5 := kc1 Try.func5 Try.ntmps5 tok [.tmp 2] fun C co y hm Post hL => mid4 co tok tmo 2 (T5_5 p0) (lf1 [0, 3]) nl (fun _ h => h) hm hL fun r g => fun _ hm hL => sq (mid4 co tok tmo 1 (T5_4 p0) (lf1 [0, 3, 4]) nl (fun _ h => h) hm hL fun r g => fun _ hm hL => bk 0 (cmd4 co (T5_3 p0) (lf2 [0, 3, 4] [((1, 3), true)]) hm hL fun r g => fun _ hm hL => lo (lpF (K_5_L1 p0 co) (fun _ h => h) hm hL (fun r4 hm => fin4 co tok tmo (T5_2 p0 r4) hm hL fun r g => fun y5 => fun y6 => fun y7 => fun y8 => id))))
end Go.Proofs.Ythagpbkmakocjaa
namespace Go.Eng
set_option linter.all false
open Go Go.RowKit
section
variable {σ ξ ρ α β γ : Type}
def foldE (g : β → α → β ⊕ ρ) : β → List α → β ⊕ ρ
 | b, [] => .inl b
 | b, x :: l => match g b x with
  | .inl b' => foldE g b' l
  | .inr r => .inr r
theorem loop_fold {B : σ → Option (Lv σ ξ ρ)} {N : Nat} (l : List α) (mk : Nat → β → σ) (I : Nat → β → Prop) (g : β → α → β ⊕ ρ) (e : β → ξ)
  (hs : ∀ i b x, l[i]? = some x → I i b → B (mk i b) = some (Sum.elim (fun b' => Lv.nx (mk (i + 1) b')) Lv.rt (g b x)) ∧ ∀ b', g b x = .inl b' → I (i + 1) b')
  (he : ∀ b, I l.length b → B (mk l.length b) = some (.ex (e b))) (b0 : β) (h0 : I 0 b0) (hN : l.length < N) : loopM B N (mk 0 b0) = some (Sum.map e id (foldE g b0 l)) := by
 suffices H : ∀ k i b N, i + k = l.length → I i b → k < N → loopM B N (mk i b) = some (Sum.map e id (foldE g b (l.drop i))) by
  have := H l.length 0 b0 N (by omega) h0 hN
  simpa using this
 intro k
 induction k with
 | zero =>
  intro i b N hi hI hN
  obtain ⟨N, rfl⟩ : ∃ m, N = m + 1 := ⟨N - 1, by omega⟩
  have : i = l.length := by omega
  subst this
  rw [loopM, he b hI, List.drop_length]
  rfl
 | succ k ih =>
  intro i b N hi hI hN
  obtain ⟨N, rfl⟩ : ∃ m, N = m + 1 := ⟨N - 1, by omega⟩
  have hlt : i < l.length := by omega
  obtain ⟨h1, h2⟩ := hs i b l[i] (List.getElem?_eq_getElem hlt) hI
  rw [loopM, h1, List.drop_eq_getElem_cons hlt, foldE]
  cases hg : g b l[i] with
  | inl b' => exact ih (i + 1) b' N (by omega) (h2 b' hg) (by omega)
  | inr r => rfl
theorem loop_find {B : Nat → Option (Lv Nat ξ ρ)} {N : Nat} (l : List α) (p : α → Bool) (f : Nat → ρ) (e : ξ)
  (hs : ∀ i x, l[i]? = some x → B i = some (if p x = true then .rt (f i) else .nx (i + 1))) (he : B l.length = some (.ex e)) (hN : l.length < N) :
  loopM B N 0 = some (match l.findIdx? p with | some i => .inr (f i) | none => .inl e) := by
 suffices H : ∀ k i N, i + k = l.length → k < N → loopM B N i = some (match (l.drop i).findIdx? p with | some j => .inr (f (i + j)) | none => .inl e) by
  have := H l.length 0 N (by omega) hN
  simpa using this
 intro k
 induction k with
 | zero =>
  intro i N hi hN
  obtain ⟨N, rfl⟩ : ∃ m, N = m + 1 := ⟨N - 1, by omega⟩
  have : i = l.length := by omega
  subst this
  rw [loopM, he, List.drop_length]
  rfl
 | succ k ih =>
  intro i N hi hN
  obtain ⟨N, rfl⟩ : ∃ m, N = m + 1 := ⟨N - 1, by omega⟩
  have hlt : i < l.length := by omega
  rw [loopM, hs i l[i] (List.getElem?_eq_getElem hlt), List.drop_eq_getElem_cons hlt, List.findIdx?_cons]
  cases hp : p l[i] with
  | true => simp
  | false =>
   simp only [Bool.false_eq_true, if_false]
   rw [ih (i + 1) N (by omega) (by omega)]
   cases (List.drop (i + 1) l).findIdx? p with
   | none => rfl
   | some j => simp [Nat.add_assoc, Nat.add_comm 1 j]
theorem foldE_inl {g : β → α → β ⊕ ρ} (h : β → α → β) (hg : ∀ b x, g b x = .inl (h b x)) : ∀ (l : List α) (b : β), foldE g b l = .inl (l.foldl h b)
 | [], b => rfl
 | x :: l, b => by rw [foldE, hg]; exact foldE_inl h hg l _
theorem foldl_snoc (f : α → γ) : ∀ (l : List α) (b : List γ), l.foldl (fun b x => b ++ [f x]) b = b ++ l.map f
 | [], b => by simp
 | x :: l, b => by rw [List.foldl_cons, foldl_snoc f l]; simp
theorem loop_map {B : List γ × Nat → Option (Lv (List γ × Nat) (List γ) ρ)} {N : Nat} (l : List α) (f : α → γ) (b0 : List γ)
  (hs : ∀ i b x, l[i]? = some x → b.length = b0.length + i → B (b, i) = some (.nx (b ++ [f x], i + 1))) (he : ∀ b, B (b, l.length) = some (.ex b)) (hN : l.length < N) :
  loopM B N (b0, 0) = some (.inl (b0 ++ l.map f)) := by
 have := loop_fold (B := B) (N := N) l (fun i b => (b, i)) (fun i b => b.length = b0.length + i) (fun b x => (.inl (b ++ [f x]) : List γ ⊕ ρ)) id (fun i b x hx hb => ⟨hs i b x hx hb, fun b' e => by cases e; rw [List.length_append, hb]; rfl⟩) (fun b _ => he b) b0 rfl hN
 rw [this, foldE_inl (fun b x => b ++ [f x]) (fun _ _ => rfl), foldl_snoc]
 rfl
def firstR (R : List α → α → Option ρ) : List α → List α → Option ρ
 | _, [] => none
 | p, x :: l => match R p x with
  | some r => some r
  | none => firstR R (p ++ [x]) l
theorem loop_pre {B : σ → Option (Lv σ ξ ρ)} {N : Nat} (l : List α) (S : List α → β) (R : List α → α → Option ρ) (mk : Nat → β → σ) (e : β → ξ)
  (hs : ∀ i x, l[i]? = some x → B (mk i (S (l.take i))) = some (match R (l.take i) x with | some r => .rt r | none => .nx (mk (i + 1) (S (l.take i ++ [x])))))
  (he : B (mk l.length (S l)) = some (.ex (e (S l)))) (hN : l.length < N) : loopM B N (mk 0 (S [])) = some ((firstR R [] l).elim (.inl (e (S l))) .inr) := by
 suffices H : ∀ k i N, i + k = l.length → k < N → loopM B N (mk i (S (l.take i))) = some ((firstR R (l.take i) (l.drop i)).elim (.inl (e (S l))) .inr) by
  have := H l.length 0 N (by omega) hN
  simpa using this
 intro k
 induction k with
 | zero =>
  intro i N hi hN
  obtain ⟨N, rfl⟩ : ∃ m, N = m + 1 := ⟨N - 1, by omega⟩
  have : i = l.length := by omega
  subst this
  rw [loopM, List.take_length, he, List.drop_length]
  rfl
 | succ k ih =>
  intro i N hi hN
  obtain ⟨N, rfl⟩ : ∃ m, N = m + 1 := ⟨N - 1, by omega⟩
  have hlt : i < l.length := by omega
  rw [loopM, hs i l[i] (List.getElem?_eq_getElem hlt), List.drop_eq_getElem_cons hlt, firstR]
  cases R (l.take i) l[i] with
  | some r => rfl
  | none =>
   have := ih (i + 1) N (by omega) (by omega)
   rw [List.take_succ_eq_append_getElem hlt] at this
   exact this
theorem firstR_none {R : List α → α → Option ρ} (h : ∀ p x, R p x = none) : ∀ (l p : List α), firstR R p l = none
 | [], p => rfl
 | x :: l, p => by rw [firstR, h]; exact firstR_none h l _
theorem loop_pre0 {B : σ → Option (Lv σ ξ ρ)} {N : Nat} (l : List α) (S : List α → β) (mk : Nat → β → σ) (e : β → ξ)
  (hs : ∀ i x, l[i]? = some x → B (mk i (S (l.take i))) = some (.nx (mk (i + 1) (S (l.take i ++ [x])))))
  (he : B (mk l.length (S l)) = some (.ex (e (S l)))) (hN : l.length < N) : loopM B N (mk 0 (S [])) = some (.inl (e (S l))) := by
 rw [loop_pre l S (fun _ _ => none) mk e hs he hN, firstR_none fun _ _ => rfl]
 rfl
theorem loop_inv {B : σ → Option (Lv σ ξ ρ)} (I : Nat → σ → Prop) (Q : ξ ⊕ ρ → Prop)
  (h : ∀ k v, I k v → ∃ o, B v = some o ∧ match o with | .nx v' => ∃ k', k' < k ∧ I k' v' | .ex b => Q (.inl b) | .rt y => Q (.inr y)) :
  ∀ N k v, k < N → I k v → ∃ o, loopM B N v = some o ∧ Q o
 | 0, k, v, hk, _ => absurd hk (Nat.not_lt_zero _)
 | N + 1, k, v, hk, hI => by
  obtain ⟨o, h1, h2⟩ := h k v hI
  rw [loopM, h1]
  cases o with
  | nx v' => obtain ⟨k', h3, h4⟩ := h2; exact loop_inv I Q h N k' v' (by omega) h4
  | ex b => exact ⟨_, rfl, h2⟩
  | rt y => exact ⟨_, rfl, h2⟩
theorem big_gt {n : Nat} (h : n < 4611686018427387904) : n < big := h
end
end Go.Eng
namespace Go.Proofs.Ythagpbkmakocjaa
set_option linter.all false
open Go Go.Eng
def ixP {α : Type} (l : List α) (p : α → Bool) : Int := match l.findIdx? p with
 | some i => (i : Int)
 | none => -1
theorem ixP_ge {α : Type} {l : List α} {p : α → Bool} : decide (0 ≤ ixP l p) = l.any p := by
 unfold ixP
 rw [← List.findIdx?_isSome]
 cases l.findIdx? p <;> simp
theorem m116 (l : List Int) (x : Int) (h : l.length < 4611686018427387904) : M_Index_int l x = some (ixP l (fun y => decide (x = y))) := by
 unfold M_Index_int
 simp only [T116_1, T116_2, T116_3, T116_4, al, frt, stp, br, ix, ixi, vz, vy, vw, vs, vg, v2, lr, lrt, ln, lxe, lc, lf, lfe, ap, aq, a0, a1, ad, cl, cs, cf, wa, wi, ir, ca, cp, dd, mv, st, ss, sL, Bd.c, Bd.vl]
 rw [loop_find l (fun y => decide (x = y)) (fun i => (i : Int)) () (hN := big_gt h) (he := by simp [B116_1, T116_1, T116_2, T116_3, T116_4, al, frt, stp, br, ix, ixi, vz, vy, vw, vs, vg, v2, lr, lrt, ln, lxe, lc, lf, lfe, ap, aq, a0, a1, ad, cl, cs, cf, wa, wi, ir, ca, cp, dd, mv, st, ss, sL, Bd.c, Bd.vl]) (hs := by
  intro i y hy
  obtain ⟨h1, rfl⟩ := List.getElem?_eq_some_iff.1 hy
  have h2 : i + 1 < 9223372036854775808 := by omega
  simp [B116_1, T116_1, T116_2, T116_3, T116_4, al, frt, stp, br, ix, ixi, vz, vy, vw, vs, vg, v2, lr, lrt, ln, lxe, lc, lf, lfe, ap, aq, a0, a1, ad, cl, cs, cf, wa, wi, ir, ca, cp, dd, mv, st, ss, sL, Bd.c, Bd.vl, h1, h2]
  split <;> rfl)]
 unfold ixP
 cases l.findIdx? _ <;> rfl
theorem m116r0 (l : List Int) (x : Int) (h : l.length < 4611686018427387904) : M_Index_intr0 l x = some (ixP l (fun y => decide (x = y))) := by
 unfold M_Index_intr0
 simp only [T116r0_1, T116r0_2, T116r0_3, T116r0_4, al, frt, stp, br, ix, ixi, vz, vy, vw, vs, vg, v2, lr, lrt, ln, lxe, lc, lf, lfe, ap, aq, a0, a1, ad, cl, cs, cf, wa, wi, ir, ca, cp, dd, mv, st, ss, sL, Bd.c, Bd.vl]
 rw [loop_find l (fun y => decide (x = y)) (fun i => (i : Int)) () (hN := big_gt h) (he := by simp [B116r0_1, T116r0_1, T116r0_2, T116r0_3, T116r0_4, al, frt, stp, br, ix, ixi, vz, vy, vw, vs, vg, v2, lr, lrt, ln, lxe, lc, lf, lfe, ap, aq, a0, a1, ad, cl, cs, cf, wa, wi, ir, ca, cp, dd, mv, st, ss, sL, Bd.c, Bd.vl]) (hs := by
  intro i y hy
  obtain ⟨h1, rfl⟩ := List.getElem?_eq_some_iff.1 hy
  have h2 : i + 1 < 9223372036854775808 := by omega
  simp [B116r0_1, T116r0_1, T116r0_2, T116r0_3, T116r0_4, al, frt, stp, br, ix, ixi, vz, vy, vw, vs, vg, v2, lr, lrt, ln, lxe, lc, lf, lfe, ap, aq, a0, a1, ad, cl, cs, cf, wa, wi, ir, ca, cp, dd, mv, st, ss, sL, Bd.c, Bd.vl, h1, h2]
  split <;> rfl)]
 unfold ixP
 cases l.findIdx? _ <;> rfl
theorem m91 (l : List ByteArray) (x : ByteArray) (h : l.length < 4611686018427387904) : M_Index_string l x = some (ixP l (fun y => decide (x = y))) := by
 unfold M_Index_string
 simp only [T91_1, T91_2, T91_3, T91_4, al, frt, stp, br, ix, ixi, vz, vy, vw, vs, vg, v2, lr, lrt, ln, lxe, lc, lf, lfe, ap, aq, a0, a1, ad, cl, cs, cf, wa, wi, ir, ca, cp, dd, mv, st, ss, sL, Bd.c, Bd.vl]
 rw [loop_find l (fun y => decide (x = y)) (fun i => (i : Int)) () (hN := big_gt h) (he := by simp [B91_1, T91_1, T91_2, T91_3, T91_4, al, frt, stp, br, ix, ixi, vz, vy, vw, vs, vg, v2, lr, lrt, ln, lxe, lc, lf, lfe, ap, aq, a0, a1, ad, cl, cs, cf, wa, wi, ir, ca, cp, dd, mv, st, ss, sL, Bd.c, Bd.vl]) (hs := by
  intro i y hy
  obtain ⟨h1, rfl⟩ := List.getElem?_eq_some_iff.1 hy
  have h2 : i + 1 < 9223372036854775808 := by omega
  simp [B91_1, T91_1, T91_2, T91_3, T91_4, al, frt, stp, br, ix, ixi, vz, vy, vw, vs, vg, v2, lr, lrt, ln, lxe, lc, lf, lfe, ap, aq, a0, a1, ad, cl, cs, cf, wa, wi, ir, ca, cp, dd, mv, st, ss, sL, Bd.c, Bd.vl, h1, h2]
  split <;> rfl)]
 unfold ixP
 cases l.findIdx? _ <;> rfl
theorem m85 (l : List Fil) (f : Fil → Option Bool) (p : Fil → Bool) (hf : ∀ x ∈ l, f x = some (p x)) (h : l.length < 4611686018427387904) : M_IndexFunc_File l f = some (ixP l (p)) := by
 unfold M_IndexFunc_File
 simp only [T85_1, T85_2, T85_3, T85_4, al, frt, stp, br, ix, ixi, vz, vy, vw, vs, vg, v2, lr, lrt, ln, lxe, lc, lf, lfe, ap, aq, a0, a1, ad, cl, cs, cf, wa, wi, ir, ca, cp, dd, mv, st, ss, sL, Bd.c, Bd.vl]
 rw [loop_find l (p) (fun i => (i : Int)) () (hN := big_gt h) (he := by simp [B85_1, T85_1, T85_2, T85_3, T85_4, al, frt, stp, br, ix, ixi, vz, vy, vw, vs, vg, v2, lr, lrt, ln, lxe, lc, lf, lfe, ap, aq, a0, a1, ad, cl, cs, cf, wa, wi, ir, ca, cp, dd, mv, st, ss, sL, Bd.c, Bd.vl]) (hs := by
  intro i y hy
  obtain ⟨h1, rfl⟩ := List.getElem?_eq_some_iff.1 hy
  have h2 : i + 1 < 9223372036854775808 := by omega
  have h3 := hf l[i] (List.mem_of_getElem? hy)
  simp [B85_1, T85_1, T85_2, T85_3, T85_4, al, frt, stp, br, ix, ixi, vz, vy, vw, vs, vg, v2, lr, lrt, ln, lxe, lc, lf, lfe, ap, aq, a0, a1, ad, cl, cs, cf, wa, wi, ir, ca, cp, dd, mv, st, ss, sL, Bd.c, Bd.vl, h1, h2, h3]
  cases p l[i] <;> rfl)]
 unfold ixP
 cases l.findIdx? _ <;> rfl
theorem m117 (l : List ByteArray) (f : ByteArray → Option Bool) (p : ByteArray → Bool) (hf : ∀ x ∈ l, f x = some (p x)) (h : l.length < 4611686018427387904) : M_IndexFunc_string l f = some (ixP l (p)) := by
 unfold M_IndexFunc_string
 simp only [T117_1, T117_2, T117_3, T117_4, al, frt, stp, br, ix, ixi, vz, vy, vw, vs, vg, v2, lr, lrt, ln, lxe, lc, lf, lfe, ap, aq, a0, a1, ad, cl, cs, cf, wa, wi, ir, ca, cp, dd, mv, st, ss, sL, Bd.c, Bd.vl]
 rw [loop_find l (p) (fun i => (i : Int)) () (hN := big_gt h) (he := by simp [B117_1, T117_1, T117_2, T117_3, T117_4, al, frt, stp, br, ix, ixi, vz, vy, vw, vs, vg, v2, lr, lrt, ln, lxe, lc, lf, lfe, ap, aq, a0, a1, ad, cl, cs, cf, wa, wi, ir, ca, cp, dd, mv, st, ss, sL, Bd.c, Bd.vl]) (hs := by
  intro i y hy
  obtain ⟨h1, rfl⟩ := List.getElem?_eq_some_iff.1 hy
  have h2 : i + 1 < 9223372036854775808 := by omega
  have h3 := hf l[i] (List.mem_of_getElem? hy)
  simp [B117_1, T117_1, T117_2, T117_3, T117_4, al, frt, stp, br, ix, ixi, vz, vy, vw, vs, vg, v2, lr, lrt, ln, lxe, lc, lf, lfe, ap, aq, a0, a1, ad, cl, cs, cf, wa, wi, ir, ca, cp, dd, mv, st, ss, sL, Bd.c, Bd.vl, h1, h2, h3]
  cases p l[i] <;> rfl)]
 unfold ixP
 cases l.findIdx? _ <;> rfl
theorem m103 (l : List Enm) (f : Enm → Option Bool) (p : Enm → Bool) (hf : ∀ x ∈ l, f x = some (p x)) (h : l.length < 4611686018427387904) : M_IndexFunc_Enum l f = some (ixP l (p)) := by
 unfold M_IndexFunc_Enum
 simp only [T103_1, T103_2, T103_3, T103_4, al, frt, stp, br, ix, ixi, vz, vy, vw, vs, vg, v2, lr, lrt, ln, lxe, lc, lf, lfe, ap, aq, a0, a1, ad, cl, cs, cf, wa, wi, ir, ca, cp, dd, mv, st, ss, sL, Bd.c, Bd.vl]
 rw [loop_find l (p) (fun i => (i : Int)) () (hN := big_gt h) (he := by simp [B103_1, T103_1, T103_2, T103_3, T103_4, al, frt, stp, br, ix, ixi, vz, vy, vw, vs, vg, v2, lr, lrt, ln, lxe, lc, lf, lfe, ap, aq, a0, a1, ad, cl, cs, cf, wa, wi, ir, ca, cp, dd, mv, st, ss, sL, Bd.c, Bd.vl]) (hs := by
  intro i y hy
  obtain ⟨h1, rfl⟩ := List.getElem?_eq_some_iff.1 hy
  have h2 : i + 1 < 9223372036854775808 := by omega
  have h3 := hf l[i] (List.mem_of_getElem? hy)
  simp [B103_1, T103_1, T103_2, T103_3, T103_4, al, frt, stp, br, ix, ixi, vz, vy, vw, vs, vg, v2, lr, lrt, ln, lxe, lc, lf, lfe, ap, aq, a0, a1, ad, cl, cs, cf, wa, wi, ir, ca, cp, dd, mv, st, ss, sL, Bd.c, Bd.vl, h1, h2, h3]
  cases p l[i] <;> rfl)]
 unfold ixP
 cases l.findIdx? _ <;> rfl
theorem m88 (l : List Int) (x : Int) (h : l.length < 4611686018427387904) : M_Contains_int l x = some (l.any fun y => decide (x = y)) := by
 unfold M_Contains_int
 simp only [T88_1, al, frt, stp, br, ix, ixi, vz, vy, vw, vs, vg, v2, lr, lrt, ln, lxe, lc, lf, lfe, ap, aq, a0, a1, ad, cl, cs, cf, wa, wi, ir, ca, cp, dd, mv, st, ss, sL, Bd.c, Bd.vl, m116 l x h, Option.bind_some, ixP_ge]
theorem m88r0 (l : List Int) (x : Int) (h : l.length < 4611686018427387904) : M_Contains_intr0 l x = some (l.any fun y => decide (x = y)) := by
 unfold M_Contains_intr0
 simp only [T88r0_1, al, frt, stp, br, ix, ixi, vz, vy, vw, vs, vg, v2, lr, lrt, ln, lxe, lc, lf, lfe, ap, aq, a0, a1, ad, cl, cs, cf, wa, wi, ir, ca, cp, dd, mv, st, ss, sL, Bd.c, Bd.vl, m116r0 l x h, Option.bind_some, ixP_ge]
theorem m54 (l : List ByteArray) (x : ByteArray) (h : l.length < 4611686018427387904) : M_Contains_string l x = some (l.any fun y => decide (x = y)) := by
 unfold M_Contains_string
 simp only [T54_1, al, frt, stp, br, ix, ixi, vz, vy, vw, vs, vg, v2, lr, lrt, ln, lxe, lc, lf, lfe, ap, aq, a0, a1, ad, cl, cs, cf, wa, wi, ir, ca, cp, dd, mv, st, ss, sL, Bd.c, Bd.vl, m91 l x h, Option.bind_some, ixP_ge]
theorem m89 (l : List ByteArray) (f : ByteArray → Option Bool) (p : ByteArray → Bool) (hf : ∀ x ∈ l, f x = some (p x)) (h : l.length < 4611686018427387904) : M_ContainsFunc_string l f = some (l.any p) := by
 unfold M_ContainsFunc_string
 simp only [T89_1, al, frt, stp, br, ix, ixi, vz, vy, vw, vs, vg, v2, lr, lrt, ln, lxe, lc, lf, lfe, ap, aq, a0, a1, ad, cl, cs, cf, wa, wi, ir, ca, cp, dd, mv, st, ss, sL, Bd.c, Bd.vl, m117 l f p hf h, Option.bind_some, ixP_ge]
theorem m120 (l : List Enm) (f : Enm → Option Bool) (p : Enm → Bool) (hf : ∀ x ∈ l, f x = some (p x)) (h : l.length < 4611686018427387904) : M_ContainsFunc_Enum l f = some (l.any p) := by
 unfold M_ContainsFunc_Enum
 simp only [T120_1, al, frt, stp, br, ix, ixi, vz, vy, vw, vs, vg, v2, lr, lrt, ln, lxe, lc, lf, lfe, ap, aq, a0, a1, ad, cl, cs, cf, wa, wi, ir, ca, cp, dd, mv, st, ss, sL, Bd.c, Bd.vl, m103 l f p hf h, Option.bind_some, ixP_ge]
theorem m51 (l : List Fil) (x : ByteArray) (h : l.length < 4611686018427387904) : M_link_fileAt l x = some (ixP l fun y => decide (y.name = x)) := by
 unfold M_link_fileAt
 simp only [T51_1, al, frt, stp, br, ix, ixi, vz, vy, vw, vs, vg, v2, lr, lrt, ln, lxe, lc, lf, lfe, ap, aq, a0, a1, ad, cl, cs, cf, wa, wi, ir, ca, cp, dd, mv, st, ss, sL, Bd.c, Bd.vl]
 rw [m85 l _ (fun y => decide (y.name = x)) (fun y _ => (by simp only [M_link_fileAt_1, T86_1, al, frt, stp, br, ix, ixi, vz, vy, vw, vs, vg, v2, lr, lrt, ln, lxe, lc, lf, lfe, ap, aq, a0, a1, ad, cl, cs, cf, wa, wi, ir, ca, cp, dd, mv, st, ss, sL, Bd.c, Bd.vl] : M_link_fileAt_1 y x = _)) h]
 rfl
def joinB (a b : ByteArray) : ByteArray := if a = ⟨#[]⟩ then b else a ++ ⟨#[46]⟩ ++ b
theorem joinB_size (a b : ByteArray) : (joinB a b).size ≤ a.size + 1 + b.size := by
 unfold joinB
 split
 ·omega
 ·rw [ByteArray.size_append, ByteArray.size_append]; exact Nat.le_refl _
theorem m25 (a b : ByteArray) (ha : a.size < 4611686018427387904) (hb : b.size < 4611686018427387903) : M_ident_Join a b = some (joinB a b) := by
 unfold M_ident_Join joinB
 simp only [T25_1, al, frt, stp, br, ix, ixi, vz, vy, vw, vs, vg, v2, lr, lrt, ln, lxe, lc, lf, lfe, ap, aq, a0, a1, ad, cl, cs, cf, wa, wi, ir, ca, cp, dd, mv, st, ss, sL, Bd.c, Bd.vl]
 by_cases e : a = ⟨#[]⟩
 ·simp [e]
 ·have hd : (⟨#[46]⟩ : ByteArray).size = 1 := rfl
  have h1 : a.size + 1 ≤ 9223372036854775807 := by omega
  have h2 : a.size + 1 + b.size ≤ 9223372036854775807 := by omega
  simp [e, hd, h1, h2]
structure SzF (f : Fil) : Prop where
 sp : f.space.size < 2147483648
 nm : f.name.size < 2147483648
 ms : f.messages.length < 2147483648
 es : f.enums.length < 2147483648
 vs : f.services.length < 2147483648
 is : f.imports.length < 2147483648
 nm1 : ∀ x ∈ f.messages, x.name.size < 2147483648
 nm2 : ∀ x ∈ f.enums, x.name.size < 2147483648
 nm3 : ∀ x ∈ f.services, x.name.size < 2147483648
def own1 (f : Fil) : List ByteArray := f.messages.map fun x => joinB f.space x.name
def own2 (f : Fil) : List ByteArray := f.enums.map fun x => joinB f.space x.name
def own3 (f : Fil) : List ByteArray := f.services.map fun x => joinB f.space x.name
theorem m24 (f : Fil) (hf : SzF f) : M_link_own f = some (own1 f, own2 f, own3 f) := by
 have g1 := hf.sp
 have g2 := hf.ms
 have g3 := hf.es
 have g4 := hf.vs
 have q1 : loopM (B24_1 f) big ([], 0) = some (.inl ([] ++ f.messages.map fun x => joinB f.space x.name)) := loop_map f.messages (fun x => joinB f.space x.name) [] (hN := big_gt (by omega)) (he := by intro b; simp [B24_1, T24_1, T24_2, T24_3, T24_4, T24_5, T24_6, T24_7, T24_8, T24_9, T24_10, T24_11, al, frt, stp, br, ix, ixi, vz, vy, vw, vs, vg, v2, lr, lrt, ln, lxe, lc, lf, lfe, ap, aq, a0, a1, ad, cl, cs, cf, wa, wi, ir, ca, cp, dd, mv, st, ss, sL, Bd.c, Bd.vl]) (hs := by
  intro i b x hx hb
  obtain ⟨h1, rfl⟩ := List.getElem?_eq_some_iff.1 hx
  have h2 : i + 1 < 9223372036854775808 := by omega
  have h3 := m25 f.space (f.messages[i]).name (by omega) (by have := hf.nm1 _ (List.mem_of_getElem? hx); omega)
  have h4 : b.length < 549755813887 := by simp only [List.length_append, List.length_map, List.length_nil] at hb; omega
  simp [B24_1, T24_1, T24_2, T24_3, T24_4, T24_5, T24_6, T24_7, T24_8, T24_9, T24_10, T24_11, al, frt, stp, br, ix, ixi, vz, vy, vw, vs, vg, v2, lr, lrt, ln, lxe, lc, lf, lfe, ap, aq, a0, a1, ad, cl, cs, cf, wa, wi, ir, ca, cp, dd, mv, st, ss, sL, Bd.c, Bd.vl, h1, h2, h3, h4])
 have q2 : ∀ r5 : List ByteArray, loopM (B24_2 f r5) big ([], 0) = some (.inl ([] ++ f.enums.map fun x => joinB f.space x.name)) := fun r5 => loop_map f.enums (fun x => joinB f.space x.name) [] (hN := big_gt (by omega)) (he := by intro b; simp [B24_2, T24_1, T24_2, T24_3, T24_4, T24_5, T24_6, T24_7, T24_8, T24_9, T24_10, T24_11, al, frt, stp, br, ix, ixi, vz, vy, vw, vs, vg, v2, lr, lrt, ln, lxe, lc, lf, lfe, ap, aq, a0, a1, ad, cl, cs, cf, wa, wi, ir, ca, cp, dd, mv, st, ss, sL, Bd.c, Bd.vl]) (hs := by
  intro i b x hx hb
  obtain ⟨h1, rfl⟩ := List.getElem?_eq_some_iff.1 hx
  have h2 : i + 1 < 9223372036854775808 := by omega
  have h3 := m25 f.space (f.enums[i]).name (by omega) (by have := hf.nm2 _ (List.mem_of_getElem? hx); omega)
  have h4 : b.length < 549755813887 := by simp only [List.length_append, List.length_map, List.length_nil] at hb; omega
  simp [B24_2, T24_1, T24_2, T24_3, T24_4, T24_5, T24_6, T24_7, T24_8, T24_9, T24_10, T24_11, al, frt, stp, br, ix, ixi, vz, vy, vw, vs, vg, v2, lr, lrt, ln, lxe, lc, lf, lfe, ap, aq, a0, a1, ad, cl, cs, cf, wa, wi, ir, ca, cp, dd, mv, st, ss, sL, Bd.c, Bd.vl, h1, h2, h3, h4])
 have q3 : ∀ r5 r10 : List ByteArray, loopM (B24_3 f r5 r10) big ([], 0) = some (.inl ([] ++ f.services.map fun x => joinB f.space x.name)) := fun r5 r10 => loop_map f.services (fun x => joinB f.space x.name) [] (hN := big_gt (by omega)) (he := by intro b; simp [B24_3, T24_1, T24_2, T24_3, T24_4, T24_5, T24_6, T24_7, T24_8, T24_9, T24_10, T24_11, al, frt, stp, br, ix, ixi, vz, vy, vw, vs, vg, v2, lr, lrt, ln, lxe, lc, lf, lfe, ap, aq, a0, a1, ad, cl, cs, cf, wa, wi, ir, ca, cp, dd, mv, st, ss, sL, Bd.c, Bd.vl]) (hs := by
  intro i b x hx hb
  obtain ⟨h1, rfl⟩ := List.getElem?_eq_some_iff.1 hx
  have h2 : i + 1 < 9223372036854775808 := by omega
  have h3 := m25 f.space (f.services[i]).name (by omega) (by have := hf.nm3 _ (List.mem_of_getElem? hx); omega)
  have h4 : b.length < 549755813887 := by simp only [List.length_append, List.length_map, List.length_nil] at hb; omega
  simp [B24_3, T24_1, T24_2, T24_3, T24_4, T24_5, T24_6, T24_7, T24_8, T24_9, T24_10, T24_11, al, frt, stp, br, ix, ixi, vz, vy, vw, vs, vg, v2, lr, lrt, ln, lxe, lc, lf, lfe, ap, aq, a0, a1, ad, cl, cs, cf, wa, wi, ir, ca, cp, dd, mv, st, ss, sL, Bd.c, Bd.vl, h1, h2, h3, h4])
 unfold M_link_own own1 own2 own3
 simp only [T24_1, T24_2, T24_3, T24_4, T24_5, T24_6, T24_7, T24_8, T24_9, T24_10, T24_11, al, frt, stp, br, ix, ixi, vz, vy, vw, vs, vg, v2, lr, lrt, ln, lxe, lc, lf, lfe, ap, aq, a0, a1, ad, cl, cs, cf, wa, wi, ir, ca, cp, dd, mv, st, ss, sL, Bd.c, Bd.vl, q1, q2, q3, Option.bind_some, Sum.elim_inl, List.nil_append]
end Go.Proofs.Ythagpbkmakocjaa
