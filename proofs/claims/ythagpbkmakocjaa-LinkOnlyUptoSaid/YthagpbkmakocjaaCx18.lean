import Derived.Test.YthagpbkmakocjaaCx16
import Derived.Test.YthagpbkmakocjaaCx17
namespace Go.Proofs.Ythagpbkmakocjaa
set_option linter.all false
set_option maxRecDepth 100000
open Go Go.Eng
noncomputable section
@[reducible] noncomputable def tp : Program := Try.prog
abbrev Bt := ByteArray
section
variable {n os : Nat} {C : Cx} {τ : St} {Q : Exit → St → Prop} {p : List Nat} {b c : Code} {β : Type} {Post : AV → List Blk → Prop} {rs : List ResultVar} {L : β → Prop} {y : β}
theorem mi (co : CO C os) (m : Nat) (v : PT os β) (lf lx : Lf) (hQ : ∀ τ, FQ (lkT tl) rs os Post .ret τ → Q .ret τ) (hv : v.m = some y) (hL : HL L y)
 (hn : ∀ r (g : Gd C r), v.n ⟨⟨C.l, r, fun e τ' => match e with | .normal => LW tp n C (pa (up m p) b) τ' Q | e => Q e τ', Post⟩, L, C, co, g, rfl⟩)
 (hq : ∀ l r Q Post, ZFg tp (lkT tl) l n os r m (pa p b) v.a τ (KB (lkT tl) rs os (ZhU os) r Post lf lx Q) = v.q ⟨l, r, Q, Post⟩ := by intro l r Q P; kernel_rfl) (hl : lng m (pa p b) = true := by kernel_rfl) : LW tp n C (pa p b) τ Q := ZIH co tok tmo m v lf lx hQ hv hL hn hq hl
theorem en (co : CO C os) (v : PT os β) (lf lx : Lf) (hQ : ∀ τ, FQ (lkT tl) rs os Post .ret τ → Q .ret τ) (h : v.m = some y) (hL : HL L y)
 (hn : ∀ r (g : Gd C r), v.n ⟨⟨C.l, r, Q, Post⟩, L, C, co, g, rfl⟩) (hq : ∀ l r Q Post, ZcA tp (lkT tl) l n os r c v.a τ (KB (lkT tl) rs os (ZhU os) r Post lf lx Q) = v.q ⟨l, r, Q, Post⟩ := by intro l r Q P; kernel_rfl) : LW tp n C c τ Q := ZKD co tok tmo v lf lx hQ h hL hn hq
theorem fo (co : CO C os) (v : PT os β) (h : v.m = some y) (hL : HL L y) (hn : ∀ r (g : Gd C r), v.n ⟨⟨C.l, r, fun _ _ => False, Post⟩, L, C, co, g, rfl⟩)
 (hq : ∀ l r Q Post, ZcA tp (lkT tl) l n os r c v.a τ (KF (lkT tl) rs os Post) = v.q ⟨l, r, Q, Post⟩ := by intro l r Q P; kernel_rfl) : LW tp n C c τ (FQ (lkT tl) rs os Post) := ZJn co tok tmo v h hL hn hq
abbrev Kl {σ ξ ρ : Type} (n : Nat) (C : Cx) (c : Code) (rs : List ResultVar) (os : Nat) (S : σ → St) (X : ξ → Nat × St) (er : ρ → AV) (bs : ρ → List Blk) (B : σ → Option (Lv σ ξ ρ)) : Prop := KL tp (lkT tl) n C c rs os S X er bs B
end
theorem ii {α : Type} {P : α → Prop} : ∀ x, P x → P x := fun _ h => h
theorem bz {r r' : Ren} {k k' : Key} {g g' : Nat} {e : TypeId} {sz : Nat} {α : Type} {en : α → List D} {xs : List α} (h : r.γ k + g = r'.γ k' + g' := by kernel_rfl) : Za7 r k ⟨g, true, e, sz, Zaa en xs⟩ = Za7 r' k' ⟨g', true, e, sz, Zaa en xs⟩ := ZoU (Zai _ _) h
class Tid (α : Type) where
 t : Nat
instance : Tid Msg := ⟨39⟩
instance : Tid Enm := ⟨42⟩
instance : Tid Svc := ⟨57⟩
abbrev E71 : Bool → AV := fun y => vB y
section
variable {C : Cx} (p0 p1 : List Spn)
def Zz1 : Nat → St := fun v1 => mkS [(0, vL ZeI p0), (1, vL ZeI p1), (5, vN v1)] []
def ZCG : Unit → Nat × St := fun _ => (0, mkS [] [])
def Ztz (v1 : Nat) : PT 0 (Lv (Nat) (Unit) (Bool)) := vz (eqL p0) <| br (decide ((v1 : Int) < (p0.length : Int))) (ix p0 v1 fun e2 => ix p1 v1 fun e3 => br (!(decide (e2.lo = e3.lo) && (decide (e2.hi = e3.hi) && true))) (lrt E71 (fun _ => []) false) (vs (wa v1 1) <| ln (Zz1 p0 p1) (v1 + 1))) (lxe (ZCG) ())
def ZoG := fun (v1 : Nat) => (Ztz p0 p1 v1).m
def ZwN : PT 0 (Bool) := lr E71 (fun _ => []) true
def ZzP : PT 0 (Bool) := lc (Zz1 p0 p1 0) ((Zaj (ZoG p0 p1) big 0).bind (Sum.elim (fun _ => (ZwN).m) some))
def Zyw : PT 0 (Bool) := vz (eqL p0) <| vz (eqL p1) <| br (!decide ((p0.length : Int) = (p1.length : Int))) (lr E71 (fun _ => []) false) (lc (mkS [(0, vL ZeI p0), (1, vL ZeI p1)] []) ((ZzP p0 p1).m))
def ZaS (p0 : List Spn) (p1 : List Spn) : Option (Bool) := (Zyw p0 p1).m
theorem Zy8 (co : CO C 0) : Kl 26 C (pa [0, 0, 1, 0, 1, 1] (Zac Try.f71)) [.tmp 4] 0 (Zz1 p0 p1) (ZCG) E71 (fun _ => []) (ZoG p0 p1) := fun v1 _ m Q Post hQ L => en co (Ztz p0 p1 v1) (lf1 [0, 1, 5]) nl hQ m L fun r g => ⟨fun e2 e3 => ⟨id, id⟩, id⟩
end
theorem ZJj (p0 : List Spn) (p1 : List Spn) : KC tp 71 [vL ZeI p0, vL ZeI p1] (ZaS p0 p1) E71 := kc1 Try.func71 Try.ntmps71 tok [.tmp 4] fun C co y m Post L => mi co 2 (Zyw p0 p1) (lf1 [0, 1]) nl ii m L fun r g => ⟨id, fun _ m L => sq (mi co 1 (ZzP p0 p1) (lf1 [0, 1, 5]) nl ii m L fun r g _ m L => bk 0 (lo (lpF (Zy8 p0 p1 co) ii m L (fun _ m => fo co (ZwN) m L fun r g => id))))⟩
abbrev E72 : Bool → AV := fun y => vB y
section
variable {C : Cx} (p0 p1 : List Nt)
def Zww : Nat → St := fun v1 => mkS [(0, vL eNt p0), (1, vL eNt p1), (5, vN v1)] []
def ZBm : Unit → Nat × St := fun _ => (0, mkS [] [])
def ZsK (v1 : Nat) : PT 0 (Lv (Nat) (Unit) (Bool)) := vz (eqL p0) <| br (decide ((v1 : Int) < (p0.length : Int))) (ix p0 v1 fun e2 => ix p1 v1 fun e3 => ixg (!(!decide (e2.name = e3.name))) p0 (v1 : Int) fun e4 => ixg (!(!decide (e2.name = e3.name))) p1 (v1 : Int) fun e5 => ixg (!((!decide (e2.name = e3.name)) || (!decide (e4.val.kind = e5.val.kind)))) p0 (v1 : Int) fun e6 => ixg (!((!decide (e2.name = e3.name)) || (!decide (e4.val.kind = e5.val.kind)))) p1 (v1 : Int) fun e7 => ixg (!(((!decide (e2.name = e3.name)) || (!decide (e4.val.kind = e5.val.kind))) || (!decide (e6.val.bits = e7.val.bits)))) p0 (v1 : Int) fun e8 => ixg (!(((!decide (e2.name = e3.name)) || (!decide (e4.val.kind = e5.val.kind))) || (!decide (e6.val.bits = e7.val.bits)))) p1 (v1 : Int) fun e9 => br ((((!decide (e2.name = e3.name)) || (!decide (e4.val.kind = e5.val.kind))) || (!decide (e6.val.bits = e7.val.bits))) || (!decide (e8.val.text = e9.val.text))) (lrt E72 (fun _ => []) false) (vs (wa v1 1) <| ln (Zww p0 p1) (v1 + 1))) (lxe (ZBm) ())
def Zqw := fun (v1 : Nat) => (ZsK p0 p1 v1).m
def ZzY : PT 0 (Bool) := lr E72 (fun _ => []) true
def Zyq : PT 0 (Bool) := lc (Zww p0 p1 0) ((Zaj (Zqw p0 p1) big 0).bind (Sum.elim (fun _ => (ZzY).m) some))
def Zwn : PT 0 (Bool) := vz (eqL p0) <| vz (eqL p1) <| br (!decide ((p0.length : Int) = (p1.length : Int))) (lr E72 (fun _ => []) false) (lc (mkS [(0, vL eNt p0), (1, vL eNt p1)] []) ((Zyq p0 p1).m))
def Zbe (p0 : List Nt) (p1 : List Nt) : Option (Bool) := (Zwn p0 p1).m
theorem ZyB (co : CO C 0) : Kl 73 C (pa [0, 0, 1, 0, 1, 1] (Zac Try.f72)) [.tmp 4] 0 (Zww p0 p1) (ZBm) E72 (fun _ => []) (Zqw p0 p1) := fun v1 _ m Q Post hQ L => en co (ZsK p0 p1 v1) (lf1 [0, 1, 5]) nl hQ m L fun r g => ⟨fun e2 e3 e4 e5 e6 e7 e8 e9 => ⟨id, id⟩, id⟩
end
theorem ZAd (p0 : List Nt) (p1 : List Nt) : KC tp 72 [vL eNt p0, vL eNt p1] (Zbe p0 p1) E72 := kc1 Try.func72 Try.ntmps72 tok [.tmp 4] fun C co y m Post L => mi co 2 (Zwn p0 p1) (lf1 [0, 1]) nl ii m L fun r g => ⟨id, fun _ m L => sq (mi co 1 (Zyq p0 p1) (lf1 [0, 1, 5]) nl ii m L fun r g _ m L => bk 0 (lo (lpF (ZyB p0 p1 co) ii m L (fun _ m => fo co (ZzY) m L fun r g => id))))⟩
abbrev E73 : Bool → AV := fun y => vB y
def Zzq (p0 : Fld) (p1 : Fld) : PT 0 (Bool) := vw .go <| vw .go <| vw .go <| vw .go <| vw .go <| vw .go <| vw .go <| vw .go <| vw .go <| vw .go <| vw .go <| vw .go <| vw .go <| vw .go <| br (((((((!decide (p0.num = p1.num)) || (!decide (p0.name = p1.name))) || (!decide (p0.card = p1.card))) || (!decide (p0.key = p1.key))) || (!(decide (p0.type.kind = p1.type.kind) && (decide (p0.type.name = p1.type.name) && true)))) || (!decide (p0.union = p1.union))) || (!(p0.hasDefault == p1.hasDefault))) (lr E73 (fun _ => []) false) (vw .go <| vw .go <| vw .go <| vw .go <| vw .go <| vw .go <| vw .go <| vw .go <| clg ((decide (p0.dflt.kind = p1.dflt.kind) && decide (p0.dflt.bits = p1.dflt.bits)) && decide (p0.dflt.text = p1.dflt.text)) (ZAd p0.notes p1.notes) fun y1 => lr E73 (fun _ => []) (((decide (p0.dflt.kind = p1.dflt.kind) && decide (p0.dflt.bits = p1.dflt.bits)) && decide (p0.dflt.text = p1.dflt.text)) && y1))
def ZaR (p0 : Fld) (p1 : Fld) : Option (Bool) := (Zzq p0 p1).m
theorem ZKI (p0 : Fld) (p1 : Fld) : KC tp 73 [.agg ((Zc2 p0).map .d), .agg ((Zc2 p1).map .d)] (ZaR p0 p1) E73 := kc1 Try.func73 Try.ntmps73 tok [.tmp 4] fun C co y m Post L => fo co (Zzq p0 p1) m L fun r g => ⟨id, fun y1 => id⟩
abbrev E37 : Bool → AV := fun y => vB y
section
variable {C : Cx} (co : CO C 0) (p0 p1 : List Msg) (v1 : Nat) (e2 e3 : Msg)
abbrev ZjE := PT 0 (Lv (Nat) (Unit) (Bool))
abbrev Zt7 : List (Key × Blk) := [((1, 6), ⟨0, true, 39, 5, [vS e2.name, vL Zc2 e2.fields, vL ZeI e2.reserved, vL Zah e2.gone, vL eNt e2.notes]⟩), ((1, 7), ⟨0, true, 39, 5, [vS e3.name, vL Zc2 e3.fields, vL ZeI e3.reserved, vL Zah e3.gone, vL eNt e3.notes]⟩)]
abbrev ZnI : List (Key × Bool) := [((1, 6), false), ((1, 7), false)]
abbrev ZEF : List (Nat × AV) := [(0, vL Zak p0), (1, vL Zak p1), (5, vN v1), (6, .ptr (1, 6) 0 0), (7, .ptr (1, 7) 0 0)]
def Zze : Nat → St := fun v1 => mkS [(0, vL Zak p0), (1, vL Zak p1), (5, vN v1)] []
def ZEW : Unit → Nat × St := fun _ => (0, mkS [] [])
def ZyP : Nat → St := fun v6 => mkS [(0, vL Zak p0), (1, vL Zak p1), (5, vN v1), (6, .ptr (1, 6) 0 0), (7, .ptr (1, 7) 0 0), (8, vN v6)] (Zt7 e2 e3)
def ZDy : Unit → Nat × St := fun _ => (2, mkS (ZEF p0 p1 v1) (Zt7 e2 e3))
def ZqI (v6 : Nat) : ZjE := vw .go <| vz (eqL e2.fields) <| br (decide ((v6 : Int) < (e2.fields.length : Int))) (vw .go <| ix e2.fields v6 fun e7 => vw .go <| ix e3.fields v6 fun e8 => cl (ZKI e7 e8) fun y9 => br (!y9) (lrt E37 (fun _ => []) false) (vs (wa v6 1) <| ln (ZyP p0 p1 v1 e2 e3) (v6 + 1))) (lxe (ZDy p0 p1 v1 e2 e3) ())
def ZpJ := fun (v6 : Nat) => (ZqI p0 p1 v1 e2 e3 v6).m
def ZwV : Nat → St := fun v10 => mkS [(0, vL Zak p0), (1, vL Zak p1), (5, vN v1), (6, .ptr (1, 6) 0 0), (7, .ptr (1, 7) 0 0), (9, vN v10)] (Zt7 e2 e3)
def ZFA : Unit → Nat × St := fun _ => (4, mkS [(0, vL Zak p0), (1, vL Zak p1), (5, vN v1)] [])
def Zrg (v10 : Nat) : ZjE := vw .go <| vz (eqL e2.gone) <| br (decide ((v10 : Int) < (e2.gone.length : Int))) (vw .go <| ix e2.gone v10 fun e11 => vw .go <| ix e3.gone v10 fun e12 => br (!decide (e11 = e12)) (lrt E37 (fun _ => []) false) (vs (wa v10 1) <| ln (ZwV p0 p1 v1 e2 e3) (v10 + 1))) (lxe (ZFA p0 p1 v1) ())
def ZpN := fun (v10 : Nat) => (Zrg p0 p1 v1 e2 e3 v10).m
def ZtQ : ZjE := vs (wa v1 1) <| ln (Zze p0 p1) (v1 + 1)
def ZrW : ZjE := lc (ZwV p0 p1 v1 e2 e3 0) ((Zaj (ZpN p0 p1 v1 e2 e3) big 0).bind (Sum.elim (fun _ => (ZtQ p0 p1 v1).m) (fun z => some (.rt z))))
def Zsj : ZjE := lc (ZyP p0 p1 v1 e2 e3 0) ((Zaj (ZpJ p0 p1 v1 e2 e3) big 0).bind (Sum.elim (fun _ => (ZrW p0 p1 v1 e2 e3).m) (fun z => some (.rt z))))
def ZrD : ZjE := ix p0 v1 fun e2 => vw .go <| ix p1 v1 fun e3 => vw .go <| vw .go <| vw .go <| vw .go <| vy (!(!decide (e2.name = e3.name))) (eqL e2.fields) <| vw .go <| vy (!(!decide (e2.name = e3.name))) (eqL e3.fields) <| vw .go <| vw .go <| clg (!((!decide (e2.name = e3.name)) || (!decide ((e2.fields.length : Int) = (e3.fields.length : Int))))) (ZJj e2.reserved e3.reserved) fun y4 => vw .go <| vy (!(((!decide (e2.name = e3.name)) || (!decide ((e2.fields.length : Int) = (e3.fields.length : Int)))) || (!y4))) (eqL e2.gone) <| vw .go <| vy (!(((!decide (e2.name = e3.name)) || (!decide ((e2.fields.length : Int) = (e3.fields.length : Int)))) || (!y4))) (eqL e3.gone) <| vw .go <| vw .go <| clg (!((((!decide (e2.name = e3.name)) || (!decide ((e2.fields.length : Int) = (e3.fields.length : Int)))) || (!y4)) || (!decide ((e2.gone.length : Int) = (e3.gone.length : Int))))) (ZAd e2.notes e3.notes) fun y5 => br (((((!decide (e2.name = e3.name)) || (!decide ((e2.fields.length : Int) = (e3.fields.length : Int)))) || (!y4)) || (!decide ((e2.gone.length : Int) = (e3.gone.length : Int)))) || (!y5)) (lrt E37 (fun _ => []) false) (lc (mkS (ZEF p0 p1 v1) (Zt7 e2 e3)) ((Zsj p0 p1 v1 e2 e3).m))
def Zt5 : ZjE := vz (eqL p0) <| br (decide ((v1 : Int) < (p0.length : Int))) (lc (mkS [(0, vL Zak p0), (1, vL Zak p1), (5, vN v1)] []) ((ZrD p0 p1 v1).m)) (lxe (ZEW) ())
def Zqq := fun (v1 : Nat) => (Zt5 p0 p1 v1).m
def ZwF : PT 0 (Bool) := lr E37 (fun _ => []) true
def ZzD : PT 0 (Bool) := lc (Zze p0 p1 0) ((Zaj (Zqq p0 p1) big 0).bind (Sum.elim (fun _ => (ZwF).m) some))
def Zoa : PT 0 (Bool) := vz (eqL p0) <| vz (eqL p1) <| br (!decide ((p0.length : Int) = (p1.length : Int))) (lr E37 (fun _ => []) false) (lc (mkS [(0, vL Zak p0), (1, vL Zak p1)] []) ((ZzD p0 p1).m))
def ZaJ (p0 : List Msg) (p1 : List Msg) : Option (Bool) := (Zoa p0 p1).m
section
include co
theorem Zwa : Kl 105 C (pa [0, 0, 1, 0, 1, 1, 1, 0, 0, 1, 0, 0, 1, 0, 1, 1] (Zac Try.f37)) [.tmp 4] 0 (ZyP p0 p1 v1 e2 e3) (ZDy p0 p1 v1 e2 e3) E37 (fun _ => []) (ZpJ p0 p1 v1 e2 e3) := fun v6 _ m Q Post hQ L => en co (ZqI p0 p1 v1 e2 e3 v6) (lf2 [0, 1, 5, 6, 7, 8] ZnI) (lf2 [0, 1, 5, 6, 7] ZnI) hQ m L fun r g => ⟨fun e7 e8 y9 => ⟨id, id⟩, id⟩
theorem ZyZ : Kl 105 C (pa [0, 0, 1, 1, 1, 1, 1, 0, 0, 1, 0, 0, 1, 0, 1, 1] (Zac Try.f37)) [.tmp 4] 0 (ZwV p0 p1 v1 e2 e3) (ZFA p0 p1 v1) E37 (fun _ => []) (ZpN p0 p1 v1 e2 e3) := fun v10 _ m Q Post hQ L => en co (Zrg p0 p1 v1 e2 e3 v10) (lf2 [0, 1, 5, 6, 7, 9] ZnI) (lf1 [0, 1, 5]) hQ m L fun r g => ⟨fun e11 e12 => ⟨id, id⟩, id⟩
theorem Zw0 : Kl 105 C (pa [0, 0, 1, 0, 1, 1] (Zac Try.f37)) [.tmp 4] 0 (Zze p0 p1) (ZEW) E37 (fun _ => []) (Zqq p0 p1) := fun v1 _ m Q Post hQ L => mi co 1 (Zt5 p0 p1 v1) (lf1 [0, 1, 5]) nl hQ m L fun r g => ⟨fun _ m L => sq (bk 1 (mi co 3 (ZrD p0 p1 v1) (lf2 [0, 1, 5, 6, 7] ZnI) nl hQ m L fun r g e2 e3 y4 y5 => ⟨id, fun _ m L => sq (mi co 1 (Zsj p0 p1 v1 e2 e3) (lf2 [0, 1, 5, 6, 7, 8] ZnI) nl hQ m L fun r g _ m L => bk 2 (lo (lpL (Zwa co p0 p1 v1 e2 e3) hQ m L (fun _ m => mi co 1 (ZrW p0 p1 v1 e2 e3) (lf2 [0, 1, 5, 6, 7, 9] ZnI) nl hQ m L fun r g _ m L => bk 4 (lo (lpL (ZyZ co p0 p1 v1 e2 e3) hQ m L (fun _ m => en co (ZtQ p0 p1 v1) (lf1 [0, 1, 5]) nl hQ m L fun r g => id)))))))⟩)), id⟩
end
end
theorem ZKc (p0 : List Msg) (p1 : List Msg) : KC tp 37 [vL Zak p0, vL Zak p1] (ZaJ p0 p1) E37 := kc1 Try.func37 Try.ntmps37 tok [.tmp 4] fun C co y m Post L => mi co 2 (Zoa p0 p1) (lf1 [0, 1]) nl ii m L fun r g => ⟨id, fun _ m L => sq (mi co 1 (ZzD p0 p1) (lf1 [0, 1, 5]) nl ii m L fun r g _ m L => bk 0 (lo (lpF (Zw0 co p0 p1) ii m L (fun _ m => fo co (ZwF) m L fun r g => id))))⟩
abbrev E38 : Bool → AV := fun y => vB y
section
variable {C : Cx} (co : CO C 0) (p0 p1 : List Enm) (v1 : Nat) (e2 e3 : Enm)
abbrev Zsx := PT 0 (Lv (Nat) (Unit) (Bool))
def Zzv : Nat → St := fun v1 => mkS [(0, vL Zag p0), (1, vL Zag p1), (5, vN v1)] []
def ZDn : Unit → Nat × St := fun _ => (0, mkS [] [])
def Zyb : Nat → St := fun v6 => mkS [(0, vL Zag p0), (1, vL Zag p1), (5, vN v1), (6, .ptr (1, 6) 0 0), (7, .ptr (1, 7) 0 0), (8, vN v6)] [((1, 6), ⟨0, true, 42, 5, [vS e2.name, vB e2.opn, vL ZmG e2.items, vL ZeI e2.reserved, vL eNt e2.notes]⟩), ((1, 7), ⟨0, true, 42, 5, [vS e3.name, vB e3.opn, vL ZmG e3.items, vL ZeI e3.reserved, vL eNt e3.notes]⟩)]
def ZA1 : Unit → Nat × St := fun _ => (2, mkS [(0, vL Zag p0), (1, vL Zag p1), (5, vN v1)] [])
def ZrM (v6 : Nat) : Zsx := vw .go <| vz (eqL e2.items) <| br (decide ((v6 : Int) < (e2.items.length : Int))) (vw .go <| ix e2.items v6 fun e7 => vw .go <| ix e3.items v6 fun e8 => vw .go <| ixg (!(!decide (e7.name = e8.name))) e2.items (v6 : Int) fun e9 => vw .go <| ixg (!(!decide (e7.name = e8.name))) e3.items (v6 : Int) fun e10 => vw .go <| ixg (!((!decide (e7.name = e8.name)) || (!decide (e9.num = e10.num)))) e2.items (v6 : Int) fun e11 => vw .go <| ixg (!((!decide (e7.name = e8.name)) || (!decide (e9.num = e10.num)))) e3.items (v6 : Int) fun e12 => clg (!((!decide (e7.name = e8.name)) || (!decide (e9.num = e10.num)))) (ZAd e11.notes e12.notes) fun y13 => br (((!decide (e7.name = e8.name)) || (!decide (e9.num = e10.num))) || (!y13)) (lrt E38 (fun _ => []) false) (vs (wa v6 1) <| ln (Zyb p0 p1 v1 e2 e3) (v6 + 1))) (lxe (ZA1 p0 p1 v1) ())
def Zpi := fun (v6 : Nat) => (ZrM p0 p1 v1 e2 e3 v6).m
def Ztf : Zsx := vs (wa v1 1) <| ln (Zzv p0 p1) (v1 + 1)
def Zrx : Zsx := ix p0 v1 fun e2 => vw .go <| ix p1 v1 fun e3 => vw .go <| vw .go <| vw .go <| vw .go <| vw .go <| vw .go <| vy (!((!decide (e2.name = e3.name)) || (!(e2.opn == e3.opn)))) (eqL e2.items) <| vw .go <| vy (!((!decide (e2.name = e3.name)) || (!(e2.opn == e3.opn)))) (eqL e3.items) <| vw .go <| vw .go <| clg (!(((!decide (e2.name = e3.name)) || (!(e2.opn == e3.opn))) || (!decide ((e2.items.length : Int) = (e3.items.length : Int))))) (ZJj e2.reserved e3.reserved) fun y4 => vw .go <| vw .go <| clg (!((((!decide (e2.name = e3.name)) || (!(e2.opn == e3.opn))) || (!decide ((e2.items.length : Int) = (e3.items.length : Int)))) || (!y4))) (ZAd e2.notes e3.notes) fun y5 => br (((((!decide (e2.name = e3.name)) || (!(e2.opn == e3.opn))) || (!decide ((e2.items.length : Int) = (e3.items.length : Int)))) || (!y4)) || (!y5)) (lrt E38 (fun _ => []) false) (lc (Zyb p0 p1 v1 e2 e3 0) ((Zaj (Zpi p0 p1 v1 e2 e3) big 0).bind (Sum.elim (fun _ => (Ztf p0 p1 v1).m) (fun z => some (.rt z)))))
def ZsJ : Zsx := vz (eqL p0) <| br (decide ((v1 : Int) < (p0.length : Int))) (lc (mkS [(0, vL Zag p0), (1, vL Zag p1), (5, vN v1)] []) ((Zrx p0 p1 v1).m)) (lxe (ZDn) ())
def Zqm := fun (v1 : Nat) => (ZsJ p0 p1 v1).m
def ZzN : PT 0 (Bool) := lr E38 (fun _ => []) true
def Zyx : PT 0 (Bool) := lc (Zzv p0 p1 0) ((Zaj (Zqm p0 p1) big 0).bind (Sum.elim (fun _ => (ZzN).m) some))
def ZxT : PT 0 (Bool) := vz (eqL p0) <| vz (eqL p1) <| br (!decide ((p0.length : Int) = (p1.length : Int))) (lr E38 (fun _ => []) false) (lc (mkS [(0, vL Zag p0), (1, vL Zag p1)] []) ((Zyx p0 p1).m))
def ZaQ (p0 : List Enm) (p1 : List Enm) : Option (Bool) := (ZxT p0 p1).m
section
include co
theorem ZzI : Kl 116 C (pa [0, 0, 1, 1, 1, 1, 0, 0, 1, 0, 0, 1, 0, 1, 1] (Zac Try.f38)) [.tmp 4] 0 (Zyb p0 p1 v1 e2 e3) (ZA1 p0 p1 v1) E38 (fun _ => []) (Zpi p0 p1 v1 e2 e3) := fun v6 _ m Q Post hQ L => en co (ZrM p0 p1 v1 e2 e3 v6) (lf2 [0, 1, 5, 6, 7, 8] [((1, 6), false), ((1, 7), false)]) (lf1 [0, 1, 5]) hQ m L fun r g => ⟨fun e7 e8 e9 e10 e11 e12 y13 => ⟨id, id⟩, id⟩
theorem ZzT : Kl 116 C (pa [0, 0, 1, 0, 1, 1] (Zac Try.f38)) [.tmp 4] 0 (Zzv p0 p1) (ZDn) E38 (fun _ => []) (Zqm p0 p1) := fun v1 _ m Q Post hQ L => mi co 1 (ZsJ p0 p1 v1) (lf1 [0, 1, 5]) nl hQ m L fun r g => ⟨fun _ m L => sq (bk 1 (mi co 4 (Zrx p0 p1 v1) (lf2 [0, 1, 5, 6, 7, 8] [((1, 6), false), ((1, 7), false)]) nl hQ m L fun r g e2 e3 y4 y5 => ⟨id, fun _ m L => bk 2 (lo (lpL (ZzI co p0 p1 v1 e2 e3) hQ m L (fun _ m => en co (Ztf p0 p1 v1) (lf1 [0, 1, 5]) nl hQ m L fun r g => id)))⟩)), id⟩
end
end
theorem ZJW (p0 : List Enm) (p1 : List Enm) : KC tp 38 [vL Zag p0, vL Zag p1] (ZaQ p0 p1) E38 := kc1 Try.func38 Try.ntmps38 tok [.tmp 4] fun C co y m Post L => mi co 2 (ZxT p0 p1) (lf1 [0, 1]) nl ii m L fun r g => ⟨id, fun _ m L => sq (mi co 1 (Zyx p0 p1) (lf1 [0, 1, 5]) nl ii m L fun r g _ m L => bk 0 (lo (lpF (ZzT co p0 p1) ii m L (fun _ m => fo co (ZzN) m L fun r g => id))))⟩
abbrev E39 : Bool → AV := fun y => vB y
section
variable {C : Cx} (co : CO C 0) (p0 p1 : List Svc) (v1 : Nat) (e2 e3 : Svc)
abbrev Zrp := PT 0 (Lv (Nat) (Unit) (Bool))
def Zxg : Nat → St := fun v1 => mkS [(0, vL Zal p0), (1, vL Zal p1), (5, vN v1)] []
def ZGd : Unit → Nat × St := fun _ => (0, mkS [] [])
def ZyT : Nat → St := fun v5 => mkS [(0, vL Zal p0), (1, vL Zal p1), (5, vN v1), (6, .ptr (1, 6) 0 0), (7, .ptr (1, 7) 0 0), (8, vN v5)] [((1, 6), ⟨0, true, 57, 3, [vS e2.name, vL Zd4 e2.methods, vL eNt e2.notes]⟩), ((1, 7), ⟨0, true, 57, 3, [vS e3.name, vL Zd4 e3.methods, vL eNt e3.notes]⟩)]
def ZGg : Unit → Nat × St := fun _ => (2, mkS [(0, vL Zal p0), (1, vL Zal p1), (5, vN v1)] [])
def ZrT (v5 : Nat) : Zrp := vw .go <| vz (eqL e2.methods) <| br (decide ((v5 : Int) < (e2.methods.length : Int))) (vw .go <| ix e2.methods v5 fun e6 => vw .go <| vw .go <| ix e3.methods v5 fun e7 => vw .go <| vw .go <| vw .go <| vw .go <| vw .go <| vw .go <| vw .go <| vw .go <| vw .go <| vw .go <| vw .go <| clg (!((((!decide (e6.name = e7.name)) || (!decide (e6.inn = e7.inn))) || (!decide (e6.out = e7.out))) || (!decide (e6.shape = e7.shape)))) (ZAd e6.notes e7.notes) fun y8 => br (((((!decide (e6.name = e7.name)) || (!decide (e6.inn = e7.inn))) || (!decide (e6.out = e7.out))) || (!decide (e6.shape = e7.shape))) || (!y8)) (lrt E39 (fun _ => []) false) (vs (wa v5 1) <| ln (ZyT p0 p1 v1 e2 e3) (v5 + 1))) (lxe (ZGg p0 p1 v1) ())
def Zqy := fun (v5 : Nat) => (ZrT p0 p1 v1 e2 e3 v5).m
def Zts : Zrp := vs (wa v1 1) <| ln (Zxg p0 p1) (v1 + 1)
def ZsT : Zrp := ix p0 v1 fun e2 => vw .go <| ix p1 v1 fun e3 => vw .go <| vw .go <| vw .go <| vw .go <| vy (!(!decide (e2.name = e3.name))) (eqL e2.methods) <| vw .go <| vy (!(!decide (e2.name = e3.name))) (eqL e3.methods) <| vw .go <| vw .go <| clg (!((!decide (e2.name = e3.name)) || (!decide ((e2.methods.length : Int) = (e3.methods.length : Int))))) (ZAd e2.notes e3.notes) fun y4 => br (((!decide (e2.name = e3.name)) || (!decide ((e2.methods.length : Int) = (e3.methods.length : Int)))) || (!y4)) (lrt E39 (fun _ => []) false) (lc (ZyT p0 p1 v1 e2 e3 0) ((Zaj (Zqy p0 p1 v1 e2 e3) big 0).bind (Sum.elim (fun _ => (Zts p0 p1 v1).m) (fun z => some (.rt z)))))
def Zrz : Zrp := vz (eqL p0) <| br (decide ((v1 : Int) < (p0.length : Int))) (lc (mkS [(0, vL Zal p0), (1, vL Zal p1), (5, vN v1)] []) ((ZsT p0 p1 v1).m)) (lxe (ZGd) ())
def Zqp := fun (v1 : Nat) => (Zrz p0 p1 v1).m
def Zzo : PT 0 (Bool) := lr E39 (fun _ => []) true
def ZxI : PT 0 (Bool) := lc (Zxg p0 p1 0) ((Zaj (Zqp p0 p1) big 0).bind (Sum.elim (fun _ => (Zzo).m) some))
def Zws : PT 0 (Bool) := vz (eqL p0) <| vz (eqL p1) <| br (!decide ((p0.length : Int) = (p1.length : Int))) (lr E39 (fun _ => []) false) (lc (mkS [(0, vL Zal p0), (1, vL Zal p1)] []) ((ZxI p0 p1).m))
def ZaK (p0 : List Svc) (p1 : List Svc) : Option (Bool) := (Zws p0 p1).m
section
include co
theorem ZxN : Kl 103 C (pa [0, 0, 1, 1, 1, 1, 0, 0, 1, 0, 0, 1, 0, 1, 1] (Zac Try.f39)) [.tmp 4] 0 (ZyT p0 p1 v1 e2 e3) (ZGg p0 p1 v1) E39 (fun _ => []) (Zqy p0 p1 v1 e2 e3) := fun v5 _ m Q Post hQ L => en co (ZrT p0 p1 v1 e2 e3 v5) (lf2 [0, 1, 5, 6, 7, 8] [((1, 6), false), ((1, 7), false)]) (lf1 [0, 1, 5]) hQ m L fun r g => ⟨fun e6 e7 y8 => ⟨id, id⟩, id⟩
theorem Zv6 : Kl 103 C (pa [0, 0, 1, 0, 1, 1] (Zac Try.f39)) [.tmp 4] 0 (Zxg p0 p1) (ZGd) E39 (fun _ => []) (Zqp p0 p1) := fun v1 _ m Q Post hQ L => mi co 1 (Zrz p0 p1 v1) (lf1 [0, 1, 5]) nl hQ m L fun r g => ⟨fun _ m L => sq (bk 1 (mi co 4 (ZsT p0 p1 v1) (lf2 [0, 1, 5, 6, 7, 8] [((1, 6), false), ((1, 7), false)]) nl hQ m L fun r g e2 e3 y4 => ⟨id, fun _ m L => bk 2 (lo (lpL (ZxN co p0 p1 v1 e2 e3) hQ m L (fun _ m => en co (Zts p0 p1 v1) (lf1 [0, 1, 5]) nl hQ m L fun r g => id)))⟩)), id⟩
end
end
theorem ZJ3 (p0 : List Svc) (p1 : List Svc) : KC tp 39 [vL Zal p0, vL Zal p1] (ZaK p0 p1) E39 := kc1 Try.func39 Try.ntmps39 tok [.tmp 4] fun C co y m Post L => mi co 2 (Zws p0 p1) (lf1 [0, 1]) nl ii m L fun r g => ⟨id, fun _ m L => sq (mi co 1 (ZxI p0 p1) (lf1 [0, 1, 5]) nl ii m L fun r g _ m L => bk 0 (lo (lpF (Zv6 co p0 p1) ii m L (fun _ m => fo co (Zzo) m L fun r g => id))))⟩
abbrev E11 : Bool → AV := fun y => vB y
def Zwc (p0 : Scm) (p1 : Scm) : PT 0 (Bool) := vw .go <| vw .go <| cl (ZKc p0.messages p1.messages) fun y1 => vw .go <| vw .go <| clg y1 (ZJW p0.enums p1.enums) fun y2 => vw .go <| vw .go <| clg (y1 && y2) (ZJ3 p0.services p1.services) fun y3 => lr E11 (fun _ => []) ((y1 && y2) && y3)
def Zbf (p0 : Scm) (p1 : Scm) : Option (Bool) := (Zwc p0 p1).m
theorem ZIs (p0 : Scm) (p1 : Scm) : KC tp 11 [.agg ((ZeV p0).map .d), .agg ((ZeV p1).map .d)] (Zbf p0 p1) E11 := kc1 Try.func11 Try.ntmps11 tok [.tmp 4] fun C co y m Post L => fo co (Zwc p0 p1) m L fun r g y1 y2 y3 => id
abbrev E85 : Int → AV := fun y => vI y
def H85 (pf1 : Fil → Option Bool) : Cl := fun no l H θ => (∀ (z0 : Fil) y, pf1 z0 = some y → Ze5 tp l no H (θ 1) [.agg ((Zax z0).map .d)] (vB y))
section
variable {C : Cx} (p0 : List Fil) (pf1 : Fil → Option Bool)
def Zzw : Nat → St := fun v1 => mkS [(0, vL Zax p0), (1, .fn (.yield 1) [] []), (7, vN p0.length), (8, vN v1)] []
def ZBe : Unit → Nat × St := fun _ => (0, mkS [] [])
def ZGi (v1 : Nat) : PT 0 (Lv (Nat) (Unit) (Int)) := br (decide ((v1 : Int) < (p0.length : Int))) (ix p0 v1 fun e2 => cf tp 1 [.agg ((Zax e2).map .d)] (pf1 e2) (fun y => vB y) fun y3 => br y3 (lrt E85 (fun _ => []) (v1 : Int)) (vs (wa v1 1) <| ln (Zzw p0) (v1 + 1))) (lxe (ZBe) ())
def ZCC := fun (v1 : Nat) => (ZGi p0 pf1 v1).m
def ZDx : PT 0 (Int) := lr E85 (fun _ => []) (-1)
def ZCi : PT 0 (Int) := vz (eqL p0) <| lc (Zzw p0 0) ((Zaj (ZCC p0 pf1) big 0).bind (Sum.elim (fun _ => (ZDx).m) some))
def ZFm : PT 0 (Int) := lc (mkS [(0, vL Zax p0), (1, .fn (.yield 1) [] [])] []) ((ZCi p0 pf1).m)
def Zb0 (p0 : List Fil) (pf1 : Fil → Option Bool) : Option (Int) := (ZFm p0 pf1).m
theorem Zxt (co : CO C 0) (hT : (H85 pf1) C.no C.l C.H0 C.θ) : Kl 19 C (pa [0, 0, 1, 0, 1] (Zac Try.f85)) [.tmp 4] 0 (Zzw p0) (ZBe) E85 (fun _ => []) (ZCC p0 pf1) := fun v1 _ m Q Post hQ L => en co (ZGi p0 pf1 v1) (lf1 [0, 1, 7, 8]) nl hQ m L fun r g => ⟨fun e2 => ⟨⟨fun y hy => hT _ y hy, by intro r; kernel_rfl, by intro r y; kernel_rfl⟩, fun y3 => ⟨id, id⟩⟩, id⟩
end
theorem ZIh (p0 : List Fil) (pf1 : Fil → Option Bool) : KO tp 85 0 [vL Zax p0, .fn (.yield 1) [] []] [] (H85 pf1) (Zb0 p0 pf1) E85 (fun _ => []) := ko1 Try.func85 Try.ntmps85 tok [.tmp 4] 0 (fun C co hT y m Post L => mi co 1 (ZFm p0 pf1) (lf1 [0, 1]) nl ii m L fun r g _ m L => sq (mi co 1 (ZCi p0 pf1) (lf1 [0, 1, 7, 8]) nl ii m L fun r g _ m L => bk 0 (lo (lpF (Zxt p0 pf1 co hT) ii m L (fun _ m => fo co (ZDx) m L fun r g => id)))))
abbrev E86 : Bool → AV := fun y => vB y
@[reducible] def G86 (w0 : Bt) : Bool → List Blk := fun y => [⟨0, true, 9, 1, [vS w0]⟩]
def ZEY (p0 : Fil) (w0 : Bt) : PT 1 (Bool) := vw .go <| vw .go <| lr E86 (G86 w0) (decide (p0.name = w0))
def Zci (p0 : Fil) (w0 : Bt) : Option (Bool) := (ZEY p0 w0).m
theorem ZJU (p0 : Fil) (w0 : Bt) : KO tp 86 1 [.agg ((Zax p0).map .d), .ptr (0, 0) 0 0] [⟨0, true, 9, 1, [vS w0]⟩] (fun _ _ _ _ => True) (Zci p0 w0) E86 (G86 w0) := ko1 Try.func86 Try.ntmps86 tok [.tmp 3] 1 (fun C co hT y m Post L => fo co (ZEY p0 w0) m L fun r g => id) (hB := fun y => ⟨.inr (by kernel_rfl), rfl, trivial⟩)
abbrev E51 : Int → AV := fun y => vI y
def ZEP (p0 : List Fil) (p1 : Bt) : PT 0 (Int) := cs tp 85 [vL Zax p0, .fn (.func 86) [] [.ptr (1, 3) 1 0]] [(1, 3)] [((1, 3), ⟨1, true, 9, 1, [vS p1]⟩)] (Zb0 p0 (fun (z0 : Fil) => Zci z0 p1)) (fun y => vI y) fun y1 => lr E51 (fun _ => []) y1
def Zhi (p0 : List Fil) (p1 : Bt) : Option (Int) := (ZEP p0 p1).m
theorem ZAi (p0 : List Fil) (p1 : Bt) : KC tp 51 [vL Zax p0, vS p1] (Zhi p0 p1) E51 := kc1 Try.func51 Try.ntmps51 tok [.tmp 4] fun C co y m Post L => fo co (ZEP p0 p1) m L fun r g => ⟨fun y hy => ZaB (ZIh p0 (fun (z0 : Fil) => Zci z0 p1)) hy co g [] [((1, 3), ⟨1, true, 9, 1, [vS p1]⟩)] (lkS [(1, .fn (.func 86) [] [.ptr (r.κ (1, 3)) (r.γ (1, 3) + 1) 0])]) (fun H' hg ho => (fun z0 y hz => Zfh (ZJU z0 p1) hz co g [((1, 3), ⟨1, true, 9, 1, [vS p1]⟩)] [] hg (by simp) (fun _ => .top) (fun _ _ => trivial) (fun l H => ⟨fun _ => ⟨rfl, by kernel_rfl⟩, by kernel_rfl, trivial⟩))) (fun H => trivial), fun y1 => id⟩
abbrev ZGx : Int → AV := fun y => vI y
def ZI5 (pf1 : Bt → Option Bool) : Cl := fun no l H θ => (∀ (z0 : Bt) y, pf1 z0 = some y → Ze5 tp l no H (θ 1) [vS z0] (vB y))
section
variable {C : Cx} (p0 : List Bt) (pf1 : Bt → Option Bool)
def ZpR : Nat → St := fun v1 => mkS [(0, vL Zah p0), (1, .fn (.yield 1) [] []), (7, vN p0.length), (8, vN v1)] []
def ZuN : Unit → Nat × St := fun _ => (0, mkS [] [])
def Zvf (v1 : Nat) : PT 0 (Lv (Nat) (Unit) (Int)) := br (decide ((v1 : Int) < (p0.length : Int))) (ix p0 v1 fun e2 => cf tp 1 [vS e2] (pf1 e2) (fun y => vB y) fun y3 => br y3 (lrt ZGx (fun _ => []) (v1 : Int)) (vs (wa v1 1) <| ln (ZpR p0) (v1 + 1))) (lxe (ZuN) ())
def Zuq := fun (v1 : Nat) => (Zvf p0 pf1 v1).m
def Zvd : PT 0 (Int) := lr ZGx (fun _ => []) (-1)
def ZuZ : PT 0 (Int) := vz (eqL p0) <| lc (ZpR p0 0) ((Zaj (Zuq p0 pf1) big 0).bind (Sum.elim (fun _ => (Zvd).m) some))
def Zuz : PT 0 (Int) := lc (mkS [(0, vL Zah p0), (1, .fn (.yield 1) [] [])] []) ((ZuZ p0 pf1).m)
def Zco (p0 : List Bt) (pf1 : Bt → Option Bool) : Option (Int) := (Zuz p0 pf1).m
theorem Zuj (co : CO C 0) (hT : (ZI5 pf1) C.no C.l C.H0 C.θ) : Kl 19 C (pa [0, 0, 1, 0, 1] (Zac Try.f117)) [.tmp 4] 0 (ZpR p0) (ZuN) ZGx (fun _ => []) (Zuq p0 pf1) := fun v1 _ m Q Post hQ L => en co (Zvf p0 pf1 v1) (lf1 [0, 1, 7, 8]) nl hQ m L fun r g => ⟨fun e2 => ⟨⟨fun y hy => hT _ y hy, by intro r; kernel_rfl, by intro r y; kernel_rfl⟩, fun y3 => ⟨id, id⟩⟩, id⟩
end
theorem ZHD (p0 : List Bt) (pf1 : Bt → Option Bool) : KO tp 117 0 [vL Zah p0, .fn (.yield 1) [] []] [] (ZI5 pf1) (Zco p0 pf1) ZGx (fun _ => []) := ko1 Try.func117 Try.ntmps117 tok [.tmp 4] 0 (fun C co hT y m Post L => mi co 1 (Zuz p0 pf1) (lf1 [0, 1]) nl ii m L fun r g _ m L => sq (mi co 1 (ZuZ p0 pf1) (lf1 [0, 1, 7, 8]) nl ii m L fun r g _ m L => bk 0 (lo (lpF (Zuj p0 pf1 co hT) ii m L (fun _ m => fo co (Zvd) m L fun r g => id)))))
abbrev E89 : Bool → AV := fun y => vB y
def H89 (pf1 : Bt → Option Bool) : Cl := fun no l H θ => (∀ (z0 : Bt) y, pf1 z0 = some y → Ze5 tp l no H (θ 1) [vS z0] (vB y))
def ZCD (p0 : List Bt) (pf1 : Bt → Option Bool) : PT 0 (Bool) := cs tp 117 [vL Zah p0, .fn (.yield 1) [] []] [] [] (Zco p0 pf1) (fun y => vI y) fun y1 => lr E89 (fun _ => []) (decide ((0 : Int) ≤ y1))
def ZbX (p0 : List Bt) (pf1 : Bt → Option Bool) : Option (Bool) := (ZCD p0 pf1).m
theorem ZJR (p0 : List Bt) (pf1 : Bt → Option Bool) : KO tp 89 0 [vL Zah p0, .fn (.yield 1) [] []] [] (H89 pf1) (ZbX p0 pf1) E89 (fun _ => []) := ko1 Try.func89 Try.ntmps89 tok [.tmp 4] 0 (fun C co hT y m Post L => fo co (ZCD p0 pf1) m L fun r g => ⟨fun y hy => ZaB (ZHD p0 pf1) hy co g [] [] (lkS [(1, r.θ 1)]) (fun H' hg ho => (fun z0 y hz => ZaF co g [] ho (hT z0 y hz))) (fun H => trivial), fun y1 => id⟩)
abbrev ZlV : Int → AV := fun y => vI y
@[reducible] def ZlC (p0 : List Int) : Int → List Blk := fun y => [⟨0, true, 3, 1, Zaa Zdh p0⟩]
def Zmc (p0 : List Int) (p1 : Int) : Nat → St := fun v1 => mkS [(0, .ref (0, 0) 0 0 p0.length), (1, vI p1), (7, vN p0.length), (8, vN v1)] [((0, 0), ⟨0, true, 3, 1, Zaa Zdh p0⟩)]
def ZlU (p0 : List Int) : Unit → Nat × St := fun _ => (0, mkS [] [((0, 0), ⟨0, true, 3, 1, Zaa Zdh p0⟩)])
def Zl1 (p0 : List Int) (p1 : Int) (v1 : Nat) : PT 1 (Lv (Nat) (Unit) (Int)) := br (decide ((v1 : Int) < (p0.length : Int))) (vs (ir v1 p0.length 1) <| ca p0 v1 fun e2 => br (decide (p1 = e2)) (lrt ZlV (ZlC p0) (v1 : Int)) (vs (wa v1 1) <| vz (fl p0) <| ln (Zmc p0 p1) (v1 + 1))) (vz (fl p0) <| lxe (ZlU p0) ())
def Zlo (p0 : List Int) (p1 : Int) := fun (v1 : Nat) => (Zl1 p0 p1 v1).m
def Zmu (p0 : List Int) : PT 1 (Int) := lr ZlV (ZlC p0) (-1)
def ZkA (p0 : List Int) (p1 : Int) : PT 1 (Int) := vz (eqN p0.length) <| vz (fl p0) <| lc (mkS [(0, .ref (0, 0) 0 0 p0.length), (1, vI p1), (7, vN p0.length), (8, vI 0)] [((0, 0), ⟨0, true, 3, 1, Zaa Zdh p0⟩)]) ((Zaj (Zlo p0 p1) big 0).bind (Sum.elim (fun _ => (Zmu p0).m) some))
def Zmn (p0 : List Int) (p1 : Int) : PT 1 (Int) := vz (fl p0) <| lc (mkS [(0, .ref (0, 0) 0 0 p0.length), (1, vI p1)] [((0, 0), ⟨0, true, 3, 1, Zaa Zdh p0⟩)]) ((ZkA p0 p1).m)
def ZdR (p0 : List Int) (p1 : Int) : Option (Int) := (Zmn p0 p1).m
theorem ZmN {C : Cx} (co : CO C 1) (p0 : List Int) (p1 : Int) : Kl 19 C (pa [0, 0, 1, 0, 1] (Zac Try.f116)) [.tmp 4] 1 (Zmc p0 p1) (ZlU p0) ZlV (ZlC p0) (Zlo p0 p1) := fun v1 _ m Q Post hQ L => en co (Zl1 p0 p1 v1) (lf2 [0, 1, 7, 8] [((0, 0), true)]) (lf2 [] [((0, 0), true)]) hQ m L fun r g => ⟨fun e2 => ⟨id, id⟩, id⟩
theorem ZwI (p0 : List Int) (p1 : Int) : KO tp 116 1 [.ref (0, 0) 0 0 p0.length, vI p1] [⟨0, true, 3, 1, Zaa Zdh p0⟩] (fun _ _ _ _ => True) (ZdR p0 p1) ZlV (ZlC p0) := ko1 Try.func116 Try.ntmps116 tok [.tmp 4] 1 (fun C co hT y m Post L => mi co 1 (Zmn p0 p1) (lf2 [0, 1] [((0, 0), true)]) nl ii m L fun r g _ m L => sq (mi co 1 (ZkA p0 p1) (lf2 [0, 1, 7, 8] [((0, 0), true)]) nl ii m L fun r g _ m L => bk 0 (lo (lpF (ZmN co p0 p1) ii m L (fun _ m => fo co (Zmu p0) m L fun r g => id))))) (hB := fun y => ⟨.inl (Zai _ _), rfl, trivial⟩)
abbrev ZEQ : Bool → AV := fun y => vB y
@[reducible] def ZGe (p0 : List Int) : Bool → List Blk := fun y => [⟨0, true, 3, 1, Zaa Zdh p0⟩]
def ZpB (p0 : List Int) (p1 : Int) : PT 1 (Bool) := cs tp 116 [.ref (0, 0) 0 0 p0.length, vI p1] [(0, 0)] [((0, 0), ⟨0, true, 3, 1, Zaa Zdh p0⟩)] (ZdR p0 p1) (fun y => vI y) fun y1 => lr ZEQ (ZGe p0) (decide ((0 : Int) ≤ y1))
def ZbY (p0 : List Int) (p1 : Int) : Option (Bool) := (ZpB p0 p1).m
theorem ZuV (p0 : List Int) (p1 : Int) : KO tp 88 1 [.ref (0, 0) 0 0 p0.length, vI p1] [⟨0, true, 3, 1, Zaa Zdh p0⟩] (fun _ _ _ _ => True) (ZbY p0 p1) ZEQ (ZGe p0) := ko1 Try.func88 Try.ntmps88 tok [.tmp 4] 1 (fun C co hT y m Post L => fo co (ZpB p0 p1) m L fun r g => ⟨fun y hy => ZaB (ZwI p0 p1) hy co g [((0, 0), ⟨0, true, 3, 1, Zaa Zdh p0⟩)] [] (lkS []) (fun H' hg ho => trivial) (fun H => ⟨fun _ => ⟨rfl, bz⟩, by kernel_rfl, trivial⟩), fun y1 => id⟩) (hB := fun y => ⟨.inl (Zai _ _), rfl, trivial⟩)
abbrev ZGr : Bool → AV := fun y => vB y
@[reducible] def ZDm (w0 : List Int) (w1 : List Fil) : Bool → List Blk := fun y => [⟨0, true, 62, 1, [.ref (0, 2) 0 0 w0.length]⟩, ⟨0, true, 22, 1, [vL Zax w1]⟩, ⟨0, true, 3, 1, Zaa Zdh w0⟩]
def Zoy (p0 : Bt) (w0 : List Int) (w1 : List Fil) : PT 3 (Bool) := vw .go <| vw .go <| cl (ZAi w1 p0) fun y1 => cs tp 88 [.ref (0, 2) 0 0 w0.length, vI y1] [(0, 2)] [((0, 2), ⟨0, true, 3, 1, Zaa Zdh w0⟩)] (ZbY w0 y1) (fun y => vB y) fun y2 => lr ZGr (ZDm w0 w1) (!y2)
def Zbu (p0 : Bt) (w0 : List Int) (w1 : List Fil) : Option (Bool) := (Zoy p0 w0 w1).m
theorem ZCI (p0 : Bt) (w0 : List Int) (w1 : List Fil) : KO tp 90 3 [vS p0, .ptr (0, 0) 0 0, .ptr (0, 1) 0 0] [⟨0, true, 62, 1, [.ref (0, 2) 0 0 w0.length]⟩, ⟨0, true, 22, 1, [vL Zax w1]⟩, ⟨0, true, 3, 1, Zaa Zdh w0⟩] (fun _ _ _ _ => True) (Zbu p0 w0 w1) ZGr (ZDm w0 w1) := ko1 Try.func90 Try.ntmps90 tok [.tmp 4] 3 (fun C co hT y m Post L => fo co (Zoy p0 w0 w1) m L fun r g y1 => ⟨fun y hy => ZaB (ZuV w0 y1) hy co g [((0, 2), ⟨0, true, 3, 1, Zaa Zdh w0⟩)] [] (lkS []) (fun H' hg ho => trivial) (fun H => ⟨fun _ => ⟨rfl, bz⟩, by kernel_rfl, trivial⟩), fun y2 => id⟩) (hB := fun y => ⟨.inr (by kernel_rfl), rfl, ⟨.inr (by kernel_rfl), rfl, ⟨.inl (Zai _ _), rfl, trivial⟩⟩⟩)
abbrev ZyR : Bool → AV := fun y => vB y
@[reducible] def Zyz (w0 : List Int) (w1 : List Fil) : Bool → List Blk := fun y => [⟨0, true, 62, 1, [.ref (0, 2) 0 0 w0.length]⟩, ⟨0, true, 22, 1, [vL Zax w1]⟩, ⟨0, true, 3, 1, Zaa Zdh w0⟩]
def Zon (p0 : Fil) (w0 : List Int) (w1 : List Fil) : PT 3 (Bool) := vw .go <| vw .go <| vw .go <| cl (ZAi w1 p0.name) fun y1 => cs tp 88 [.ref (0, 2) 0 0 w0.length, vI y1] [(0, 2)] [((0, 2), ⟨0, true, 3, 1, Zaa Zdh w0⟩)] (ZbY w0 y1) (fun y => vB y) fun y2 => br y2 (lr ZyR (Zyz w0 w1) false) (vw .go <| cs tp 89 [vL Zah p0.imports, .fn (.func 90) [] [.ptr (0, 0) 0 0, .ptr (0, 1) 0 0]] [(0, 0), (0, 1), (0, 2)] [((0, 0), ⟨0, true, 62, 1, [.ref (0, 2) 0 0 w0.length]⟩), ((0, 1), ⟨0, true, 22, 1, [vL Zax w1]⟩), ((0, 2), ⟨0, true, 3, 1, Zaa Zdh w0⟩)] (ZbX p0.imports (fun (z0 : Bt) => Zbu z0 w0 w1)) (fun y => vB y) fun y3 => lr ZyR (Zyz w0 w1) (!y3))
def ZbO (p0 : Fil) (w0 : List Int) (w1 : List Fil) : Option (Bool) := (Zon p0 w0 w1).m
theorem ZDV (p0 : Fil) (w0 : List Int) (w1 : List Fil) : KO tp 87 3 [.agg ((Zax p0).map .d), .ptr (0, 0) 0 0, .ptr (0, 1) 0 0] [⟨0, true, 62, 1, [.ref (0, 2) 0 0 w0.length]⟩, ⟨0, true, 22, 1, [vL Zax w1]⟩, ⟨0, true, 3, 1, Zaa Zdh w0⟩] (fun _ _ _ _ => True) (ZbO p0 w0 w1) ZyR (Zyz w0 w1) := ko1 Try.func87 Try.ntmps87 tok [.tmp 4] 3 (fun C co hT y m Post L => fo co (Zon p0 w0 w1) m L fun r g y1 => ⟨fun y hy => ZaB (ZuV w0 y1) hy co g [((0, 2), ⟨0, true, 3, 1, Zaa Zdh w0⟩)] [] (lkS []) (fun H' hg ho => trivial) (fun H => ⟨fun _ => ⟨rfl, bz⟩, by kernel_rfl, trivial⟩), fun y2 => ⟨id, ⟨fun y hy => ZaB (ZJR p0.imports (fun (z0 : Bt) => Zbu z0 w0 w1)) hy co g [] [((0, 0), ⟨0, true, 62, 1, [.ref (0, 2) 0 0 w0.length]⟩), ((0, 1), ⟨0, true, 22, 1, [vL Zax w1]⟩), ((0, 2), ⟨0, true, 3, 1, Zaa Zdh w0⟩)] (lkS [(1, .fn (.func 90) [] [.ptr (r.κ (0, 0)) (r.γ (0, 0) + 0) 0, .ptr (r.κ (0, 1)) (r.γ (0, 1) + 0) 0])]) (fun H' hg ho => (fun z0 y hz => Zfh (ZCI z0 w0 w1) hz co g [((0, 0), ⟨0, true, 62, 1, [.ref (0, 2) 0 0 w0.length]⟩), ((0, 1), ⟨0, true, 22, 1, [vL Zax w1]⟩), ((0, 2), ⟨0, true, 3, 1, Zaa Zdh w0⟩)] [] hg (by simp) (fun _ => .top) (fun _ _ => trivial) (fun l H => ⟨fun _ => ⟨rfl, by kernel_rfl⟩, by kernel_rfl, ⟨fun _ => ⟨rfl, by kernel_rfl⟩, by kernel_rfl, ⟨fun _ => ⟨rfl, bz⟩, by kernel_rfl, trivial⟩⟩⟩))) (fun H => trivial), fun y3 => id⟩⟩⟩) (hB := fun y => ⟨.inr (by kernel_rfl), rfl, ⟨.inr (by kernel_rfl), rfl, ⟨.inl (Zai _ _), rfl, trivial⟩⟩⟩)
abbrev E52 : List Int → AV := fun y => vL Zdh y
section
variable {C : Cx} (p0 : List Fil)
def Zw3 : List Int → St := fun r1 => mkS [(1, .ptr (1, 1) 0 0), (3, .ptr (1, 3) 0 0)] [((1, 1), ⟨0, true, 22, 1, [vL Zax p0]⟩), ((1, 3), ⟨0, true, 62, 1, [.ref (1, 1030) 0 0 r1.length]⟩), ((1, 1030), ⟨0, true, 3, 1, Zaa Zdh r1⟩)]
def ZBG : List Int → Nat × St := fun r3 => (0, mkS [(3, .ptr (1, 3) 0 0)] [((1, 3), ⟨0, true, 62, 1, [.ref (1, 1030) 0 0 r3.length]⟩), ((1, 1030), ⟨0, true, 3, 1, Zaa Zdh r3⟩)])
def ZAX (r1 : List Int) : PT 0 (Lv (List Int) (List Int) (List Int)) := vw .go <| vz (eqN r1.length) <| vw .go <| vz (eqL p0) <| br (decide ((r1.length : Int) < (p0.length : Int))) (vw .go <| cs tp 85 [vL Zax p0, .fn (.func 87) [] [.ptr (1, 3) 0 0, .ptr (1, 1) 0 0]] [(1, 3), (1, 1), (1, 1030)] [((1, 3), ⟨0, true, 62, 1, [.ref (1, 1030) 0 0 r1.length]⟩), ((1, 1), ⟨0, true, 22, 1, [vL Zax p0]⟩), ((1, 1030), ⟨0, true, 3, 1, Zaa Zdh r1⟩)] (Zb0 p0 (fun (z0 : Fil) => ZbO z0 r1 p0)) (fun y => vI y) fun y2 => br (decide (y2 < (0 : Int))) (vw .go <| vz (fr r1) <| lrt E52 (fun _ => []) r1) (vw .go <| vw .sep <| ap r1 (y2 : Int) <| vw .go <| vz (fl (r1 ++ [y2])) <| ln (Zw3 p0) (r1 ++ [y2]))) (vz (fl r1) <| lxe (ZBG) r1)
def ZBP := fun (r1 : List Int) => (ZAX p0 r1).m
def ZFR (r3 : List Int) : PT 0 (List Int) := vw .go <| vz (fr r3) <| lr E52 (fun _ => []) r3
def ZF7 : PT 0 (List Int) := vw (.adc (1, 3) 0 1030 3 1) <| vz (fl ([] : List Int)) <| lc (Zw3 p0 ([] : List Int)) ((Zaj (ZBP p0) big ([] : List Int)).bind (Sum.elim (fun r3 => (ZFR r3).m) some))
def ZF9 : PT 0 (List Int) := lc (mkS [(1, .ptr (1, 1) 0 0), (3, .ptr (1, 3) 0 0)] [((1, 1), ⟨0, true, 22, 1, [vL Zax p0]⟩), ((1, 3), ⟨0, true, 62, 1, [.e0]⟩)]) ((ZF7 p0).m)
def ZhL (p0 : List Fil) : Option (List Int) := (ZF9 p0).m
theorem Zz4 (co : CO C 0) : Kl 21 C (pa [0, 0, 0, 1, 1] (Zac Try.f52)) [.tmp 2] 0 (Zw3 p0) (ZBG) E52 (fun _ => []) (ZBP p0) := fun r1 _ m Q Post hQ L => en co (ZAX p0 r1) (lf2 [1, 3] [((1, 1), false), ((1, 3), false), ((1, 1030), true)]) (lf2 [3] [((1, 3), false), ((1, 1030), true)]) hQ m L fun r g => ⟨⟨fun y hy => ZaB (ZIh p0 (fun (z0 : Fil) => ZbO z0 r1 p0)) hy co g [] [((1, 3), ⟨0, true, 62, 1, [.ref (1, 1030) 0 0 r1.length]⟩), ((1, 1), ⟨0, true, 22, 1, [vL Zax p0]⟩), ((1, 1030), ⟨0, true, 3, 1, Zaa Zdh r1⟩)] (lkS [(1, .fn (.func 87) [] [.ptr (r.κ (1, 3)) (r.γ (1, 3) + 0) 0, .ptr (r.κ (1, 1)) (r.γ (1, 1) + 0) 0])]) (fun H' hg ho => (fun z0 y hz => Zfh (ZDV z0 r1 p0) hz co g [((1, 3), ⟨0, true, 62, 1, [.ref (1, 1030) 0 0 r1.length]⟩), ((1, 1), ⟨0, true, 22, 1, [vL Zax p0]⟩), ((1, 1030), ⟨0, true, 3, 1, Zaa Zdh r1⟩)] [] hg (by simp) (fun _ => .top) (fun _ _ => trivial) (fun l H => ⟨fun _ => ⟨rfl, by kernel_rfl⟩, by kernel_rfl, ⟨fun _ => ⟨rfl, by kernel_rfl⟩, by kernel_rfl, ⟨fun _ => ⟨rfl, bz⟩, by kernel_rfl, trivial⟩⟩⟩))) (fun H => trivial), fun y2 => ⟨id, id⟩⟩, id⟩
end
theorem ZKp (p0 : List Fil) : KC tp 52 [vL Zax p0] (ZhL p0) E52 := kc1 Try.func52 Try.ntmps52 tok [.tmp 2] fun C co y m Post L => mi co 2 (ZF9 p0) (lf2 [1, 3] [((1, 1), false), ((1, 3), false)]) nl ii m L fun r g _ m L => sq (bk 0 (Zi4 co (ZF7 p0) (lf2 [1, 3] [((1, 1), false), ((1, 3), false), ((1, 1030), true)]) m L fun r g _ m L => lo (lpF (Zz4 p0 co) ii m L (fun r3 m => fo co (ZFR r3) m L fun r g => id))))
abbrev E53 : Bool → AV := fun y => vB y
section
variable {C : Cx} (co : CO C 0) (p0 : List Fil) (p1 : Int) (e4 : Fil) (r1 : List Int) (r2 : List Bool)
abbrev ZD0 := PT 0 (Lv (List Int × List Bool) (Unit) (Bool))
abbrev Zr6 : List (Key × Bool) := [((1, 13), true), ((1, 15), true)]
abbrev ZDD : List (Key × Blk) := [((1, 13), ⟨0, true, 4, 1, Zaa ZAg r2⟩), ((1, 15), ⟨0, true, 3, 1, Zaa Zdh r1⟩)]
abbrev ZEd : List (Nat × AV) := [(0, vL Zax p0), (1, vI p1), (5, .ref (1, 13) 0 0 r2.length), (6, .ref (1, 15) 0 0 r1.length)]
def ZAy : List Int × List Bool → St := fun (r1, r2) => mkS (ZEd p0 p1 r1 r2) (ZDD r1 r2)
def ZEs : Unit → Nat × St := fun _ => (0, mkS [] [])
def ZrP : List Int × Nat × List Bool → St := fun (r5, v6, r7) => mkS [(0, vL Zax p0), (1, vI p1), (5, .ref (1, 13) 0 0 r7.length), (6, .ref (1, 15) 0 0 r5.length), (28, vL Zah e4.imports), (29, vN e4.imports.length), (30, vN v6)] [((1, 13), ⟨0, true, 4, 1, Zaa ZAg r7⟩), ((1, 15), ⟨0, true, 3, 1, Zaa Zdh r5⟩)]
def ZCH : List Bool × List Int → Nat × St := fun (r11, r12) => (2, mkS [(0, vL Zax p0), (1, vI p1), (5, .ref (1, 13) 0 0 r11.length), (6, .ref (1, 15) 0 0 r12.length)] [((1, 13), ⟨0, true, 4, 1, Zaa ZAg r11⟩), ((1, 15), ⟨0, true, 3, 1, Zaa Zdh r12⟩)])
def ZE3 (r5 : List Int) (v6 : Nat) (r7 : List Bool) : PT 0 (Lv (List Int × Nat × List Bool) (List Bool × List Int) (Bool)) := br (decide ((v6 : Int) < (e4.imports.length : Int))) (ix e4.imports v6 fun e8 => cl (ZAi p0 e8) fun y9 => br (decide (y9 = p1)) (lrt E53 (fun _ => []) true) (vs (iri y9 r7.length 1) <| ca r7 y9.toNat fun e10 => br (!e10) (vs (iri y9 r7.length 1) <| vs (st r7 y9.toNat true) <| rn 5 13 r7.length (r7.set y9.toNat true) <| vw .sep <| vw .sep <| ap r5 (y9 : Int) <| vs (wa v6 1) <| vz (fl (r7.set y9.toNat true)) <| vz (fl (r5 ++ [y9])) <| ln (ZrP p0 p1 e4) (r5 ++ [y9], v6 + 1, r7.set y9.toNat true)) (vs (wa v6 1) <| vz (fl r7) <| vz (fl r5) <| ln (ZrP p0 p1 e4) (r5, v6 + 1, r7)))) (vz (fl r7) <| vz (fl r5) <| lxe (ZCH p0 p1) (r7, r5))
def ZDv := fun ((r5, v6, r7) : List Int × Nat × List Bool) => (ZE3 p0 p1 e4 r5 v6 r7).m
def ZDU : ZD0 := vs (ir 0 r1.length 1) <| ca r1 0 fun e3 => ixi p0 e3 fun e4 => vw .go <| sR r1.length 0 (.nt 1) .no <| rb 6 15 (r1.length - 1) r1 (0 + 1) <| vw .sep <| vw .go <| vz (eqL e4.imports) <| vz (fl r2) <| vz (fl (r1.drop (0 + 1))) <| lc (ZrP p0 p1 e4 (r1.drop (0 + 1), 0, r2)) ((Zaj (ZDv p0 p1 e4) big (r1.drop (0 + 1), 0, r2)).bind (Sum.elim (fun (r11, r12) => some (.nx (r12, r11))) (fun z => some (.rt z))))
def ZAG : ZD0 := vz (eqN r1.length) <| br (decide ((0 : Int) < (r1.length : Int))) (vz (fl r2) <| vz (fl r1) <| lc (mkS (ZEd p0 p1 r1 r2) (ZDD r1 r2)) ((ZDU p0 p1 r1 r2).m)) (lxe (ZEs) ())
def ZEy := fun ((r1, r2) : List Int × List Bool) => (ZAG p0 p1 r1 r2).m
def ZAt : PT 0 (Bool) := lr E53 (fun _ => []) false
def ZEn : PT 0 (Bool) := vz (eqL p0) <| ms p0.length false [vB false] (by first | rfl | kernel_rfl) <| vw .go <| vz (fl (List.replicate p0.length false)) <| vz (fl ([p1] : List Int)) <| lc (ZAy p0 p1 (([p1] : List Int), List.replicate p0.length false)) ((Zaj (ZEy p0 p1) big (([p1] : List Int), List.replicate p0.length false)).bind (Sum.elim (fun _ => (ZAt).m) some))
def ZfU (p0 : List Fil) (p1 : Int) : Option (Bool) := (ZEn p0 p1).m
section
include co
theorem ZzR : Kl 53 C (pa [0, 0, 1, 1, 1, 0, 1, 0, 0, 0, 1, 1, 1] (Zac Try.f53)) [.tmp 4] 0 (ZrP p0 p1 e4) (ZCH p0 p1) E53 (fun _ => []) (ZDv p0 p1 e4) := fun (r5, v6, r7) _ m Q Post hQ L => en co (ZE3 p0 p1 e4 r5 v6 r7) (lf2 [0, 1, 5, 6, 28, 29, 30] Zr6) (lf2 [0, 1, 5, 6] Zr6) hQ m L fun r g => ⟨fun e8 y9 => ⟨id, fun e10 => ⟨id, id⟩⟩, id⟩
theorem ZyN : Kl 53 C (pa [0, 0, 0, 1, 1, 1] (Zac Try.f53)) [.tmp 4] 0 (ZAy p0 p1) (ZEs) E53 (fun _ => []) (ZEy p0 p1) := fun (r1, r2) _ m Q Post hQ L => mi co 1 (ZAG p0 p1 r1 r2) (lf2 [0, 1, 5, 6] Zr6) nl hQ m L fun r g => ⟨fun _ m L => bk 1 (mi co 3 (ZDU p0 p1 r1 r2) (lf2 [0, 1, 5, 6, 28, 29, 30] Zr6) nl hQ m L fun r g e3 e4 _ m L => bk 2 (lo (lpL (ZzR co p0 p1 e4) hQ m L (fun (r11, r12) m => by cases m; exact L)))), id⟩
end
end
theorem ZJB (p0 : List Fil) (p1 : Int) : KC tp 53 [vL Zax p0, vI p1] (ZfU p0 p1) E53 := kc1 Try.func53 Try.ntmps53 tok [.tmp 4] fun C co y m Post L => mi co 3 (ZEn p0 p1) (lf2 [0, 1, 5, 6] [((1, 13), true), ((1, 15), true)]) nl ii m L fun r g _ m L => sq (bk 0 (lo (lpF (ZyN co p0 p1) ii m L (fun _ m => fo co (ZAt) m L fun r g => id))))
abbrev E22 : List Int × Bt × Int → AV := fun y => .tup [vL Zdh y.1, vS y.2.1, vI y.2.2]
section
variable {C : Cx} (co : CO C 0) (p0 : List Fil) (v4 : Nat) (e5 : Fil)
abbrev ZnW := PT 0 (Lv (Nat) (Unit) (List Int × Bt × Int))
abbrev ZnB := PT 0 (List Int × Bt × Int)
abbrev Zya : List (Nat × AV) := [(0, vL Zax p0), (38, vL Zax p0), (39, vN p0.length), (40, vN v4)]
def Zwl : Nat → St := fun v1 => mkS [(0, vL Zax p0), (22, vL Zax p0), (23, vN p0.length), (24, vN v1)] []
def ZE4 : Unit → Nat × St := fun _ => (0, mkS [(0, vL Zax p0)] [])
def ZGn (v1 : Nat) : ZnW := br (decide ((v1 : Int) < (p0.length : Int))) (ix p0 v1 fun e2 => vw .go <| vw .go <| cl (ZAi p0 e2.name) fun y3 => br (decide (y3 < (v1 : Int))) (vw .go <| lrt E22 (fun _ => []) ([], e2.name, 9)) (vs (wa v1 1) <| ln (Zwl p0) (v1 + 1))) (lxe (ZE4 p0) ())
def ZAZ := fun (v1 : Nat) => (ZGn p0 v1).m
def Zxa : Nat → St := fun v4 => mkS (Zya p0 v4) []
def ZDp : Unit → Nat × St := fun _ => (2, mkS [(0, vL Zax p0)] [])
def ZxM : Nat → St := fun v6 => mkS [(0, vL Zax p0), (8, .ptr (1, 8) 0 0), (38, vL Zax p0), (39, vN p0.length), (40, vN v4), (45, vL Zah e5.imports), (46, vN e5.imports.length), (47, vN v6)] [((1, 8), ⟨0, true, 61, 6, [vS e5.name, vS e5.space, vL Zah e5.imports, vL Zak e5.messages, vL Zag e5.enums, vL Zal e5.services]⟩)]
def ZCe : Unit → Nat × St := fun _ => (4, mkS (Zya p0 v4) [])
def ZCJ (v6 : Nat) : ZnW := br (decide ((v6 : Int) < (e5.imports.length : Int))) (ix e5.imports v6 fun e7 => cl (ZAi p0 e7) fun y8 => br (decide (y8 < (0 : Int))) (vw .go <| lrt E22 (fun _ => []) ([], e5.name, 10)) (vs (wa v6 1) <| ln (ZxM p0 v4 e5) (v6 + 1))) (lxe (ZCe p0 v4) ())
def ZFT := fun (v6 : Nat) => (ZCJ p0 v4 e5 v6).m
def ZCE : ZnW := vs (wa v4 1) <| ln (Zxa p0) (v4 + 1)
def ZEx : ZnW := ix p0 v4 fun e5 => vw .go <| vw .go <| vz (eqL e5.imports) <| lc (ZxM p0 v4 e5 0) ((Zaj (ZFT p0 v4 e5) big 0).bind (Sum.elim (fun _ => (ZCE p0 v4).m) (fun z => some (.rt z))))
def ZBu : ZnW := br (decide ((v4 : Int) < (p0.length : Int))) (lc (mkS (Zya p0 v4) []) ((ZEx p0 v4).m)) (lxe (ZDp p0) ())
def ZCV := fun (v4 : Nat) => (ZBu p0 v4).m
def Zyn : Nat → St := fun v10 => mkS [(0, vL Zax p0), (67, vL Zax p0), (68, vN p0.length), (69, vN v10)] []
def ZE9 : Unit → Nat × St := fun _ => (6, mkS [] [])
def ZBt (v10 : Nat) : ZnW := br (decide ((v10 : Int) < (p0.length : Int))) (ix p0 v10 fun e11 => vw .go <| cl (ZJB p0 (v10 : Int)) fun y12 => br y12 (vw .go <| lrt E22 (fun _ => []) ([], e11.name, 19)) (vs (wa v10 1) <| ln (Zyn p0) (v10 + 1))) (lxe (ZE9) ())
def ZDG := fun (v10 : Nat) => (ZBt p0 v10).m
def ZCX : ZnB := lr E22 (fun _ => []) ([], ⟨#[]⟩, 19)
def ZBC : ZnB := vz (eqL p0) <| lc (Zyn p0 0) ((Zaj (ZDG p0) big 0).bind (Sum.elim (fun _ => (ZCX).m) some))
def ZBj : ZnB := cl (ZKp p0) fun y9 => vz (eqL y9) <| vz (eqL p0) <| br (decide ((y9.length : Int) = (p0.length : Int))) (lr E22 (fun _ => []) (y9, ⟨#[]⟩, 0)) (lc (mkS [(0, vL Zax p0)] []) ((ZBC p0).m))
def Zur : ZnB := vz (eqL p0) <| lc (Zxa p0 0) ((Zaj (ZCV p0) big 0).bind (Sum.elim (fun _ => (ZBj p0).m) some))
def ZvX : ZnB := vz (eqL p0) <| lc (Zwl p0 0) ((Zaj (ZAZ p0) big 0).bind (Sum.elim (fun _ => (Zur p0).m) some))
def Zvz : ZnB := vz (eqL p0) <| vy (!(decide ((p0.length : Int) < (1 : Int)))) (eqL p0) <| br (decide ((p0.length : Int) < (1 : Int)) || decide ((16 : Int) < (p0.length : Int))) (lr E22 (fun _ => []) ([], ⟨#[]⟩, 3)) (lc (mkS [(0, vL Zax p0)] []) ((ZvX p0).m))
def Zir (p0 : List Fil) : Option (List Int × Bt × Int) := (Zvz p0).m
section
include co
theorem Zzh : Kl 80 C (pa [0, 0, 1, 0, 1, 1] (Zac Try.f22)) [.tmp 2, .tmp 3, .tmp 4] 0 (Zwl p0) (ZE4 p0) E22 (fun _ => []) (ZAZ p0) := fun v1 _ m Q Post hQ L => en co (ZGn p0 v1) (lf1 [0, 22, 23, 24]) (lf1 [0]) hQ m L fun r g => ⟨fun e2 y3 => ⟨id, id⟩, id⟩
theorem Zxc : Kl 80 C (pa [0, 0, 1, 1, 0, 0, 1, 1, 0, 0, 1, 0, 1, 1, 1] (Zac Try.f22)) [.tmp 2, .tmp 3, .tmp 4] 0 (ZxM p0 v4 e5) (ZCe p0 v4) E22 (fun _ => []) (ZFT p0 v4 e5) := fun v6 _ m Q Post hQ L => en co (ZCJ p0 v4 e5 v6) (lf2 [0, 8, 38, 39, 40, 45, 46, 47] [((1, 8), false)]) (lf1 [0, 38, 39, 40]) hQ m L fun r g => ⟨fun e7 y8 => ⟨id, id⟩, id⟩
theorem Zy4 : Kl 80 C (pa [0, 0, 1, 0, 1, 1, 1] (Zac Try.f22)) [.tmp 2, .tmp 3, .tmp 4] 0 (Zxa p0) (ZDp p0) E22 (fun _ => []) (ZCV p0) := fun v4 _ m Q Post hQ L => mi co 2 (ZBu p0 v4) (lf1 [0, 38, 39, 40]) (lf1 [0]) hQ m L fun r g => ⟨fun _ m L => sq (bk 3 (mi co 2 (ZEx p0 v4) (lf2 [0, 8, 38, 39, 40, 45, 46, 47] [((1, 8), false)]) nl hQ m L fun r g e5 _ m L => bk 4 (lo (lpL (Zxc co p0 v4 e5) hQ m L (fun _ m => en co (ZCE p0 v4) (lf1 [0, 38, 39, 40]) nl hQ m L fun r g => id))))), id⟩
theorem Zxd : Kl 80 C (pa [0, 0, 1, 0, 1, 1, 1, 1, 1, 1] (Zac Try.f22)) [.tmp 2, .tmp 3, .tmp 4] 0 (Zyn p0) (ZE9) E22 (fun _ => []) (ZDG p0) := fun v10 _ m Q Post hQ L => en co (ZBt p0 v10) (lf1 [0, 67, 68, 69]) nl hQ m L fun r g => ⟨fun e11 y12 => ⟨id, id⟩, id⟩
end
end
theorem ZKz (p0 : List Fil) : KC tp 22 [vL Zax p0] (Zir p0) E22 := kc1 Try.func22 Try.ntmps22 tok [.tmp 2, .tmp 3, .tmp 4] fun C co y m Post L => mi co 2 (Zvz p0) (lf1 [0]) nl ii m L fun r g => ⟨id, fun _ m L => sq (mi co 1 (ZvX p0) (lf1 [0, 22, 23, 24]) nl ii m L fun r g _ m L => bk 0 (lo (lpF (Zzh co p0) ii m L (fun _ m => sq (mi co 1 (Zur p0) (lf1 [0, 38, 39, 40]) nl ii m L fun r g _ m L => bk 2 (lo (lpF (Zy4 co p0) ii m L (fun _ m => mi co 2 (ZBj p0) (lf1 [0]) nl ii m L fun r g y9 => ⟨id, fun _ m L => sq (mi co 1 (ZBC p0) (lf1 [0, 67, 68, 69]) nl ii m L fun r g _ m L => bk 6 (lo (lpF (Zxd co p0) ii m L (fun _ m => fo co (ZCX) m L fun r g => id))))⟩))))))))⟩
abbrev E25 : Bt → AV := fun y => vS y
def ZBH (p0 : Bt) (p1 : Bt) : PT 0 (Bt) := br (decide (p0 = (⟨#[]⟩ : Bt))) (lr E25 (fun _ => []) p1) (ad p0 (⟨#[46]⟩ : Bt) fun s1 => ad s1 p1 fun s2 => lr E25 (fun _ => []) s2)
def ZiX (p0 : Bt) (p1 : Bt) : Option (Bt) := (ZBH p0 p1).m
theorem ZzQ (p0 : Bt) (p1 : Bt) : KC tp 25 [vS p0, vS p1] (ZiX p0 p1) E25 := kc1 Try.func25 Try.ntmps25 tok [.tmp 4] fun C co y m Post L => fo co (ZBH p0 p1) m L fun r g => ⟨id, fun s1 s2 => id⟩
abbrev E24 : List Bt × List Bt × List Bt → AV := fun y => .tup [vL Zah y.1, vL Zah y.2.1, vL Zah y.2.2]
section
variable {C : Cx} (co : CO C 0) (p0 : Fil) (r5 r10 : List Bt)
abbrev Zi1 := PT 0 (List Bt × List Bt × List Bt)
abbrev ZhK : Blk := ⟨0, true, 61, 6, [vS p0.name, vS p0.space, vL Zah p0.imports, vL Zak p0.messages, vL Zag p0.enums, vL Zal p0.services]⟩
abbrev Zjd : Blk := ⟨0, true, 9, 1, Zaa Zah r5⟩
abbrev Zrv : Blk := ⟨0, true, 9, 1, Zaa Zah r10⟩
abbrev ZmT (t : List (Nat × AV)) : List (Nat × AV) := (1, .ptr (1, 1) 0 0) :: (2, .ref (1, 2) 0 0 r5.length) :: t
def Zv7 : List Bt × Nat → St := fun (r1, v2) => mkS [(1, .ptr (1, 1) 0 0), (2, .ref (1, 2) 0 0 r1.length), (3, .e0), (4, .e0), (12, vL Zak p0.messages), (13, vN p0.messages.length), (14, vN v2)] [((1, 1), (ZhK p0)), ((1, 2), ⟨0, true, 9, 1, Zaa Zah r1⟩)]
def ZAF : List Bt → Nat × St := fun r5 => (0, mkS (ZmT r5 [(3, .e0), (4, .e0)]) [((1, 1), (ZhK p0)), ((1, 2), (Zjd r5))])
def ZCg (r1 : List Bt) (v2 : Nat) : PT 0 (Lv (List Bt × Nat) (List Bt) (List Bt × List Bt × List Bt)) := br (decide ((v2 : Int) < (p0.messages.length : Int))) (ix p0.messages v2 fun e3 => vw .go <| vw .go <| vw .go <| cl (ZzQ p0.space e3.name) fun y4 => vw .sep <| ap r1 (y4 : Bt) <| vs (wa v2 1) <| vz (fl (r1 ++ [y4])) <| ln (Zv7 p0) (r1 ++ [y4], v2 + 1)) (vz (fl r1) <| lxe (ZAF p0) r1)
def ZEe := fun ((r1, v2) : List Bt × Nat) => (ZCg p0 r1 v2).m
def Zxe : List Bt × Nat → St := fun (r6, v7) => mkS (ZmT r5 [(3, .ref (1, 3) 0 0 r6.length), (4, .e0), (28, vL Zag p0.enums), (29, vN p0.enums.length), (30, vN v7)]) [((1, 1), (ZhK p0)), ((1, 2), (Zjd r5)), ((1, 3), ⟨0, true, 9, 1, Zaa Zah r6⟩)]
def ZDS : List Bt → Nat × St := fun r10 => (2, mkS (ZmT r5 [(3, .ref (1, 3) 0 0 r10.length), (4, .e0)]) [((1, 1), (ZhK p0)), ((1, 2), (Zjd r5)), ((1, 3), (Zrv r10))])
def ZD2 (r6 : List Bt) (v7 : Nat) : PT 0 (Lv (List Bt × Nat) (List Bt) (List Bt × List Bt × List Bt)) := br (decide ((v7 : Int) < (p0.enums.length : Int))) (ix p0.enums v7 fun e8 => vw .go <| vw .go <| vw .go <| cl (ZzQ p0.space e8.name) fun y9 => vw .sep <| ap r6 (y9 : Bt) <| vs (wa v7 1) <| vz (fl r5) <| vz (fl (r6 ++ [y9])) <| ln (Zxe p0 r5) (r6 ++ [y9], v7 + 1)) (vz (fl r5) <| vz (fl r6) <| lxe (ZDS p0 r5) r6)
def ZFd := fun ((r6, v7) : List Bt × Nat) => (ZD2 p0 r5 r6 v7).m
def Zzs : List Bt × Nat → St := fun (r11, v12) => mkS (ZmT r5 [(3, .ref (1, 3) 0 0 r10.length), (4, .ref (1, 4) 0 0 r11.length), (44, vL Zal p0.services), (45, vN p0.services.length), (46, vN v12)]) [((1, 1), (ZhK p0)), ((1, 2), (Zjd r5)), ((1, 3), (Zrv r10)), ((1, 4), ⟨0, true, 9, 1, Zaa Zah r11⟩)]
def ZBs : List Bt → Nat × St := fun r15 => (4, mkS [(2, .ref (1, 2) 0 0 r5.length), (3, .ref (1, 3) 0 0 r10.length), (4, .ref (1, 4) 0 0 r15.length)] [((1, 2), (Zjd r5)), ((1, 3), (Zrv r10)), ((1, 4), ⟨0, true, 9, 1, Zaa Zah r15⟩)])
def ZEm (r11 : List Bt) (v12 : Nat) : PT 0 (Lv (List Bt × Nat) (List Bt) (List Bt × List Bt × List Bt)) := br (decide ((v12 : Int) < (p0.services.length : Int))) (ix p0.services v12 fun e13 => vw .go <| vw .go <| vw .go <| cl (ZzQ p0.space e13.name) fun y14 => vw .sep <| ap r11 (y14 : Bt) <| vs (wa v12 1) <| vz (fl r5) <| vz (fl r10) <| vz (fl (r11 ++ [y14])) <| ln (Zzs p0 r5 r10) (r11 ++ [y14], v12 + 1)) (vz (fl r5) <| vz (fl r10) <| vz (fl r11) <| lxe (ZBs r5 r10) r11)
def ZEu := fun ((r11, v12) : List Bt × Nat) => (ZEm p0 r5 r10 r11 v12).m
def ZDi (r15 : List Bt) : Zi1 := vz (fr r5) <| vz (fr r10) <| vz (fr r15) <| lr E24 (fun _ => []) (r5, r10, r15)
def ZDo : Zi1 := vw (.ads 4 4 9 1) <| vz (fl r5) <| vz (fl r10) <| vz (fl ([] : List Bt)) <| lc (Zzs p0 r5 r10 (([] : List Bt), 0)) ((Zaj (ZEu p0 r5 r10) big (([] : List Bt), 0)).bind (Sum.elim (fun r15 => (ZDi r5 r10 r15).m) some))
def ZEN : Zi1 := vw .go <| vz (eqL p0.services) <| vz (fl r5) <| vz (fl r10) <| lc (mkS (ZmT r5 [(3, .ref (1, 3) 0 0 r10.length), (4, .e0), (44, vL Zal p0.services), (45, vN p0.services.length), (46, vI 0)]) [((1, 1), (ZhK p0)), ((1, 2), (Zjd r5)), ((1, 3), (Zrv r10))]) ((ZDo p0 r5 r10).m)
def ZCu : Zi1 := vw (.ads 3 3 9 1) <| vz (fl r5) <| vz (fl ([] : List Bt)) <| lc (Zxe p0 r5 (([] : List Bt), 0)) ((Zaj (ZFd p0 r5) big (([] : List Bt), 0)).bind (Sum.elim (fun r10 => (ZEN p0 r5 r10).m) some))
def ZD3 : Zi1 := vw .go <| vz (eqL p0.enums) <| vz (fl r5) <| lc (mkS (ZmT r5 [(3, .e0), (4, .e0), (28, vL Zag p0.enums), (29, vN p0.enums.length), (30, vI 0)]) [((1, 1), (ZhK p0)), ((1, 2), (Zjd r5))]) ((ZCu p0 r5).m)
def ZCa : Zi1 := vw (.ads 2 2 9 1) <| vz (fl ([] : List Bt)) <| lc (Zv7 p0 (([] : List Bt), 0)) ((Zaj (ZEe p0) big (([] : List Bt), 0)).bind (Sum.elim (fun r5 => (ZD3 p0 r5).m) some))
def Zvv : Zi1 := vw .go <| vz (eqL p0.messages) <| lc (mkS [(1, .ptr (1, 1) 0 0), (2, .e0), (3, .e0), (4, .e0), (12, vL Zak p0.messages), (13, vN p0.messages.length), (14, vI 0)] [((1, 1), (ZhK p0))]) ((ZCa p0).m)
def ZvD : Zi1 := lc (mkS [(1, .ptr (1, 1) 0 0), (2, .e0), (3, .e0), (4, .e0)] [((1, 1), (ZhK p0))]) ((Zvv p0).m)
def ZmY (p0 : Fil) : Option (List Bt × List Bt × List Bt) := (ZvD p0).m
section
include co
theorem ZxJ : Kl 62 C (pa [0, 0, 1, 0, 1] (Zac Try.f24)) [.tmp 2, .tmp 3, .tmp 4] 0 (Zv7 p0) (ZAF p0) E24 (fun _ => []) (ZEe p0) := fun (r1, v2) _ m Q Post hQ L => en co (ZCg p0 r1 v2) (lf2 [1, 2, 3, 4, 12, 13, 14] [((1, 1), false), ((1, 2), true)]) (lf2 [1, 2, 3, 4] [((1, 1), false), ((1, 2), true)]) hQ m L fun r g => ⟨fun e3 y4 => id, id⟩
theorem ZxV : Kl 62 C (pa [0, 0, 1, 0, 1, 1] (Zac Try.f24)) [.tmp 2, .tmp 3, .tmp 4] 0 (Zxe p0 r5) (ZDS p0 r5) E24 (fun _ => []) (ZFd p0 r5) := fun (r6, v7) _ m Q Post hQ L => en co (ZD2 p0 r5 r6 v7) (lf2 [1, 2, 3, 4, 28, 29, 30] [((1, 1), false), ((1, 2), true), ((1, 3), true)]) (lf2 [1, 2, 3, 4] [((1, 1), false), ((1, 2), true), ((1, 3), true)]) hQ m L fun r g => ⟨fun e8 y9 => id, id⟩
theorem Zyg : Kl 62 C (pa [0, 0, 1, 0, 1, 1, 1] (Zac Try.f24)) [.tmp 2, .tmp 3, .tmp 4] 0 (Zzs p0 r5 r10) (ZBs r5 r10) E24 (fun _ => []) (ZEu p0 r5 r10) := fun (r11, v12) _ m Q Post hQ L => en co (ZEm p0 r5 r10 r11 v12) (lf2 [1, 2, 3, 4, 44, 45, 46] [((1, 1), false), ((1, 2), true), ((1, 3), true), ((1, 4), true)]) (lf2 [2, 3, 4] [((1, 2), true), ((1, 3), true), ((1, 4), true)]) hQ m L fun r g => ⟨fun e13 y14 => id, id⟩
end
end
theorem ZGu (p0 : Fil) : KC tp 24 [.agg ((Zax p0).map .d)] (ZmY p0) E24 := kc1 Try.func24 Try.ntmps24 tok [.tmp 2, .tmp 3, .tmp 4] fun C co y m Post L => mi co 1 (ZvD p0) (lf2 [1, 2, 3, 4] [((1, 1), false)]) nl ii m L fun r g _ m L => sq (mi co 1 (Zvv p0) (lf2 [1, 2, 3, 4, 12, 13, 14] [((1, 1), false)]) nl ii m L fun r g _ m L => bk 0 (Zi4 co (ZCa p0) (lf2 [1, 2, 3, 4, 12, 13, 14] [((1, 1), false), ((1, 2), true)]) m L fun r g _ m L => lo (lpF (ZxJ co p0) ii m L (fun r5 m => sq (mi co 1 (ZD3 p0 r5) (lf2 [1, 2, 3, 4, 28, 29, 30] [((1, 1), false), ((1, 2), true)]) nl ii m L fun r g _ m L => bk 2 (Zi4 co (ZCu p0 r5) (lf2 [1, 2, 3, 4, 28, 29, 30] [((1, 1), false), ((1, 2), true), ((1, 3), true)]) m L fun r g _ m L => lo (lpF (ZxV co p0 r5) ii m L (fun r10 m => sq (mi co 1 (ZEN p0 r5 r10) (lf2 [1, 2, 3, 4, 44, 45, 46] [((1, 1), false), ((1, 2), true), ((1, 3), true)]) nl ii m L fun r g _ m L => bk 4 (Zi4 co (ZDo p0 r5 r10) (lf2 [1, 2, 3, 4, 44, 45, 46] [((1, 1), false), ((1, 2), true), ((1, 3), true), ((1, 4), true)]) m L fun r g _ m L => lo (lpF (Zyg co p0 r5 r10) ii m L (fun r15 m => fo co (ZDi r5 r10 r15) m L fun r g => id))))))))))))
def ZD8 : Go.Shelf.Ren := ⟨fun | 4 => 82 | n => n, fun | 22 => 34 | 25 => 9 | n => n, fun n => n⟩
theorem Zx3 : Go.Proofs.Lays8.n4 tp ZD8 := {
 mixed := by kernel_rfl,
 f4 := ⟨Try.f82.name, by decide +kernel, Try.func82.trans (congrArg some (by kernel_rfl))⟩,
 t0 := Try.underlying0,
 a0 := Try.isAgg0,
 z0 := Try.sizeOf0,
 v0 := Try.zeroValue0,
 t3 := Try.underlying3,
 a3 := Try.isAgg3,
 z3 := Try.sizeOf3,
 v3 := Try.zeroValue3,
 t4 := Try.underlying4,
 a4 := Try.isAgg4,
 z4 := Try.sizeOf4,
 v4 := Try.zeroValue4,
 t9 := Try.underlying9,
 a9 := Try.isAgg9,
 z9 := Try.sizeOf9,
 v9 := Try.zeroValue9,
 t20 := Try.underlying20,
 a20 := Try.isAgg20,
 z20 := Try.sizeOf20,
 v20 := Try.zeroValue20,
 t22 := Try.underlying34,
 a22 := Try.isAgg34,
 z22 := Try.sizeOf34,
 v22 := Try.zeroValue34 }
abbrev E82 : List Bt → AV := fun y => .ref (0, 0) 1 0 y.length
@[reducible] def G82 : List Bt → List Blk := fun y => [⟨1, true, 9, 1, Zaa Zah y⟩]
def Zf3 (n : Nat) : Option (List Bt) := if n < 549755813888 then some [] else none
theorem ZJP (n : Nat) : KO tp 82 1 [.e0, vN n] [⟨0, false, 0, 0, []⟩] (fun _ _ _ _ => True) (Zf3 n) E82 G82 := ⟨fun l H ks gs θ hks hlow hnd hH _ y hy => by
 obtain ⟨h0, hy⟩ := Zar hy
 cases hy
 match ks, hks with
 | [k0], _ =>
  have hi : ∃ i0 z, (Try.prog).info? 9 = some i0 ∧ i0.zero = some z ∧ i0.size = 1 ∧ z.cells.size = i0.size ∧ i0.bytes ≤ 256 := ⟨_, _, rfl, rfl, rfl, by decide +kernel, by decide +kernel⟩
  obtain ⟨i0, z, h1, h2, h3, h4, h5⟩ := hi
  exact ZmK Zx3 i0 z h1 h2 (by rw [h3]; decide) h4 h5 ⟨_, Zac Try.f82, Try.func82, by kernel_rfl, by kernel_rfl⟩ hlow.1 hH.1.1 n h0 (by rw [h3]; exact ⟨rfl, rfl⟩)⟩
abbrev E47 : List Bt → AV := fun y => .ref (0, 0) 1 0 y.length
@[reducible] def G47 : List Bt → List Blk := fun y => [⟨1, true, 9, 1, Zaa Zah y⟩]
section
variable {C : Cx} (co : CO C 1) (p0 : List (List Bt)) (y5 : List Bt)
abbrev Znn := PT 1 (List Bt)
def Zv1 : Nat × Nat → St := fun (v1, v2) => mkS [(0, vL ZbM p0), (3, vN v1), (9, vL ZbM p0), (10, vN p0.length), (11, vN v2)] []
def ZBf : Nat → Nat × St := fun v4 => (0, mkS [(0, vL ZbM p0), (3, vN v4)] [])
def ZAQ (v1 : Nat) (v2 : Nat) : PT 1 (Lv (Nat × Nat) (Nat) (List Bt)) := br (decide ((v2 : Int) < (p0.length : Int))) (ix p0 v2 fun e3 => vz (eqL e3) <| vs (wa v1 e3.length) <| br (decide (((v1 + e3.length : Nat) : Int) < (0 : Int))) (dd) (vs (wa v2 1) <| ln (Zv1 p0) (v1 + e3.length, v2 + 1))) (lxe (ZBf p0) v1)
def ZB6 := fun ((v1, v2) : Nat × Nat) => (ZAQ p0 v1 v2).m
def ZxB : List Bt × Nat → St := fun (r6, v7) => mkS [(6, .ref (1, 24) 0 0 r6.length), (25, vL ZbM p0), (26, vN p0.length), (27, vN v7)] [((1, 24), ⟨0, true, 9, 1, Zaa Zah r6⟩)]
def ZCh : List Bt → Nat × St := fun r9 => (2, mkS [(6, .ref (1, 24) 0 0 r9.length)] [((1, 24), ⟨0, true, 9, 1, Zaa Zah r9⟩)])
def ZAw (r6 : List Bt) (v7 : Nat) : PT 1 (Lv (List Bt × Nat) (List Bt) (List Bt)) := br (decide ((v7 : Int) < (p0.length : Int))) (ix p0 v7 fun e8 => aq r6 e8 <| vs (wa v7 1) <| vz (fl (r6 ++ e8)) <| ln (ZxB p0) (r6 ++ e8, v7 + 1)) (vz (fl r6) <| lxe (ZCh) r6)
def ZFt := fun ((r6, v7) : List Bt × Nat) => (ZAw p0 r6 v7).m
def ZAC (r9 : List Bt) : Znn := vw .sep <| mv 24 0 r9 <| lr E47 (G47) r9
def ZA7 : Znn := vz (eqL p0) <| vz (fl y5) <| lc (ZxB p0 (y5, 0)) ((Zaj (ZFt p0) big (y5, 0)).bind (Sum.elim (fun r9 => (ZAC r9).m) some))
def ZF1 : Znn := vz (fl y5) <| lc (mkS [(0, vL ZbM p0), (6, .ref (1, 24) 0 0 y5.length)] [((1, 24), ⟨0, true, 9, 1, Zaa Zah y5⟩)]) ((ZA7 p0 y5).m)
def ZDH (v4 : Nat) : Znn := lc (mkS [(0, vL ZbM p0), (23, vN v4)] []) ((Zf3 v4).bind fun y5 => (ZF1 p0 y5).m)
def ZAN : Znn := vz (eqL p0) <| lc (Zv1 p0 (0, 0)) ((Zaj (ZB6 p0) big (0, 0)).bind (Sum.elim (fun v4 => (ZDH p0 v4).m) some))
def ZDI : Znn := lc (mkS [(0, vL ZbM p0), (3, vI 0)] []) ((ZAN p0).m)
def ZbI (p0 : List (List Bt)) : Option (List Bt) := (ZDI p0).m
section
include co
theorem ZzU : Kl 36 C (pa [0, 0, 1, 0, 1, 1] (Zac Try.f47)) [.tmp 2] 1 (Zv1 p0) (ZBf p0) E47 (G47) (ZB6 p0) := fun (v1, v2) _ m Q Post hQ L => en co (ZAQ p0 v1 v2) (lf1 [0, 3, 9, 10, 11]) (lf1 [0, 3]) hQ m L fun r g => ⟨fun e3 => ⟨trivial, id⟩, id⟩
theorem Zxq : Kl 36 C (pa [0, 0, 1, 0, 1, 1, 1, 1] (Zac Try.f47)) [.tmp 2] 1 (ZxB p0) (ZCh) E47 (G47) (ZFt p0) := fun (r6, v7) _ m Q Post hQ L => en co (ZAw p0 r6 v7) (lf2 [6, 25, 26, 27] [((1, 24), true)]) (lf2 [6] [((1, 24), true)]) hQ m L fun r g => ⟨fun e8 => id, id⟩
end
end
theorem ZG4 (p0 : List (List Bt)) : KO tp 47 1 [vL ZbM p0] [⟨0, false, 0, 0, []⟩] (fun _ _ _ _ => True) (ZbI p0) E47 (G47) := ko1 Try.func47 Try.ntmps47 tok [.tmp 2] 1 (fun C co hT y m Post L => mi co 2 (ZDI p0) (lf1 [0, 3]) nl ii m L fun r g _ m L => sq (mi co 1 (ZAN p0) (lf1 [0, 3, 9, 10, 11]) nl ii m L fun r g _ m L => bk 0 (lo (lpF (ZzU co p0) ii m L (fun v4 m => sq (rg (ZbL co tok 1 (ZDH p0 v4) (lf1 [0, 23]) m L fun r g _ m L => ZaE co m 82 [.e0, vN v4] [(1, 24)] ([((1, 24), ⟨0, false, 0, 0, []⟩)] ++ []) (fun z => .ref (1, 24) 1 0 z.length) (fun z => [((1, 24), ⟨1, true, 9, 1, Zaa Zah z⟩)]) [] (fun z => trivial) (trivial) (fun z hz r g => Zaf (ZJP v4) hz co g [((1, 24), ⟨0, false, 0, 0, []⟩)] [] [((1, 24), ⟨1, true, 9, 1, Zaa Zah z⟩)] (lkS []) (fun H' hg ho => trivial) (fun H => ⟨(fun h => by cases h), by kernel_rfl, trivial⟩) (fun H => ⟨fun _ => ⟨rfl, bz⟩, by kernel_rfl, trivial⟩)) fun y5 m => Zby co tok (ZF1 p0 y5) (lf2 [0, 6] [((1, 24), true)]) m L fun r g _ m L => sq (mi co 1 (ZA7 p0 y5) (lf2 [6, 25, 26, 27] [((1, 24), true)]) nl ii m L fun r g _ m L => bk 2 (lo (lpF (Zxq co p0) ii m L (fun r9 m => fo co (ZAC r9) m L fun r g => id))))))))))) (hB := fun y => ⟨.inl (Zai _ _), rfl, trivial⟩)
abbrev E91 : Int → AV := fun y => vI y
section
variable {C : Cx} (p0 : List Bt) (p1 : Bt)
def Zx7 : Nat → St := fun v1 => mkS [(0, vL Zah p0), (1, vS p1), (7, vN p0.length), (8, vN v1)] []
def ZC8 : Unit → Nat × St := fun _ => (0, mkS [] [])
def ZGo (v1 : Nat) : PT 0 (Lv (Nat) (Unit) (Int)) := br (decide ((v1 : Int) < (p0.length : Int))) (ix p0 v1 fun e2 => br (decide (p1 = e2)) (lrt E91 (fun _ => []) (v1 : Int)) (vs (wa v1 1) <| ln (Zx7 p0 p1) (v1 + 1))) (lxe (ZC8) ())
def ZFc := fun (v1 : Nat) => (ZGo p0 p1 v1).m
def ZBY : PT 0 (Int) := lr E91 (fun _ => []) (-1)
def ZE0 : PT 0 (Int) := vz (eqL p0) <| lc (Zx7 p0 p1 0) ((Zaj (ZFc p0 p1) big 0).bind (Sum.elim (fun _ => (ZBY).m) some))
def ZCp : PT 0 (Int) := lc (mkS [(0, vL Zah p0), (1, vS p1)] []) ((ZE0 p0 p1).m)
def ZfZ (p0 : List Bt) (p1 : Bt) : Option (Int) := (ZCp p0 p1).m
theorem Zx1 (co : CO C 0) : Kl 19 C (pa [0, 0, 1, 0, 1] (Zac Try.f91)) [.tmp 4] 0 (Zx7 p0 p1) (ZC8) E91 (fun _ => []) (ZFc p0 p1) := fun v1 _ m Q Post hQ L => en co (ZGo p0 p1 v1) (lf1 [0, 1, 7, 8]) nl hQ m L fun r g => ⟨fun e2 => ⟨id, id⟩, id⟩
end
theorem ZJ6 (p0 : List Bt) (p1 : Bt) : KC tp 91 [vL Zah p0, vS p1] (ZfZ p0 p1) E91 := kc1 Try.func91 Try.ntmps91 tok [.tmp 4] fun C co y m Post L => mi co 1 (ZCp p0 p1) (lf1 [0, 1]) nl ii m L fun r g _ m L => sq (mi co 1 (ZE0 p0 p1) (lf1 [0, 1, 7, 8]) nl ii m L fun r g _ m L => bk 0 (lo (lpF (Zx1 p0 p1 co) ii m L (fun _ m => fo co (ZBY) m L fun r g => id))))
abbrev E54 : Bool → AV := fun y => vB y
def ZAD (p0 : List Bt) (p1 : Bt) : PT 0 (Bool) := cl (ZJ6 p0 p1) fun y1 => lr E54 (fun _ => []) (decide ((0 : Int) ≤ y1))
def Zev (p0 : List Bt) (p1 : Bt) : Option (Bool) := (ZAD p0 p1).m
theorem ZBZ (p0 : List Bt) (p1 : Bt) : KC tp 54 [vL Zah p0, vS p1] (Zev p0 p1) E54 := kc1 Try.func54 Try.ntmps54 tok [.tmp 4] fun C co y m Post L => fo co (ZAD p0 p1) m L fun r g y1 => id
abbrev E23 : Bt × Int → AV := fun y => .tup [vS y.1, vI y.2]
section
variable {C : Cx} (co : CO C 0) (p0 : List Fil) (r1 : List Bt) (v2 v3 v4 v5 : Nat) (y7 : List Bt × List Bt × List Bt) (y8 r12 : List Bt)
abbrev Zoc := PT 0 (Lv (List Bt × Nat × Nat × Nat × Nat) (Nat × Nat × Nat × List Bt) (Bt × Int))
abbrev ZjZ := PT 0 (Bt × Int)
abbrev ZsQ : List (Key × Blk) := [((1, 4), ⟨0, true, 9, 1, Zaa Zah r1⟩)]
abbrev ZBw : List (Nat × AV) := [(4, .ref (1, 4) 0 0 r1.length), (5, vN v2), (6, vN v3), (7, vN v4), (15, vL Zax p0), (16, vN p0.length), (17, vN v5)]
abbrev Zw7 : List (Key × Blk) := [((1, 4), ⟨0, true, 9, 1, Zaa Zah r12⟩)]
def Zxv : List Bt × Nat × Nat × Nat × Nat → St := fun (r1, v2, v3, v4, v5) => mkS (ZBw p0 r1 v2 v3 v4 v5) (ZsQ r1)
def ZAp : Nat × Nat × Nat × List Bt → Nat × St := fun (v9, v10, v11, r12) => (0, mkS [(4, .ref (1, 4) 0 0 r12.length), (5, vN v9), (6, vN v10), (7, vN v11)] (Zw7 r12))
def ZDs : Zoc := vs (wa v5 1) <| vz (fl (r1 ++ y8)) <| ln (Zxv p0) (r1 ++ y8, v2 + y7.1.length, v3 + y7.2.1.length, v4 + y7.2.2.length, v5 + 1)
def ZEk : Zoc := ar r1 y8 (1, 44) 1 <| vz (fl (r1 ++ y8)) <| lc (mkS [(4, .ref (1, 4) 0 0 (r1 ++ y8).length), (5, vN (v2 + y7.1.length)), (6, vN (v3 + y7.2.1.length)), (7, vN (v4 + y7.2.2.length)), (15, vL Zax p0), (16, vN p0.length), (17, vN v5)] [((1, 4), ⟨0, true, 9, 1, Zaa Zah (r1 ++ y8)⟩)]) ((ZDs p0 r1 v2 v3 v4 v5 y7 y8).m)
def ZDZ : Zoc := vw .sep <| vw .sep <| vz (fl r1) <| lc (mkS [(5, vN (v2 + y7.1.length)), (6, vN (v3 + y7.2.1.length)), (7, vN (v4 + y7.2.2.length)), (15, vL Zax p0), (16, vN p0.length), (17, vN v5), (39, .ref (1, 4) 0 0 r1.length), (43, .d (.list [ZbM y7.1, ZbM y7.2.1, ZbM y7.2.2]))] (ZsQ r1)) ((ZbI ([y7.1, y7.2.1, y7.2.2] : List (List Bt))).bind fun y8 => (ZEk p0 r1 v2 v3 v4 v5 y7 y8).m)
def ZBz : Zoc := ix p0 v5 fun e6 => vw .go <| vw .go <| cl (ZGu e6) fun y7 => vz (eqL y7.1) <| vs (wa v2 y7.1.length) <| vz (eqL y7.2.1) <| vs (wa v3 y7.2.1.length) <| vz (eqL y7.2.2) <| vs (wa v4 y7.2.2.length) <| vz (fl r1) <| lc (mkS [(4, .ref (1, 4) 0 0 r1.length), (5, vN (v2 + y7.1.length)), (6, vN (v3 + y7.2.1.length)), (7, vN (v4 + y7.2.2.length)), (10, vL Zah y7.1), (11, vL Zah y7.2.1), (12, vL Zah y7.2.2), (15, vL Zax p0), (16, vN p0.length), (17, vN v5)] (ZsQ r1)) ((ZDZ p0 r1 v2 v3 v4 v5 y7).m)
def ZC2 : Zoc := br (decide ((v5 : Int) < (p0.length : Int))) (vz (fl r1) <| lc (mkS (ZBw p0 r1 v2 v3 v4 v5) (ZsQ r1)) ((ZBz p0 r1 v2 v3 v4 v5).m)) (vz (fl r1) <| lxe (ZAp) (v2, v3, v4, r1))
def ZFU := fun ((r1, v2, v3, v4, v5) : List Bt × Nat × Nat × Nat × Nat) => (ZC2 p0 r1 v2 v3 v4 v5).m
def Zxm : Nat → St := fun v13 => mkS [(4, vL Zah r12), (52, vL Zah r12), (53, vN r12.length), (54, vN v13)] []
def ZCo : Unit → Nat × St := fun _ => (2, mkS [] [])
def ZBn (v13 : Nat) : PT 0 (Lv (Nat) (Unit) (Bt × Int)) := br (decide ((v13 : Int) < (r12.length : Int))) (ix r12 v13 fun e14 => sL r12 .no (.nt v13) fun l15 => cl (ZBZ l15 e14) fun y16 => br y16 (lrt E23 (fun _ => []) (e14, 9)) (vs (wa v13 1) <| ln (Zxm r12) (v13 + 1))) (lxe (ZCo) ())
def ZDe := fun (v13 : Nat) => (ZBn r12 v13).m
def ZBx : ZjZ := lr E23 (fun _ => []) (⟨#[]⟩, 0)
def ZA5 : ZjZ := vw (.frz 4 [(4, (r12.map Zah)), (52, (r12.map Zah))] []) <| vz (fz r12) <| vz (fz r12) <| lc (Zxm r12 0) ((Zaj (ZDe r12) big 0).bind (Sum.elim (fun _ => (ZBx).m) some))
def ZFK : ZjZ := vz (eqN r12.length) <| vz (fl r12) <| lc (mkS [(4, .ref (1, 4) 0 0 r12.length), (52, .ref (1, 4) 0 0 r12.length), (53, vN r12.length), (54, vI 0)] (Zw7 r12)) ((ZA5 r12).m)
def ZvS (v9 : Nat) (v10 : Nat) (v11 : Nat) : ZjZ := br (decide ((64 : Int) < (mmI true (mmI true (v9 : Int) (v10 : Int)) (v11 : Int)))) (lr E23 (fun _ => []) (⟨#[]⟩, 3)) (vz (fl r12) <| lc (mkS [(4, .ref (1, 4) 0 0 r12.length)] (Zw7 r12)) ((ZFK r12).m))
def ZuU : ZjZ := vw (.ads 4 4 9 1) <| vz (fl ([] : List Bt)) <| lc (Zxv p0 (([] : List Bt), 0, 0, 0, 0)) ((Zaj (ZFU p0) big (([] : List Bt), 0, 0, 0, 0)).bind (Sum.elim (fun (v9, v10, v11, r12) => (ZvS r12 v9 v10 v11).m) some))
def ZuX : ZjZ := vz (eqL p0) <| lc (mkS [(4, .e0), (5, vI 0), (6, vI 0), (7, vI 0), (15, vL Zax p0), (16, vN p0.length), (17, vI 0)] []) ((ZuU p0).m)
def ZvI : ZjZ := lc (mkS [(0, vL Zax p0), (4, .e0), (5, vI 0), (6, vI 0), (7, vI 0)] []) ((ZuX p0).m)
def ZgS (p0 : List Fil) : Option (Bt × Int) := (ZvI p0).m
section
include co
theorem Zwq : Kl 66 C (pa [0, 0, 1, 0, 1, 1, 1] (Zac Try.f23)) [.tmp 2, .tmp 3] 0 (Zxv p0) (ZAp) E23 (fun _ => []) (ZFU p0) := fun (r1, v2, v3, v4, v5) _ m Q Post hQ L => mi co 2 (ZC2 p0 r1 v2 v3 v4 v5) (lf2 [4, 5, 6, 7, 15, 16, 17] [((1, 4), true)]) (lf2 [4, 5, 6, 7] [((1, 4), true)]) hQ m L fun r g => ⟨fun _ m L => sq (bk 1 (mi co 3 (ZBz p0 r1 v2 v3 v4 v5) (lf2 [4, 5, 6, 7, 10, 11, 12, 15, 16, 17] [((1, 4), true)]) nl hQ m L fun r g e6 y7 _ m L => rg (ZbL co tok 5 (ZDZ p0 r1 v2 v3 v4 v5 y7) (lf2 [5, 6, 7, 15, 16, 17, 39, 43] [((1, 4), true)]) m L fun r g _ m L => ZaE co m 47 [.d (.list [ZbM y7.1, ZbM y7.2.1, ZbM y7.2.2])] [(1, 44)] ([((1, 44), ⟨0, false, 0, 0, []⟩)] ++ []) (fun z => .ref (1, 44) 1 0 z.length) (fun z => [((1, 44), ⟨1, true, 9, 1, Zaa Zah z⟩)]) [(1, 4)] (fun z => trivial) (⟨Zai _ _, trivial⟩) (fun z hz r g => Zaf (ZG4 ([y7.1, y7.2.1, y7.2.2] : List (List Bt))) hz co g [((1, 44), ⟨0, false, 0, 0, []⟩)] [] [((1, 44), ⟨1, true, 9, 1, Zaa Zah z⟩)] (lkS []) (fun H' hg ho => trivial) (fun H => ⟨(fun h => by cases h), by kernel_rfl, trivial⟩) (fun H => ⟨fun _ => ⟨rfl, bz⟩, by kernel_rfl, trivial⟩)) fun y8 m => Zby co tok (ZEk p0 r1 v2 v3 v4 v5 y7 y8) (lf2 [4, 5, 6, 7, 15, 16, 17] [((1, 4), true)]) m L fun r g _ m L => en co (ZDs p0 r1 v2 v3 v4 v5 y7 y8) (lf2 [4, 5, 6, 7, 15, 16, 17] [((1, 4), true)]) nl hQ m L fun r g => id))), id⟩
theorem ZwY : Kl 66 C (pa [0, 0, 1, 0, 1, 1, 1, 1, 1] (Zac Try.f23)) [.tmp 2, .tmp 3] 0 (Zxm r12) (ZCo) E23 (fun _ => []) (ZDe r12) := fun v13 _ m Q Post hQ L => en co (ZBn r12 v13) (lf1 [4, 52, 53, 54]) nl hQ m L fun r g => ⟨fun e14 l15 y16 => ⟨id, id⟩, id⟩
end
end
theorem ZKl (p0 : List Fil) : KC tp 23 [vL Zax p0] (ZgS p0) E23 := kc1 Try.func23 Try.ntmps23 tok [.tmp 2, .tmp 3] fun C co y m Post L => mi co 3 (ZvI p0) (lf1 [0, 4, 5, 6, 7]) nl ii m L fun r g _ m L => sq (mi co 1 (ZuX p0) (lf1 [4, 5, 6, 7, 15, 16, 17]) nl ii m L fun r g _ m L => bk 0 (Zi4 co (ZuU p0) (lf2 [4, 5, 6, 7, 15, 16, 17] [((1, 4), true)]) m L fun r g _ m L => lo (lpF (Zwq co p0) ii m L (fun (v9, v10, v11, r12) m => mi co 1 (ZvS r12 v9 v10 v11) (lf2 [4] [((1, 4), true)]) nl ii m L fun r g => ⟨id, fun _ m L => sq (mi co 1 (ZFK r12) (lf2 [4, 52, 53, 54] [((1, 4), true)]) nl ii m L fun r g _ m L => bk 2 (Zi4 co (ZA5 r12) (lf1 [4, 52, 53, 54]) m L fun r g _ m L => lo (lpF (ZwY co r12) ii m L (fun _ m => fo co (ZBx) m L fun r g => id))))⟩))))
abbrev E26 : List Enm → AV := fun y => .ref (0, 0) 1 0 y.length
@[reducible] def G26 : List Enm → List Blk := fun y => [⟨1, true, 42, 5, Zaa Zag y⟩]
def Zyi (p0 : List Enm) : PT 1 (List Enm) := al Zag p0 false fun b1 => br b1 (vw .sep <| vw (.ads 2 2 42 5) <| mv 2 0 ([] : List Enm) <| lr E26 (G26) ([] : List Enm)) (a0 p0 <| mv 7 0 p0 <| lr E26 (G26) p0)
def ZbU (p0 : List Enm) : Option (List Enm) := (Zyi p0).m
theorem ZI3 (p0 : List Enm) : KO tp 26 1 [vL Zag p0] [⟨0, false, 0, 0, []⟩] (fun _ _ _ _ => True) (ZbU p0) E26 (G26) := ko1 Try.func26 Try.ntmps26 tok [.tmp 2] 1 (fun C co hT y m Post L => fo co (Zyi p0) m L fun r g => ⟨fun b1 => ⟨id, id⟩, by intro b h; subst h; cases b <;> rfl⟩) (hB := fun y => ⟨.inl (Zai _ _), rfl, trivial⟩)
abbrev E27 : List Bt → AV := fun y => vL Zah y
section
variable {C : Cx} (p0 : List Fil) (p1 : Fil) (v4 : Nat) (y9 v3 y2 : List Bt)
abbrev ZpW := PT 0 (Lv (List Bt × Nat) (List Bt) (List Bt))
abbrev Znk := PT 0 (List Bt)
abbrev ZwX : Blk := ⟨0, true, 61, 6, [vS p1.name, vS p1.space, vL Zah p1.imports, vL Zak p1.messages, vL Zag p1.enums, vL Zal p1.services]⟩
abbrev ZE6 : List (Nat × AV) := [(0, vL Zax p0), (8, vL Zah v3), (26, vL Zah p1.imports), (27, vN p1.imports.length), (28, vN v4)]
def Zzy : List Bt × Nat → St := fun (v3, v4) => mkS (ZE6 p0 p1 v4 v3) []
def ZCN : List Bt → Nat × St := fun v10 => (0, mkS [(8, vL Zah v10)] [])
def ZD5 : ZpW := vs (wa v4 1) <| vw (.frz 48 [(8, (y9.map Zah))] []) <| vz (fz y9) <| ln (Zzy p0 p1) (y9, v4 + 1)
def ZEV : ZpW := vz (fl y9) <| lc (mkS [(0, vL Zax p0), (8, .ref (1, 48) 0 0 y9.length), (26, vL Zah p1.imports), (27, vN p1.imports.length), (28, vN v4)] [((1, 48), ⟨0, true, 9, 1, Zaa Zah y9⟩)]) ((ZD5 p0 p1 v4 y9).m)
def ZCS (y8 : List Bt × List Bt × List Bt) : ZpW := vw .sep <| vw .sep <| lc (mkS [(0, vL Zax p0), (26, vL Zah p1.imports), (27, vN p1.imports.length), (28, vN v4), (47, .d (.list [ZbM v3, ZbM y8.1, ZbM y8.2.1, ZbM y8.2.2]))] []) ((ZbI ([v3, y8.1, y8.2.1, y8.2.2] : List (List Bt))).bind fun y9 => (ZEV p0 p1 v4 y9).m)
def ZDl : ZpW := ix p1.imports v4 fun e5 => cl (ZAi p0 e5) fun y6 => ixi p0 y6 fun e7 => cl (ZGu e7) fun y8 => lc (mkS [(0, vL Zax p0), (8, vL Zah v3), (11, vL Zah y8.1), (12, vL Zah y8.2.1), (13, vL Zah y8.2.2), (26, vL Zah p1.imports), (27, vN p1.imports.length), (28, vN v4)] []) ((ZCS p0 p1 v4 v3 y8).m)
def ZAz : ZpW := br (decide ((v4 : Int) < (p1.imports.length : Int))) (lc (mkS (ZE6 p0 p1 v4 v3) []) ((ZDl p0 p1 v4 v3).m)) (lxe (ZCN) v3)
def ZAB := fun ((v3, v4) : List Bt × Nat) => (ZAz p0 p1 v4 v3).m
def ZEc (v10 : List Bt) : Znk := lr E27 (fun _ => []) v10
def ZEw : Znk := vw (.frz 24 [(8, (y2.map Zah))] []) <| vz (fz y2) <| lc (Zzy p0 p1 (y2, 0)) ((Zaj (ZAB p0 p1) big (y2, 0)).bind (Sum.elim (fun v10 => (ZEc v10).m) some))
def ZAv : Znk := vw .go <| vz (eqL p1.imports) <| vz (fl y2) <| lc (mkS [(0, vL Zax p0), (8, .ref (1, 24) 0 0 y2.length), (26, vL Zah p1.imports), (27, vN p1.imports.length), (28, vI 0)] [((1, 24), ⟨0, true, 9, 1, Zaa Zah y2⟩)]) ((ZEw p0 p1 y2).m)
def ZEh : Znk := vz (fl y2) <| lc (mkS [(0, vL Zax p0), (3, .ptr (1, 3) 0 0), (8, .ref (1, 24) 0 0 y2.length)] [((1, 3), (ZwX p1)), ((1, 24), ⟨0, true, 9, 1, Zaa Zah y2⟩)]) ((ZAv p0 p1 y2).m)
def Zu5 (y1 : List Bt × List Bt × List Bt) : Znk := vw .sep <| vw .sep <| lc (mkS [(0, vL Zax p0), (3, .ptr (1, 3) 0 0), (23, .d (.list [ZbM y1.1, ZbM y1.2.1, ZbM y1.2.2]))] [((1, 3), (ZwX p1))]) ((ZbI ([y1.1, y1.2.1, y1.2.2] : List (List Bt))).bind fun y2 => (ZEh p0 p1 y2).m)
def ZuH : Znk := vw .go <| cl (ZGu p1) fun y1 => lc (mkS [(0, vL Zax p0), (3, .ptr (1, 3) 0 0), (5, vL Zah y1.1), (6, vL Zah y1.2.1), (7, vL Zah y1.2.2)] [((1, 3), (ZwX p1))]) ((Zu5 p0 p1 y1).m)
def ZfR (p0 : List Fil) (p1 : Fil) : Option (List Bt) := (ZuH p0 p1).m
theorem ZzE (co : CO C 0) : Kl 51 C (pa [0, 0, 1, 0, 1, 1, 1] (Zac Try.f27)) [.tmp 4] 0 (Zzy p0 p1) (ZCN) E27 (fun _ => []) (ZAB p0 p1) := fun (v3, v4) _ m Q Post hQ L => mi co 2 (ZAz p0 p1 v4 v3) (lf1 [0, 8, 26, 27, 28]) (lf1 [8]) hQ m L fun r g => ⟨fun _ m L => sq (bk 1 (mi co 2 (ZDl p0 p1 v4 v3) (lf1 [0, 8, 11, 12, 13, 26, 27, 28]) nl hQ m L fun r g e5 y6 e7 y8 _ m L => rg (ZbL co tok 5 (ZCS p0 p1 v4 v3 y8) (lf1 [0, 26, 27, 28, 47]) m L fun r g _ m L => ZaE co m 47 [.d (.list [ZbM v3, ZbM y8.1, ZbM y8.2.1, ZbM y8.2.2])] [(1, 48)] ([((1, 48), ⟨0, false, 0, 0, []⟩)] ++ []) (fun z => .ref (1, 48) 1 0 z.length) (fun z => [((1, 48), ⟨1, true, 9, 1, Zaa Zah z⟩)]) [] (fun z => trivial) (trivial) (fun z hz r g => Zaf (ZG4 ([v3, y8.1, y8.2.1, y8.2.2] : List (List Bt))) hz co g [((1, 48), ⟨0, false, 0, 0, []⟩)] [] [((1, 48), ⟨1, true, 9, 1, Zaa Zah z⟩)] (lkS []) (fun H' hg ho => trivial) (fun H => ⟨(fun h => by cases h), by kernel_rfl, trivial⟩) (fun H => ⟨fun _ => ⟨rfl, bz⟩, by kernel_rfl, trivial⟩)) fun y9 m => Zby co tok (ZEV p0 p1 v4 y9) (lf2 [0, 8, 26, 27, 28] [((1, 48), true)]) m L fun r g _ m L => en co (ZD5 p0 p1 v4 y9) (lf1 [0, 8, 26, 27, 28]) nl hQ m L fun r g => id))), id⟩
end
theorem ZKf (p0 : List Fil) (p1 : Fil) : KC tp 27 [vL Zax p0, .agg ((Zax p1).map .d)] (ZfR p0 p1) E27 := kc1 Try.func27 Try.ntmps27 tok [.tmp 4] fun C co y m Post L => mi co 2 (ZuH p0 p1) (lf2 [0, 3, 5, 6, 7] [((1, 3), false)]) nl ii m L fun r g y1 _ m L => sq (rg (ZbL co tok 4 (Zu5 p0 p1 y1) (lf2 [0, 3, 23] [((1, 3), false)]) m L fun r g _ m L => ZaE co m 47 [.d (.list [ZbM y1.1, ZbM y1.2.1, ZbM y1.2.2])] [(1, 24)] ([((1, 24), ⟨0, false, 0, 0, []⟩)] ++ []) (fun z => .ref (1, 24) 1 0 z.length) (fun z => [((1, 24), ⟨1, true, 9, 1, Zaa Zah z⟩)]) [] (fun z => trivial) (trivial) (fun z hz r g => Zaf (ZG4 ([y1.1, y1.2.1, y1.2.2] : List (List Bt))) hz co g [((1, 24), ⟨0, false, 0, 0, []⟩)] [] [((1, 24), ⟨1, true, 9, 1, Zaa Zah z⟩)] (lkS []) (fun H' hg ho => trivial) (fun H => ⟨(fun h => by cases h), by kernel_rfl, trivial⟩) (fun H => ⟨fun _ => ⟨rfl, bz⟩, by kernel_rfl, trivial⟩)) fun y2 m => Zby co tok (ZEh p0 p1 y2) (lf2 [0, 3, 8] [((1, 3), false), ((1, 24), true)]) m L fun r g _ m L => sq (mi co 1 (ZAv p0 p1 y2) (lf2 [0, 8, 26, 27, 28] [((1, 24), true)]) nl ii m L fun r g _ m L => bk 0 (Zi4 co (ZEw p0 p1 y2) (lf1 [0, 8, 26, 27, 28]) m L fun r g _ m L => lo (lpF (ZzE p0 p1 co) ii m L (fun v10 m => fo co (ZEc v10) m L fun r g => id))))))
abbrev E55 : List Fld → AV := fun y => .ref (0, 0) 1 0 y.length
@[reducible] def G55 : List Fld → List Blk := fun y => [⟨1, true, 53, 16, Zaa Zc2 y⟩]
def ZBQ (p0 : List Fld) : PT 1 (List Fld) := al Zc2 p0 false fun b1 => br b1 (vw .sep <| vw (.ads 2 2 53 16) <| mv 2 0 ([] : List Fld) <| lr E55 (G55) ([] : List Fld)) (a0 p0 <| mv 7 0 p0 <| lr E55 (G55) p0)
def Zd0 (p0 : List Fld) : Option (List Fld) := (ZBQ p0).m
theorem ZKv (p0 : List Fld) : KO tp 55 1 [vL Zc2 p0] [⟨0, false, 0, 0, []⟩] (fun _ _ _ _ => True) (Zd0 p0) E55 (G55) := ko1 Try.func55 Try.ntmps55 tok [.tmp 2] 1 (fun C co hT y m Post L => fo co (ZBQ p0) m L fun r g => ⟨fun b1 => ⟨id, id⟩, by intro b h; subst h; cases b <;> rfl⟩) (hB := fun y => ⟨.inl (Zai _ _), rfl, trivial⟩)
abbrev ZIy : Bool → AV := fun y => vB y
def Zu6 (p0 : Bt) (p1 : Bt) : PT 0 (Bool) := vz (eqN p0.size) <| vz (eqN p1.size) <| vy (decide ((p1.size : Int) ≤ (p0.size : Int))) (eqN p1.size) <| ssg (decide ((p1.size : Int) ≤ (p0.size : Int))) p0 .no (.nt p1.size) fun s1 => lr ZIy (fun _ => []) (decide ((p1.size : Int) ≤ (p0.size : Int)) && decide (s1 = p1))
def ZcH (p0 : Bt) (p1 : Bt) : Option (Bool) := (Zu6 p0 p1).m
theorem ZHc (p0 : Bt) (p1 : Bt) : KC tp 142 [vS p0, vS p1] (ZcH p0 p1) ZIy := kc1 Try.func142 Try.ntmps142 tok [.tmp 4] fun C co y m Post L => fo co (Zu6 p0 p1) m L fun r g s1 => id
abbrev ZHr : Bt × Bool → AV := fun y => .tup [vS y.1, vB y.2]
def ZvA (p0 : Bt) (p1 : Bt) : PT 0 (Bt × Bool) := cl (ZHc p0 p1) fun y1 => br (!y1) (lr ZHr (fun _ => []) (p0, false)) (vz (eqN p1.size) <| ss p0 (.nt p1.size) .no fun s2 => lr ZHr (fun _ => []) (s2, true))
def ZcL (p0 : Bt) (p1 : Bt) : Option (Bt × Bool) := (ZvA p0 p1).m
theorem ZGP (p0 : Bt) (p1 : Bt) : KC tp 135 [vS p0, vS p1] (ZcL p0 p1) ZHr := kc1 Try.func135 Try.ntmps135 tok [.tmp 4, .tmp 5] fun C co y m Post L => fo co (ZvA p0 p1) m L fun r g y1 => ⟨id, fun s2 => id⟩
abbrev ZIT : Bt × Bool → AV := fun y => .tup [vS y.1, vB y.2]
def Zvb (p0 : Bt) (p1 : Bt) : PT 0 (Bt × Bool) := cl (ZGP p0 p1) fun y1 => lr ZIT (fun _ => []) (y1.1, y1.2)
def ZdH (p0 : Bt) (p1 : Bt) : Option (Bt × Bool) := (Zvb p0 p1).m
theorem ZG8 (p0 : Bt) (p1 : Bt) : KC tp 118 [vS p0, vS p1] (ZdH p0 p1) ZIT := kc1 Try.func118 Try.ntmps118 tok [.tmp 4, .tmp 5] fun C co y m Post L => fo co (Zvb p0 p1) m L fun r g y1 => id
abbrev ZGA : Int → AV := fun y => vI y
section
variable {C : Cx} (p0 : Bt) (p1 : Int)
def Zo0 : Int → St := fun v1 => mkS [(0, vS p0), (1, .d (.int .u8 p1)), (5, vI v1)] []
def ZuC : Unit → Nat × St := fun _ => (0, mkS [] [])
def ZvU (v1 : Int) : PT 0 (Lv (Int) (Unit) (Int)) := br (decide ((0 : Int) ≤ v1)) (ibi p0 v1 fun b2 => br (decide ((b2.toNat : Int) = p1)) (lrt ZGA (fun _ => []) v1) (vs (wi (v1 - 1)) <| ln (Zo0 p0 p1) (v1 - 1))) (lxe (ZuC) ())
def Zuw := fun (v1 : Int) => (ZvU p0 p1 v1).m
def ZvM : PT 0 (Int) := lr ZGA (fun _ => []) (-1)
def ZvF : PT 0 (Int) := vz (eqN p0.size) <| vs (wi ((p0.size : Int) - 1)) <| lc (Zo0 p0 p1 ((p0.size : Int) - 1)) ((Zaj (Zuw p0 p1) big ((p0.size : Int) - 1)).bind (Sum.elim (fun _ => (ZvM).m) some))
def ZvP : PT 0 (Int) := lc (mkS [(0, vS p0), (1, .d (.int .u8 p1))] []) ((ZvF p0 p1).m)
def ZbZ (p0 : Bt) (p1 : Int) : Option (Int) := (ZvP p0 p1).m
theorem ZqR (co : CO C 0) : Kl 19 C (pa [0, 0, 1, 0, 1] (Zac Try.f147)) [.tmp 4] 0 (Zo0 p0 p1) (ZuC) ZGA (fun _ => []) (Zuw p0 p1) := fun v1 _ m Q Post hQ L => en co (ZvU p0 p1 v1) (lf1 [0, 1, 5]) nl hQ m L fun r g => ⟨fun b2 => ⟨id, id⟩, id⟩
end
theorem ZHi (p0 : Bt) (p1 : Int) : KC tp 147 [vS p0, .d (.int .u8 p1)] (ZbZ p0 p1) ZGA := kc1 Try.func147 Try.ntmps147 tok [.tmp 4] fun C co y m Post L => mi co 1 (ZvP p0 p1) (lf1 [0, 1]) nl ii m L fun r g _ m L => sq (mi co 1 (ZvF p0 p1) (lf1 [0, 1, 5]) nl ii m L fun r g _ m L => bk 0 (lo (lpF (ZqR p0 p1 co) ii m L (fun _ m => fo co (ZvM) m L fun r g => id))))
abbrev ZIS : Int → AV := fun y => vI y
def ZuQ (p0 : Bt) (p1 : Int) : PT 0 (Int) := cl (ZHi p0 p1) fun y1 => lr ZIS (fun _ => []) y1
def ZcG (p0 : Bt) (p1 : Int) : Option (Int) := (ZuQ p0 p1).m
theorem ZG9 (p0 : Bt) (p1 : Int) : KC tp 143 [vS p0, .d (.int .u8 p1)] (ZcG p0 p1) ZIS := kc1 Try.func143 Try.ntmps143 tok [.tmp 4] fun C co y m Post L => fo co (ZuQ p0 p1) m L fun r g y1 => id
abbrev ZHl : Bt × Bt → AV := fun y => .tup [vS y.1, vS y.2]
def ZuO (p0 : Bt) : PT 0 (Bt × Bt) := cl (ZG9 p0 46) fun y1 => br (decide (y1 < (0 : Int))) (lr ZHl (fun _ => []) (⟨#[]⟩, p0)) (ss p0 .no (.it y1) fun s2 => vs (wi (y1 + 1)) <| ss p0 (.it (y1 + 1)) .no fun s3 => lr ZHl (fun _ => []) (s2, s3))
def Zhy (p0 : Bt) : Option (Bt × Bt) := (ZuO p0).m
theorem ZHE (p0 : Bt) : KC tp 136 [vS p0] (Zhy p0) ZHl := kc1 Try.func136 Try.ntmps136 tok [.tmp 2, .tmp 3] fun C co y m Post L => fo co (ZuO p0) m L fun r g y1 => ⟨id, fun s2 s3 => id⟩
abbrev ZGU : List Bt → AV := fun y => vL Zah y
section
variable {C : Cx}
def Zop : Bt × List Bt → St := fun (v1, r2) => mkS [(0, vS v1), (3, .ref (1, 5) 0 0 r2.length)] [((1, 5), ⟨0, true, 9, 1, Zaa Zah r2⟩)]
def ZvC : List Bt → Nat × St := fun r4 => (0, mkS [(3, .ref (1, 5) 0 0 r4.length)] [((1, 5), ⟨0, true, 9, 1, Zaa Zah r4⟩)])
def Zu2 (v1 : Bt) (r2 : List Bt) : PT 0 (Lv (Bt × List Bt) (List Bt) (List Bt)) := br (!decide (v1 = (⟨#[]⟩ : Bt))) (cl (ZHE v1) fun y3 => vw .sep <| vw .sep <| ap r2 (y3.1 : Bt) <| vz (fl (r2 ++ [y3.1])) <| ln (Zop) (y3.1, r2 ++ [y3.1])) (vz (fl r2) <| lxe (ZvC) r2)
def ZvG := fun ((v1, r2) : Bt × List Bt) => (Zu2 v1 r2).m
def Zva (r4 : List Bt) : PT 0 (List Bt) := vz (fr r4) <| lr ZGU (fun _ => []) r4
def Zu9 (p0 : Bt) : PT 0 (List Bt) := vw .go <| vz (fl ([p0] : List Bt)) <| lc (Zop (p0, ([p0] : List Bt))) ((Zaj (ZvG) big (p0, ([p0] : List Bt))).bind (Sum.elim (fun r4 => (Zva r4).m) some))
def ZnN (p0 : Bt) : Option (List Bt) := (Zu9 p0).m
theorem ZtS (co : CO C 0) : Kl 18 C (pa [0, 0, 0, 1, 1] (Zac Try.f119)) [.tmp 2] 0 (Zop) (ZvC) ZGU (fun _ => []) (ZvG) := fun (v1, r2) _ m Q Post hQ L => en co (Zu2 v1 r2) (lf2 [0, 3] [((1, 5), true)]) (lf2 [3] [((1, 5), true)]) hQ m L fun r g => ⟨fun y3 => id, id⟩
end
theorem ZHW (p0 : Bt) : KC tp 119 [vS p0] (ZnN p0) ZGU := kc1 Try.func119 Try.ntmps119 tok [.tmp 2] fun C co y m Post L => mi co 2 (Zu9 p0) (lf2 [0, 3] [((1, 5), true)]) nl ii m L fun r g _ m L => sq (bk 0 (lo (lpF (ZtS co) ii m L (fun r4 m => fo co (Zva r4) m L fun r g => id))))
abbrev E92 : Bt × Bool → AV := fun y => .tup [vS y.1, vB y.2]
section
variable {C : Cx} (p0 p1 : Bt) (p2 y3 : List Bt)
abbrev Zy3 := PT 0 (Bt × Bool)
def Zxl : Nat → St := fun v4 => mkS [(1, vS p1), (2, vL Zah p2), (24, vL Zah y3), (25, vN y3.length), (26, vN v4)] []
def ZCn : Unit → Nat × St := fun _ => (0, mkS [] [])
def ZA9 (v4 : Nat) : PT 0 (Lv (Nat) (Unit) (Bt × Bool)) := br (decide ((v4 : Int) < (y3.length : Int))) (ix y3 v4 fun e5 => cl (ZzQ e5 p1) fun y6 => cl (ZBZ p2 y6) fun y7 => br y7 (lrt E92 (fun _ => []) (y6, true)) (vs (wa v4 1) <| ln (Zxl p1 p2 y3) (v4 + 1))) (lxe (ZCn) ())
def ZBB := fun (v4 : Nat) => (ZA9 p1 p2 y3 v4).m
def ZB7 : Zy3 := lr E92 (fun _ => []) (⟨#[]⟩, false)
def ZB3 : Zy3 := cl (ZHW p0) fun y3 => vz (eqL y3) <| lc (Zxl p1 p2 y3 0) ((Zaj (ZBB p1 p2 y3) big 0).bind (Sum.elim (fun _ => (ZB7).m) some))
def ZEG : Zy3 := cl (ZG8 p1 ⟨#[46]⟩) fun y1 => br y1.2 (cl (ZBZ p2 y1.1) fun y2 => br y2 (lr E92 (fun _ => []) (y1.1, true)) (lr E92 (fun _ => []) (⟨#[]⟩, false))) (lc (mkS [(0, vS p0), (1, vS p1), (2, vL Zah p2)] []) ((ZB3 p0 p1 p2).m))
def Zft (p0 : Bt) (p1 : Bt) (p2 : List Bt) : Option (Bt × Bool) := (ZEG p0 p1 p2).m
theorem Zy2 (co : CO C 0) : Kl 38 C (pa [0, 0, 1, 0, 1, 1] (Zac Try.f92)) [.tmp 6, .tmp 7] 0 (Zxl p1 p2 y3) (ZCn) E92 (fun _ => []) (ZBB p1 p2 y3) := fun v4 _ m Q Post hQ L => en co (ZA9 p1 p2 y3 v4) (lf1 [1, 2, 24, 25, 26]) nl hQ m L fun r g => ⟨fun e5 y6 y7 => ⟨id, id⟩, id⟩
end
theorem ZI6 (p0 : Bt) (p1 : Bt) (p2 : List Bt) : KC tp 92 [vS p0, vS p1, vL Zah p2] (Zft p0 p1 p2) E92 := kc1 Try.func92 Try.ntmps92 tok [.tmp 6, .tmp 7] fun C co y m Post L => mi co 2 (ZEG p0 p1 p2) (lf1 [0, 1, 2]) nl ii m L fun r g y1 => ⟨fun y2 => ⟨id, id⟩, fun _ m L => sq (mi co 1 (ZB3 p0 p1 p2) (lf1 [1, 2, 24, 25, 26]) nl ii m L fun r g y3 _ m L => bk 0 (lo (lpF (Zy2 p1 p2 y3 co) ii m L (fun _ m => fo co (ZB7) m L fun r g => id))))⟩
abbrev ZGw : Int → AV := fun y => vI y
def ZH4 (pf1 : Enm → Option Bool) : Cl := fun no l H θ => (∀ (z0 : Enm) y, pf1 z0 = some y → Ze5 tp l no H (θ 1) [.agg ((Zag z0).map .d)] (vB y))
section
variable {C : Cx} (p0 : List Enm) (pf1 : Enm → Option Bool)
def Zp9 : Nat → St := fun v1 => mkS [(0, vL Zag p0), (1, .fn (.yield 1) [] []), (7, vN p0.length), (8, vN v1)] []
def ZuG : Unit → Nat × St := fun _ => (0, mkS [] [])
def Zuy (v1 : Nat) : PT 0 (Lv (Nat) (Unit) (Int)) := br (decide ((v1 : Int) < (p0.length : Int))) (ix p0 v1 fun e2 => cf tp 1 [.agg ((Zag e2).map .d)] (pf1 e2) (fun y => vB y) fun y3 => br y3 (lrt ZGw (fun _ => []) (v1 : Int)) (vs (wa v1 1) <| ln (Zp9 p0) (v1 + 1))) (lxe (ZuG) ())
def ZuJ := fun (v1 : Nat) => (Zuy p0 pf1 v1).m
def Zuu : PT 0 (Int) := lr ZGw (fun _ => []) (-1)
def Zvt : PT 0 (Int) := vz (eqL p0) <| lc (Zp9 p0 0) ((Zaj (ZuJ p0 pf1) big 0).bind (Sum.elim (fun _ => (Zuu).m) some))
def ZvB : PT 0 (Int) := lc (mkS [(0, vL Zag p0), (1, .fn (.yield 1) [] [])] []) ((Zvt p0 pf1).m)
def ZcR (p0 : List Enm) (pf1 : Enm → Option Bool) : Option (Int) := (ZvB p0 pf1).m
theorem Zr1 (co : CO C 0) (hT : (ZH4 pf1) C.no C.l C.H0 C.θ) : Kl 19 C (pa [0, 0, 1, 0, 1] (Zac Try.f103)) [.tmp 4] 0 (Zp9 p0) (ZuG) ZGw (fun _ => []) (ZuJ p0 pf1) := fun v1 _ m Q Post hQ L => en co (Zuy p0 pf1 v1) (lf1 [0, 1, 7, 8]) nl hQ m L fun r g => ⟨fun e2 => ⟨⟨fun y hy => hT _ y hy, by intro r; kernel_rfl, by intro r y; kernel_rfl⟩, fun y3 => ⟨id, id⟩⟩, id⟩
end
theorem ZGW (p0 : List Enm) (pf1 : Enm → Option Bool) : KO tp 103 0 [vL Zag p0, .fn (.yield 1) [] []] [] (ZH4 pf1) (ZcR p0 pf1) ZGw (fun _ => []) := ko1 Try.func103 Try.ntmps103 tok [.tmp 4] 0 (fun C co hT y m Post L => mi co 1 (ZvB p0 pf1) (lf1 [0, 1]) nl ii m L fun r g _ m L => sq (mi co 1 (Zvt p0 pf1) (lf1 [0, 1, 7, 8]) nl ii m L fun r g _ m L => bk 0 (lo (lpF (Zr1 p0 pf1 co hT) ii m L (fun _ m => fo co (Zuu) m L fun r g => id)))))
abbrev ZIj : Bool → AV := fun y => vB y
def ZJo (pf1 : Enm → Option Bool) : Cl := fun no l H θ => (∀ (z0 : Enm) y, pf1 z0 = some y → Ze5 tp l no H (θ 1) [.agg ((Zag z0).map .d)] (vB y))
def Zup (p0 : List Enm) (pf1 : Enm → Option Bool) : PT 0 (Bool) := cs tp 103 [vL Zag p0, .fn (.yield 1) [] []] [] [] (ZcR p0 pf1) (fun y => vI y) fun y1 => lr ZIj (fun _ => []) (decide ((0 : Int) ≤ y1))
def Zcg (p0 : List Enm) (pf1 : Enm → Option Bool) : Option (Bool) := (Zup p0 pf1).m
theorem ZHJ (p0 : List Enm) (pf1 : Enm → Option Bool) : KO tp 120 0 [vL Zag p0, .fn (.yield 1) [] []] [] (ZJo pf1) (Zcg p0 pf1) ZIj (fun _ => []) := ko1 Try.func120 Try.ntmps120 tok [.tmp 4] 0 (fun C co hT y m Post L => fo co (Zup p0 pf1) m L fun r g => ⟨fun y hy => ZaB (ZGW p0 pf1) hy co g [] [] (lkS [(1, r.θ 1)]) (fun H' hg ho => (fun z0 y hz => ZaF co g [] ho (hT z0 y hz))) (fun H => trivial), fun y1 => id⟩)
abbrev ZIb : Bool → AV := fun y => vB y
@[reducible] def ZJi (w0 : Bt) : Bool → List Blk := fun y => [⟨0, true, 9, 1, [vS w0]⟩]
def ZuM (p0 : Enm) (w0 : Bt) : PT 1 (Bool) := vw .go <| vw .go <| lr ZIb (ZJi w0) (decide (p0.name = w0))
def Zbc (p0 : Enm) (w0 : Bt) : Option (Bool) := (ZuM p0 w0).m
theorem ZHa (p0 : Enm) (w0 : Bt) : KO tp 121 1 [.agg ((Zag p0).map .d), .ptr (0, 0) 0 0] [⟨0, true, 9, 1, [vS w0]⟩] (fun _ _ _ _ => True) (Zbc p0 w0) ZIb (ZJi w0) := ko1 Try.func121 Try.ntmps121 tok [.tmp 3] 1 (fun C co hT y m Post L => fo co (ZuM p0 w0) m L fun r g => id) (hB := fun y => ⟨.inr (by kernel_rfl), rfl, trivial⟩)
abbrev E93 : Bool → AV := fun y => vB y
@[reducible] def G93 (p0 : Lnk) : Bool → List Blk := fun y => [⟨0, true, 76, 10, [vL Zax p0.files, vS p0.f.name, vS p0.f.space, vL Zah p0.f.imports, vL Zak p0.f.messages, vL Zag p0.f.enums, vL Zal p0.f.services, vL Zah p0.known, vL Zah p0.messages, vL Zag p0.enums]⟩]
def ZF8 (p0 : Lnk) (p1 : Bt) : PT 1 (Bool) := vw .go <| cs tp 120 [vL Zag p0.enums, .fn (.func 121) [] [.ptr (1, 3) 1 0]] [(1, 3)] [((1, 3), ⟨1, true, 9, 1, [vS p1]⟩)] (Zcg p0.enums (fun (z0 : Enm) => Zbc z0 p1)) (fun y => vB y) fun y1 => lr E93 (G93 p0) y1
def Zb3 (p0 : Lnk) (p1 : Bt) : Option (Bool) := (ZF8 p0 p1).m
theorem ZJ4 (p0 : Lnk) (p1 : Bt) : KO tp 93 1 [.ptr (0, 0) 0 0, vS p1] [⟨0, true, 76, 10, [vL Zax p0.files, vS p0.f.name, vS p0.f.space, vL Zah p0.f.imports, vL Zak p0.f.messages, vL Zag p0.f.enums, vL Zal p0.f.services, vL Zah p0.known, vL Zah p0.messages, vL Zag p0.enums]⟩] (fun _ _ _ _ => True) (Zb3 p0 p1) E93 (G93 p0) := ko1 Try.func93 Try.ntmps93 tok [.tmp 4] 1 (fun C co hT y m Post L => fo co (ZF8 p0 p1) m L fun r g => ⟨fun y hy => ZaB (ZHJ p0.enums (fun (z0 : Enm) => Zbc z0 p1)) hy co g [] [((1, 3), ⟨1, true, 9, 1, [vS p1]⟩)] (lkS [(1, .fn (.func 121) [] [.ptr (r.κ (1, 3)) (r.γ (1, 3) + 1) 0])]) (fun H' hg ho => (fun z0 y hz => Zfh (ZHa z0 p1) hz co g [((1, 3), ⟨1, true, 9, 1, [vS p1]⟩)] [] hg (by simp) (fun _ => .top) (fun _ _ => trivial) (fun l H => ⟨fun _ => ⟨rfl, by kernel_rfl⟩, by kernel_rfl, trivial⟩))) (fun H => trivial), fun y1 => id⟩) (hB := fun y => ⟨.inr (by kernel_rfl), rfl, trivial⟩)
abbrev E94 : Int × Bool → AV := fun y => .tup [.d (.int .u64 y.1), vB y.2]
@[reducible] def G94 (p0 : Lnk) : Int × Bool → List Blk := fun y => [⟨0, true, 76, 10, [vL Zax p0.files, vS p0.f.name, vS p0.f.space, vL Zah p0.f.imports, vL Zak p0.f.messages, vL Zag p0.f.enums, vL Zal p0.f.services, vL Zah p0.known, vL Zah p0.messages, vL Zag p0.enums]⟩]
section
variable {C : Cx} (co : CO C 1) (p0 : Lnk) (p1 p2 : Bt) (v1 : Nat) (e2 : Enm)
abbrev Zpm := PT 1 (Lv (Nat) (Unit) (Int × Bool))
abbrev ZjY : List (Key × Blk) := [((0, 0), ⟨0, true, 76, 10, [vL Zax p0.files, vS p0.f.name, vS p0.f.space, vL Zah p0.f.imports, vL Zak p0.f.messages, vL Zag p0.f.enums, vL Zal p0.f.services, vL Zah p0.known, vL Zah p0.messages, vL Zag p0.enums]⟩)]
abbrev ZqM : List (Nat × AV) := [(1, vS p1), (2, vS p2), (15, vL Zag p0.enums), (16, vN p0.enums.length), (17, vN v1)]
def Zru : Nat → St := fun v1 => mkS (ZqM p0 p1 p2 v1) (ZjY p0)
def ZBv : Unit → Nat × St := fun _ => (0, mkS [] (ZjY p0))
def Zwg : Nat → St := fun v3 => mkS [(1, vS p1), (2, vS p2), (15, vL Zag p0.enums), (16, vN p0.enums.length), (17, vN v1), (26, vL ZmG e2.items), (27, vN e2.items.length), (28, vN v3)] (ZjY p0)
def ZDu : Unit → Nat × St := fun _ => (2, mkS (ZqM p0 p1 p2 v1) (ZjY p0))
def ZC0 (v3 : Nat) : Zpm := br (decide ((v3 : Int) < (e2.items.length : Int))) (ix e2.items v3 fun e4 => vw .go <| vw .go <| br (decide (e4.name = p2)) (vw .go <| vz (wk .u64 e4.num) <| lrt E94 (G94 p0) ((IntKind.u64.wrap e4.num), true)) (vs (wa v3 1) <| ln (Zwg p0 p1 p2 v1 e2) (v3 + 1))) (lxe (ZDu p0 p1 p2 v1) ())
def ZDE := fun (v3 : Nat) => (ZC0 p0 p1 p2 v1 e2 v3).m
def ZFH : Zpm := vs (wa v1 1) <| ln (Zru p0 p1 p2) (v1 + 1)
def ZAW : Zpm := vs (wa v1 1) <| ln (Zru p0 p1 p2) (v1 + 1)
def ZFj : Zpm := ix p0.enums v1 fun e2 => vw .go <| vw .go <| br (!decide (e2.name = p1)) (lxc 1 (mkS (ZqM p0 p1 p2 v1) (ZjY p0)) ((ZAW p0 p1 p2 v1).m)) (vw .go <| vz (eqL e2.items) <| lc (Zwg p0 p1 p2 v1 e2 0) ((Zaj (ZDE p0 p1 p2 v1 e2) big 0).bind (Sum.elim (fun _ => (ZFH p0 p1 p2 v1).m) (fun z => some (.rt z)))))
def ZFQ : Zpm := br (decide ((v1 : Int) < (p0.enums.length : Int))) (lc (mkS (ZqM p0 p1 p2 v1) (ZjY p0)) ((ZFj p0 p1 p2 v1).m)) (lxe (ZBv p0) ())
def ZAM := fun (v1 : Nat) => (ZFQ p0 p1 p2 v1).m
def ZEq : PT 1 (Int × Bool) := lr E94 (G94 p0) (0, false)
def ZDq : PT 1 (Int × Bool) := vw .go <| vz (eqL p0.enums) <| lc (Zru p0 p1 p2 0) ((Zaj (ZAM p0 p1 p2) big 0).bind (Sum.elim (fun _ => (ZEq p0).m) some))
def ZBS : PT 1 (Int × Bool) := lc (mkS [(0, .ptr (0, 0) 0 0), (1, vS p1), (2, vS p2)] (ZjY p0)) ((ZDq p0 p1 p2).m)
def Zbj (p0 : Lnk) (p1 : Bt) (p2 : Bt) : Option (Int × Bool) := (ZBS p0 p1 p2).m
section
include co
theorem Zwm : Kl 41 C (pa [0, 0, 1, 1, 1, 0, 0, 1, 1, 0, 0, 1, 0, 1] (Zac Try.f94)) [.tmp 6, .tmp 7] 1 (Zwg p0 p1 p2 v1 e2) (ZDu p0 p1 p2 v1) E94 (G94 p0) (ZDE p0 p1 p2 v1 e2) := fun v3 _ m Q Post hQ L => en co (ZC0 p0 p1 p2 v1 e2 v3) (lf2 [1, 2, 15, 16, 17, 26, 27, 28] [((0, 0), false)]) (lf2 [1, 2, 15, 16, 17] [((0, 0), false)]) hQ m L fun r g => ⟨fun e4 => ⟨id, id⟩, id⟩
theorem Zwo : Kl 41 C (pa [0, 0, 1, 0, 1] (Zac Try.f94)) [.tmp 6, .tmp 7] 1 (Zru p0 p1 p2) (ZBv p0) E94 (G94 p0) (ZAM p0 p1 p2) := fun v1 _ m Q Post hQ L => mi co 2 (ZFQ p0 p1 p2 v1) (lf2 [1, 2, 15, 16, 17] [((0, 0), false)]) (lf2 [] [((0, 0), false)]) hQ m L fun r g => ⟨fun _ m L => sq (bk 1 (mi co 3 (ZFj p0 p1 p2 v1) (lf2 [1, 2, 15, 16, 17, 26, 27, 28] [((0, 0), false)]) (lf2 [1, 2, 15, 16, 17] [((0, 0), false)]) hQ m L fun r g e2 => ⟨fun _ m L => en co (ZAW p0 p1 p2 v1) (lf2 [1, 2, 15, 16, 17] [((0, 0), false)]) nl hQ m L fun r g => id, fun _ m L => bk 2 (lo (lpL (Zwm co p0 p1 p2 v1 e2) hQ m L (fun _ m => en co (ZFH p0 p1 p2 v1) (lf2 [1, 2, 15, 16, 17] [((0, 0), false)]) nl hQ m L fun r g => id)))⟩)), id⟩
end
end
theorem ZHR (p0 : Lnk) (p1 : Bt) (p2 : Bt) : KO tp 94 1 [.ptr (0, 0) 0 0, vS p1, vS p2] [⟨0, true, 76, 10, [vL Zax p0.files, vS p0.f.name, vS p0.f.space, vL Zah p0.f.imports, vL Zak p0.f.messages, vL Zag p0.f.enums, vL Zal p0.f.services, vL Zah p0.known, vL Zah p0.messages, vL Zag p0.enums]⟩] (fun _ _ _ _ => True) (Zbj p0 p1 p2) E94 (G94 p0) := ko1 Try.func94 Try.ntmps94 tok [.tmp 6, .tmp 7] 1 (fun C co hT y m Post L => mi co 1 (ZBS p0 p1 p2) (lf2 [0, 1, 2] [((0, 0), false)]) nl ii m L fun r g _ m L => sq (mi co 1 (ZDq p0 p1 p2) (lf2 [1, 2, 15, 16, 17] [((0, 0), false)]) nl ii m L fun r g _ m L => bk 0 (lo (lpF (Zwo co p0 p1 p2) ii m L (fun _ m => fo co (ZEq p0) m L fun r g => id))))) (hB := fun y => ⟨.inr (by kernel_rfl), rfl, trivial⟩)
abbrev E56 : Fld × Int → AV := fun y => .tup [.agg ((Zc2 y.1).map .d), vI y.2]
@[reducible] def G56 (p0 : Lnk) : Fld × Int → List Blk := fun y => [⟨0, true, 76, 10, [vL Zax p0.files, vS p0.f.name, vS p0.f.space, vL Zah p0.f.imports, vL Zak p0.f.messages, vL Zag p0.f.enums, vL Zal p0.f.services, vL Zah p0.known, vL Zah p0.messages, vL Zag p0.enums]⟩]
def ZA6 (p0 : Lnk) (p1 : Bt) (p2 : Fld) : PT 1 (Fld × Int) := vw .go <| br (decide (p2.type.kind = (0 : Int))) (vw .go <| vw .go <| cl (ZI6 p1 p2.type.name p0.known) fun y1 => br (!y1.2) (vw .go <| vw .go <| lr E56 (G56 p0) (p2, 8)) (vw .go <| cl (ZBZ p0.messages y1.1) fun y2 => br y2 (vw .go <| vw .go <| br (!p2.hasDefault) (vw .go <| vw .go <| lr E56 (G56 p0) ((.mk p2.num p2.name p2.card p2.key (.mk 10 y1.1 : Typ) p2.union p2.hasDefault p2.dflt p2.notes : Fld), 0)) (vw .go <| br (decide (p2.type.kind = (0 : Int)) || false) (vw .go <| vw .go <| lr E56 (G56 p0) ((.mk p2.num p2.name p2.card p2.key (.mk 10 y1.1 : Typ) p2.union p2.hasDefault p2.dflt p2.notes : Fld), 12)) (br (decide (p2.type.kind = (0 : Int))) (vw .go <| br (!decide (p2.dflt.kind = (9 : Int))) (vw .go <| vw .go <| lr E56 (G56 p0) ((.mk p2.num p2.name p2.card p2.key (.mk 10 y1.1 : Typ) p2.union p2.hasDefault p2.dflt p2.notes : Fld), 12)) (vw .go <| vw .go <| cs tp 94 [.ptr (0, 0) 0 0, vS y1.1, vS p2.dflt.text] [(0, 0)] [((0, 0), ⟨0, true, 76, 10, [vL Zax p0.files, vS p0.f.name, vS p0.f.space, vL Zah p0.f.imports, vL Zak p0.f.messages, vL Zag p0.f.enums, vL Zal p0.f.services, vL Zah p0.known, vL Zah p0.messages, vL Zag p0.enums]⟩)] (Zbj p0 y1.1 p2.dflt.text) (fun y => .tup [.d (.int .u64 y.1), vB y.2]) fun y3 => br (!y3.2) (vw .go <| vw .go <| lr E56 (G56 p0) ((.mk p2.num p2.name p2.card p2.key (.mk 10 y1.1 : Typ) p2.union p2.hasDefault p2.dflt p2.notes : Fld), 16)) (vw .go <| vw .go <| vw .go <| lr E56 (G56 p0) ((.mk p2.num p2.name p2.card p2.key (.mk 10 y1.1 : Typ) p2.union p2.hasDefault (.mk 9 y3.1 ⟨#[]⟩ [] [] [] [] : Val) p2.notes : Fld), 0)))) (vw .go <| vw .go <| br (!decide (p2.dflt.kind = (10 : Int))) (vw .go <| vw .go <| lr E56 (G56 p0) ((.mk p2.num p2.name p2.card p2.key (.mk 10 y1.1 : Typ) p2.union p2.hasDefault p2.dflt p2.notes : Fld), 12)) (vw .go <| vw .go <| lr E56 (G56 p0) ((.mk p2.num p2.name p2.card p2.key (.mk 10 y1.1 : Typ) p2.union p2.hasDefault p2.dflt p2.notes : Fld), 0)))))) (cs tp 93 [.ptr (0, 0) 0 0, vS y1.1] [(0, 0)] [((0, 0), ⟨0, true, 76, 10, [vL Zax p0.files, vS p0.f.name, vS p0.f.space, vL Zah p0.f.imports, vL Zak p0.f.messages, vL Zag p0.f.enums, vL Zal p0.f.services, vL Zah p0.known, vL Zah p0.messages, vL Zag p0.enums]⟩)] (Zb3 p0 y1.1) (fun y => vB y) fun y4 => br y4 (vw .go <| vw .go <| br (!p2.hasDefault) (vw .go <| vw .go <| lr E56 (G56 p0) ((.mk p2.num p2.name p2.card p2.key (.mk 9 y1.1 : Typ) p2.union p2.hasDefault p2.dflt p2.notes : Fld), 0)) (vw .go <| br (decide (p2.type.kind = (0 : Int)) && false) (vw .go <| vw .go <| lr E56 (G56 p0) ((.mk p2.num p2.name p2.card p2.key (.mk 9 y1.1 : Typ) p2.union p2.hasDefault p2.dflt p2.notes : Fld), 12)) (br (decide (p2.type.kind = (0 : Int))) (vw .go <| br (!decide (p2.dflt.kind = (9 : Int))) (vw .go <| vw .go <| lr E56 (G56 p0) ((.mk p2.num p2.name p2.card p2.key (.mk 9 y1.1 : Typ) p2.union p2.hasDefault p2.dflt p2.notes : Fld), 12)) (vw .go <| vw .go <| cs tp 94 [.ptr (0, 0) 0 0, vS y1.1, vS p2.dflt.text] [(0, 0)] [((0, 0), ⟨0, true, 76, 10, [vL Zax p0.files, vS p0.f.name, vS p0.f.space, vL Zah p0.f.imports, vL Zak p0.f.messages, vL Zag p0.f.enums, vL Zal p0.f.services, vL Zah p0.known, vL Zah p0.messages, vL Zag p0.enums]⟩)] (Zbj p0 y1.1 p2.dflt.text) (fun y => .tup [.d (.int .u64 y.1), vB y.2]) fun y5 => br (!y5.2) (vw .go <| vw .go <| lr E56 (G56 p0) ((.mk p2.num p2.name p2.card p2.key (.mk 9 y1.1 : Typ) p2.union p2.hasDefault p2.dflt p2.notes : Fld), 16)) (vw .go <| vw .go <| vw .go <| lr E56 (G56 p0) ((.mk p2.num p2.name p2.card p2.key (.mk 9 y1.1 : Typ) p2.union p2.hasDefault (.mk 9 y5.1 ⟨#[]⟩ [] [] [] [] : Val) p2.notes : Fld), 0)))) (vw .go <| vw .go <| br (!decide (p2.dflt.kind = (9 : Int))) (vw .go <| vw .go <| lr E56 (G56 p0) ((.mk p2.num p2.name p2.card p2.key (.mk 9 y1.1 : Typ) p2.union p2.hasDefault p2.dflt p2.notes : Fld), 12)) (vw .go <| vw .go <| lr E56 (G56 p0) ((.mk p2.num p2.name p2.card p2.key (.mk 9 y1.1 : Typ) p2.union p2.hasDefault p2.dflt p2.notes : Fld), 0)))))) (vw .go <| vw .go <| lr E56 (G56 p0) (p2, 12))))) (vw .go <| br (!p2.hasDefault) (vw .go <| vw .go <| lr E56 (G56 p0) (p2, 0)) (vw .go <| br (decide (p2.type.kind = (0 : Int)) && decide (p2.type.kind = (10 : Int))) (vw .go <| vw .go <| lr E56 (G56 p0) (p2, 12)) (br (decide (p2.type.kind = (0 : Int))) (vw .go <| br (!decide (p2.dflt.kind = (9 : Int))) (vw .go <| vw .go <| lr E56 (G56 p0) (p2, 12)) (vw .go <| vw .go <| cs tp 94 [.ptr (0, 0) 0 0, vS p2.type.name, vS p2.dflt.text] [(0, 0)] [((0, 0), ⟨0, true, 76, 10, [vL Zax p0.files, vS p0.f.name, vS p0.f.space, vL Zah p0.f.imports, vL Zak p0.f.messages, vL Zag p0.f.enums, vL Zal p0.f.services, vL Zah p0.known, vL Zah p0.messages, vL Zag p0.enums]⟩)] (Zbj p0 p2.type.name p2.dflt.text) (fun y => .tup [.d (.int .u64 y.1), vB y.2]) fun y6 => br (!y6.2) (vw .go <| vw .go <| lr E56 (G56 p0) (p2, 16)) (vw .go <| vw .go <| vw .go <| lr E56 (G56 p0) ((.mk p2.num p2.name p2.card p2.key p2.type p2.union p2.hasDefault (.mk 9 y6.1 ⟨#[]⟩ [] [] [] [] : Val) p2.notes : Fld), 0)))) (vw .go <| vw .go <| br (!decide (p2.dflt.kind = p2.type.kind)) (vw .go <| vw .go <| lr E56 (G56 p0) (p2, 12)) (vw .go <| vw .go <| lr E56 (G56 p0) (p2, 0))))))
def Zch (p0 : Lnk) (p1 : Bt) (p2 : Fld) : Option (Fld × Int) := (ZA6 p0 p1 p2).m
theorem ZJx (p0 : Lnk) (p1 : Bt) (p2 : Fld) : KO tp 56 1 [.ptr (0, 0) 0 0, vS p1, .agg ((Zc2 p2).map .d)] [⟨0, true, 76, 10, [vL Zax p0.files, vS p0.f.name, vS p0.f.space, vL Zah p0.f.imports, vL Zak p0.f.messages, vL Zag p0.f.enums, vL Zal p0.f.services, vL Zah p0.known, vL Zah p0.messages, vL Zag p0.enums]⟩] (fun _ _ _ _ => True) (Zch p0 p1 p2) E56 (G56 p0) := ko1 Try.func56 Try.ntmps56 tok [.cell 6 53, .tmp 7] 1 (fun C co hT y m Post L => fo co (ZA6 p0 p1 p2) m L fun r g => ⟨fun y1 => ⟨id, fun y2 => ⟨⟨id, ⟨id, ⟨⟨id, ⟨fun y hy => ZaB (ZHR p0 y1.1 p2.dflt.text) hy co g [((0, 0), ⟨0, true, 76, 10, [vL Zax p0.files, vS p0.f.name, vS p0.f.space, vL Zah p0.f.imports, vL Zak p0.f.messages, vL Zag p0.f.enums, vL Zal p0.f.services, vL Zah p0.known, vL Zah p0.messages, vL Zag p0.enums]⟩)] [] (lkS []) (fun H' hg ho => trivial) (fun H => ⟨fun _ => ⟨rfl, by kernel_rfl⟩, by kernel_rfl, trivial⟩), fun y3 => ⟨id, id⟩⟩⟩, ⟨id, id⟩⟩⟩⟩, ⟨fun y hy => ZaB (ZJ4 p0 y1.1) hy co g [((0, 0), ⟨0, true, 76, 10, [vL Zax p0.files, vS p0.f.name, vS p0.f.space, vL Zah p0.f.imports, vL Zak p0.f.messages, vL Zag p0.f.enums, vL Zal p0.f.services, vL Zah p0.known, vL Zah p0.messages, vL Zag p0.enums]⟩)] [] (lkS []) (fun H' hg ho => trivial) (fun H => ⟨fun _ => ⟨rfl, by kernel_rfl⟩, by kernel_rfl, trivial⟩), fun y4 => ⟨⟨id, ⟨id, ⟨⟨id, ⟨fun y hy => ZaB (ZHR p0 y1.1 p2.dflt.text) hy co g [((0, 0), ⟨0, true, 76, 10, [vL Zax p0.files, vS p0.f.name, vS p0.f.space, vL Zah p0.f.imports, vL Zak p0.f.messages, vL Zag p0.f.enums, vL Zal p0.f.services, vL Zah p0.known, vL Zah p0.messages, vL Zag p0.enums]⟩)] [] (lkS []) (fun H' hg ho => trivial) (fun H => ⟨fun _ => ⟨rfl, by kernel_rfl⟩, by kernel_rfl, trivial⟩), fun y5 => ⟨id, id⟩⟩⟩, ⟨id, id⟩⟩⟩⟩, id⟩⟩⟩⟩, ⟨id, ⟨id, ⟨⟨id, ⟨fun y hy => ZaB (ZHR p0 p2.type.name p2.dflt.text) hy co g [((0, 0), ⟨0, true, 76, 10, [vL Zax p0.files, vS p0.f.name, vS p0.f.space, vL Zah p0.f.imports, vL Zak p0.f.messages, vL Zag p0.f.enums, vL Zal p0.f.services, vL Zah p0.known, vL Zah p0.messages, vL Zag p0.enums]⟩)] [] (lkS []) (fun H' hg ho => trivial) (fun H => ⟨fun _ => ⟨rfl, by kernel_rfl⟩, by kernel_rfl, trivial⟩), fun y6 => ⟨id, id⟩⟩⟩, ⟨id, id⟩⟩⟩⟩⟩) (hB := fun y => ⟨.inr (by kernel_rfl), rfl, trivial⟩)
abbrev E28 : Msg × Int → AV := fun y => .tup [.agg ((Zak y.1).map .d), vI y.2]
@[reducible] def G28 (p0 : Lnk) : Msg × Int → List Blk := fun y => [⟨0, true, 76, 10, [vL Zax p0.files, vS p0.f.name, vS p0.f.space, vL Zah p0.f.imports, vL Zak p0.f.messages, vL Zag p0.f.enums, vL Zal p0.f.services, vL Zah p0.known, vL Zah p0.messages, vL Zag p0.enums]⟩]
section
variable {C : Cx} (p0 : Lnk) (p1 : Msg) (y1 : Bt) (y2 : List Fld)
abbrev Zpx := PT 1 (Msg × Int)
abbrev Zsa : Blk := ⟨0, true, 76, 10, [vL Zax p0.files, vS p0.f.name, vS p0.f.space, vL Zah p0.f.imports, vL Zak p0.f.messages, vL Zag p0.f.enums, vL Zal p0.f.services, vL Zah p0.known, vL Zah p0.messages, vL Zag p0.enums]⟩
abbrev ZqO : Blk := ⟨0, true, 39, 5, [vS ⟨#[]⟩, .e0, .e0, .e0, .e0]⟩
abbrev Zwk : Blk := ⟨0, true, 39, 5, [vS y1, .ref (1, 21) 0 0 y2.length, vL ZeI p1.reserved, vL Zah p1.gone, vL eNt p1.notes]⟩
abbrev ZDQ : List (Key × Blk) := [((0, 0), (Zsa p0)), ((1, 3), ⟨0, true, 39, 5, [vS y1, vL Zc2 p1.fields, vL ZeI p1.reserved, vL Zah p1.gone, vL eNt p1.notes]⟩), ((1, 4), ZqO)]
abbrev ZCK : List (Nat × AV) := [(0, .ptr (0, 0) 0 0), (3, .ptr (1, 3) 0 0), (4, .ptr (1, 4) 0 0)]
abbrev ZDw : List (Key × Bool) := [((0, 0), false), ((1, 3), false), ((1, 4), false), ((1, 21), true)]
def ZyJ : Nat × List Fld → St := fun (v3, r4) => mkS [(0, .ptr (0, 0) 0 0), (3, .ptr (1, 3) 0 0), (4, .ptr (1, 4) 0 0), (24, .ref (1, 21) 0 0 y2.length), (25, vN y2.length), (26, vN v3)] [((0, 0), (Zsa p0)), ((1, 3), (Zwk p1 y1 y2)), ((1, 4), ZqO), ((1, 21), ⟨0, true, 53, 16, Zaa Zc2 r4⟩)]
def ZAH : List Fld → Nat × St := fun r7 => (0, mkS [(3, .ptr (1, 3) 0 0), (4, .ptr (1, 4) 0 0)] [((0, 0), (Zsa p0)), ((1, 3), (Zwk p1 y1 y2)), ((1, 4), ZqO), ((1, 21), ⟨0, true, 53, 16, Zaa Zc2 r7⟩)])
def ZAu (v3 : Nat) (r4 : List Fld) : PT 1 (Lv (Nat × List Fld) (List Fld) (Msg × Int)) := br (decide ((v3 : Int) < (y2.length : Int))) (vs (ir v3 y2.length 16) <| ca r4 v3 fun e5 => vw .go <| vw .go <| vw .go <| cs tp 56 [.ptr (0, 0) 0 0, vS y1, .agg ((Zc2 e5).map .d)] [(0, 0)] [((0, 0), ⟨0, true, 76, 10, [vL Zax p0.files, vS p0.f.name, vS p0.f.space, vL Zah p0.f.imports, vL Zak p0.f.messages, vL Zag p0.f.enums, vL Zal p0.f.services, vL Zah p0.known, vL Zah p0.messages, vL Zag p0.enums]⟩)] (Zch p0 y1 e5) (fun y => .tup [.agg ((Zc2 y.1).map .d), vI y.2]) fun y6 => vw .go <| br (!decide (y6.2 = (0 : Int))) (vw .go <| vw .go <| vs (frt y2.length r4) <| lrt E28 (G28 p0) ((.mk y1 r4 p1.reserved p1.gone p1.notes : Msg), y6.2)) (vw .go <| vw .go <| vs (ir v3 y2.length 16) <| vs (st r4 v3 y6.1) <| vs (wa v3 1) <| vz (fl (r4.set v3 y6.1)) <| ln (ZyJ p0 p1 y1 y2) (v3 + 1, r4.set v3 y6.1))) (vz (fl r4) <| lxe (ZAH p0 p1 y1 y2) r4)
def ZBg := fun ((v3, r4) : Nat × List Fld) => (ZAu p0 p1 y1 y2 v3 r4).m
def ZCc (r7 : List Fld) : Zpx := vw .go <| vw .go <| vs (frt y2.length r7) <| lr E28 (G28 p0) ((.mk y1 r7 p1.reserved p1.gone p1.notes : Msg), 0)
def ZBF : Zpx := vw .go <| vz (eqN y2.length) <| vz (fl y2) <| lc (ZyJ p0 p1 y1 y2 (0, y2)) ((Zaj (ZBg p0 p1 y1 y2) big (0, y2)).bind (Sum.elim (fun r7 => (ZCc p0 p1 y1 y2 r7).m) some))
def ZCY : Zpx := vw .go <| vz (fl y2) <| lc (mkS ZCK [((0, 0), (Zsa p0)), ((1, 3), (Zwk p1 y1 y2)), ((1, 4), ZqO), ((1, 21), ⟨0, true, 53, 16, Zaa Zc2 y2⟩)]) ((ZBF p0 p1 y1 y2).m)
def ZDJ : Zpx := vw .go <| lc (mkS [(0, .ptr (0, 0) 0 0), (3, .ptr (1, 3) 0 0), (4, .ptr (1, 4) 0 0), (20, vL Zc2 p1.fields)] (ZDQ p0 p1 y1)) ((Zd0 p1.fields).bind fun y2 => (ZCY p0 p1 y1 y2).m)
def ZBK : Zpx := vw .go <| vw .go <| cl (ZzQ p0.f.space p1.name) fun y1 => vw .go <| lc (mkS ZCK (ZDQ p0 p1 y1)) ((ZDJ p0 p1 y1).m)
def ZbV (p0 : Lnk) (p1 : Msg) : Option (Msg × Int) := (ZBK p0 p1).m
theorem ZxP (co : CO C 1) : Kl 50 C (pa [0, 0, 1, 0, 1, 1, 1] (Zac Try.f28)) [.cell 4 39, .tmp 5] 1 (ZyJ p0 p1 y1 y2) (ZAH p0 p1 y1 y2) E28 (G28 p0) (ZBg p0 p1 y1 y2) := fun (v3, r4) _ m Q Post hQ L => en co (ZAu p0 p1 y1 y2 v3 r4) (lf2 [0, 3, 4, 24, 25, 26] ZDw) (lf2 [3, 4] ZDw) hQ m L fun r g => ⟨fun e5 => ⟨fun y hy => ZaB (ZJx p0 y1 e5) hy co g [((0, 0), ⟨0, true, 76, 10, [vL Zax p0.files, vS p0.f.name, vS p0.f.space, vL Zah p0.f.imports, vL Zak p0.f.messages, vL Zag p0.f.enums, vL Zal p0.f.services, vL Zah p0.known, vL Zah p0.messages, vL Zag p0.enums]⟩)] [] (lkS []) (fun H' hg ho => trivial) (fun H => ⟨fun _ => ⟨rfl, by kernel_rfl⟩, by kernel_rfl, trivial⟩), fun y6 => ⟨id, id⟩⟩, id⟩
end
theorem ZKq (p0 : Lnk) (p1 : Msg) : KO tp 28 1 [.ptr (0, 0) 0 0, .agg ((Zak p1).map .d)] [⟨0, true, 76, 10, [vL Zax p0.files, vS p0.f.name, vS p0.f.space, vL Zah p0.f.imports, vL Zak p0.f.messages, vL Zag p0.f.enums, vL Zal p0.f.services, vL Zah p0.known, vL Zah p0.messages, vL Zag p0.enums]⟩] (fun _ _ _ _ => True) (ZbV p0 p1) E28 (G28 p0) := ko1 Try.func28 Try.ntmps28 tok [.cell 4 39, .tmp 5] 1 (fun C co hT y m Post L => mi co 2 (ZBK p0 p1) (lf2 [0, 3, 4] [((0, 0), false), ((1, 3), false), ((1, 4), false)]) nl ii m L fun r g y1 _ m L => sq (rg (ZbL co tok 2 (ZDJ p0 p1 y1) (lf2 [0, 3, 4, 20] [((0, 0), false), ((1, 3), false), ((1, 4), false)]) m L fun r g _ m L => ZaE co m 55 [vL Zc2 p1.fields] [(1, 21)] ([((1, 21), ⟨0, false, 0, 0, []⟩)] ++ []) (fun z => .ref (1, 21) 1 0 z.length) (fun z => [((1, 21), ⟨1, true, 53, 16, Zaa Zc2 z⟩)]) [] (fun z => trivial) (trivial) (fun z hz r g => Zaf (ZKv p1.fields) hz co g [((1, 21), ⟨0, false, 0, 0, []⟩)] [] [((1, 21), ⟨1, true, 53, 16, Zaa Zc2 z⟩)] (lkS []) (fun H' hg ho => trivial) (fun H => ⟨(fun h => by cases h), by kernel_rfl, trivial⟩) (fun H => ⟨fun _ => ⟨rfl, bz⟩, by kernel_rfl, trivial⟩)) fun y2 m => Zby co tok (ZCY p0 p1 y1 y2) (lf2 [0, 3, 4] [((0, 0), false), ((1, 3), false), ((1, 4), false), ((1, 21), true)]) m L fun r g _ m L => sq (mi co 1 (ZBF p0 p1 y1 y2) (lf2 [0, 3, 4, 24, 25, 26] [((0, 0), false), ((1, 3), false), ((1, 4), false), ((1, 21), true)]) nl ii m L fun r g _ m L => bk 0 (lo (lpF (ZxP p0 p1 y1 y2 co) ii m L (fun r7 m => fo co (ZCc p0 p1 y1 y2 r7) m L fun r g => id))))))) (hB := fun y => ⟨.inr (by kernel_rfl), rfl, trivial⟩)
abbrev E57 : List Mth → AV := fun y => .ref (0, 0) 1 0 y.length
@[reducible] def G57 : List Mth → List Blk := fun y => [⟨1, true, 59, 5, Zaa Zd4 y⟩]
def ZDd (p0 : List Mth) : PT 1 (List Mth) := al Zd4 p0 false fun b1 => br b1 (vw .sep <| vw (.ads 2 2 59 5) <| mv 2 0 ([] : List Mth) <| lr E57 (G57) ([] : List Mth)) (a0 p0 <| mv 7 0 p0 <| lr E57 (G57) p0)
def Zds (p0 : List Mth) : Option (List Mth) := (ZDd p0).m
theorem ZJV (p0 : List Mth) : KO tp 57 1 [vL Zd4 p0] [⟨0, false, 0, 0, []⟩] (fun _ _ _ _ => True) (Zds p0) E57 (G57) := ko1 Try.func57 Try.ntmps57 tok [.tmp 2] 1 (fun C co hT y m Post L => fo co (ZDd p0) m L fun r g => ⟨fun b1 => ⟨id, id⟩, by intro b h; subst h; cases b <;> rfl⟩) (hB := fun y => ⟨.inl (Zai _ _), rfl, trivial⟩)
abbrev E58 : Bt × Int → AV := fun y => .tup [vS y.1, vI y.2]
@[reducible] def G58 (p0 : Lnk) : Bt × Int → List Blk := fun y => [⟨0, true, 76, 10, [vL Zax p0.files, vS p0.f.name, vS p0.f.space, vL Zah p0.f.imports, vL Zak p0.f.messages, vL Zag p0.f.enums, vL Zal p0.f.services, vL Zah p0.known, vL Zah p0.messages, vL Zag p0.enums]⟩]
def ZFP (p0 : Lnk) (p1 : Bt) : PT 1 (Bt × Int) := vw .go <| vw .go <| cl (ZI6 p0.f.space p1 p0.known) fun y1 => br (!y1.2) (lr E58 (G58 p0) (⟨#[]⟩, 8)) (vw .go <| cl (ZBZ p0.messages y1.1) fun y2 => br (!y2) (lr E58 (G58 p0) (⟨#[]⟩, 12)) (lr E58 (G58 p0) (y1.1, 0)))
def ZbE (p0 : Lnk) (p1 : Bt) : Option (Bt × Int) := (ZFP p0 p1).m
theorem ZJh (p0 : Lnk) (p1 : Bt) : KO tp 58 1 [.ptr (0, 0) 0 0, vS p1] [⟨0, true, 76, 10, [vL Zax p0.files, vS p0.f.name, vS p0.f.space, vL Zah p0.f.imports, vL Zak p0.f.messages, vL Zag p0.f.enums, vL Zal p0.f.services, vL Zah p0.known, vL Zah p0.messages, vL Zag p0.enums]⟩] (fun _ _ _ _ => True) (ZbE p0 p1) E58 (G58 p0) := ko1 Try.func58 Try.ntmps58 tok [.tmp 4, .tmp 5] 1 (fun C co hT y m Post L => fo co (ZFP p0 p1) m L fun r g y1 => ⟨id, fun y2 => ⟨id, id⟩⟩) (hB := fun y => ⟨.inr (by kernel_rfl), rfl, trivial⟩)
abbrev E29 : Svc × Int → AV := fun y => .tup [.agg ((Zal y.1).map .d), vI y.2]
@[reducible] def G29 (p0 : Lnk) : Svc × Int → List Blk := fun y => [⟨0, true, 76, 10, [vL Zax p0.files, vS p0.f.name, vS p0.f.space, vL Zah p0.f.imports, vL Zak p0.f.messages, vL Zag p0.f.enums, vL Zal p0.f.services, vL Zah p0.known, vL Zah p0.messages, vL Zag p0.enums]⟩]
section
variable {C : Cx} (p0 : Lnk) (p1 : Svc) (y1 : Bt) (y2 : List Mth)
abbrev Zpo := PT 1 (Svc × Int)
abbrev ZrG : Blk := ⟨0, true, 76, 10, [vL Zax p0.files, vS p0.f.name, vS p0.f.space, vL Zah p0.f.imports, vL Zak p0.f.messages, vL Zag p0.f.enums, vL Zal p0.f.services, vL Zah p0.known, vL Zah p0.messages, vL Zag p0.enums]⟩
abbrev ZrY : Blk := ⟨0, true, 57, 3, [vS ⟨#[]⟩, .e0, .e0]⟩
abbrev ZyX : Blk := ⟨0, true, 57, 3, [vS y1, .ref (1, 22) 0 0 y2.length, vL eNt p1.notes]⟩
abbrev ZGc : List (Key × Blk) := [((0, 0), (ZrG p0)), ((1, 3), ⟨0, true, 57, 3, [vS y1, vL Zd4 p1.methods, vL eNt p1.notes]⟩), ((1, 4), ZrY)]
abbrev ZC4 : List (Nat × AV) := [(0, .ptr (0, 0) 0 0), (3, .ptr (1, 3) 0 0), (4, .ptr (1, 4) 0 0)]
abbrev ZFa : List (Key × Bool) := [((0, 0), false), ((1, 3), false), ((1, 4), false), ((1, 22), true)]
def ZxA : Nat × List Mth → St := fun (v3, r4) => mkS [(0, .ptr (0, 0) 0 0), (3, .ptr (1, 3) 0 0), (4, .ptr (1, 4) 0 0), (26, vN y2.length), (27, vN v3)] [((0, 0), (ZrG p0)), ((1, 3), (ZyX p1 y1 y2)), ((1, 4), ZrY), ((1, 22), ⟨0, true, 59, 5, Zaa Zd4 r4⟩)]
def ZFC : List Mth → Nat × St := fun r13 => (0, mkS [(3, .ptr (1, 3) 0 0), (4, .ptr (1, 4) 0 0)] [((0, 0), (ZrG p0)), ((1, 3), (ZyX p1 y1 y2)), ((1, 4), ZrY), ((1, 22), ⟨0, true, 59, 5, Zaa Zd4 r13⟩)])
def ZFi (v3 : Nat) (r4 : List Mth) : PT 1 (Lv (Nat × List Mth) (List Mth) (Svc × Int)) := br (decide ((v3 : Int) < (y2.length : Int))) (vw .go <| vs (ir v3 y2.length 5) <| cp r4 v3 1 1 fun e5 => cs tp 58 [.ptr (0, 0) 0 0, vS e5.inn] [(0, 0)] [((0, 0), ⟨0, true, 76, 10, [vL Zax p0.files, vS p0.f.name, vS p0.f.space, vL Zah p0.f.imports, vL Zak p0.f.messages, vL Zag p0.f.enums, vL Zal p0.f.services, vL Zah p0.known, vL Zah p0.messages, vL Zag p0.enums]⟩)] (ZbE p0 e5.inn) (fun y => .tup [vS y.1, vI y.2]) fun y6 => br (!decide (y6.2 = (0 : Int))) (vw .go <| vw .go <| vs (frt y2.length r4) <| lrt E29 (G29 p0) ((.mk y1 r4 p1.notes : Svc), y6.2)) (cp r4 v3 2 1 fun e7 => cs tp 58 [.ptr (0, 0) 0 0, vS e7.out] [(0, 0)] [((0, 0), ⟨0, true, 76, 10, [vL Zax p0.files, vS p0.f.name, vS p0.f.space, vL Zah p0.f.imports, vL Zak p0.f.messages, vL Zag p0.f.enums, vL Zal p0.f.services, vL Zah p0.known, vL Zah p0.messages, vL Zag p0.enums]⟩)] (ZbE p0 e7.out) (fun y => .tup [vS y.1, vI y.2]) fun y8 => br (!decide (y8.2 = (0 : Int))) (vw .go <| vw .go <| vs (frt y2.length r4) <| lrt E29 (G29 p0) ((.mk y1 r4 p1.notes : Svc), y8.2)) (stp r4 v3 1 [(.str y6.1)] (fun e9 => (.mk e9.name y6.1 e9.out e9.shape e9.notes : Mth)) (fun _ => rfl) fun l10 => stp l10 v3 2 [(.str y8.1)] (fun e11 => (.mk e11.name e11.inn y8.1 e11.shape e11.notes : Mth)) (fun _ => rfl) fun l12 => vs (wa v3 1) <| vz (fl l12) <| ln (ZxA p0 p1 y1 y2) (v3 + 1, l12)))) (vz (fl r4) <| lxe (ZFC p0 p1 y1 y2) r4)
def ZEO := fun ((v3, r4) : Nat × List Mth) => (ZFi p0 p1 y1 y2 v3 r4).m
def ZCz (r13 : List Mth) : Zpo := vw .go <| vw .go <| vs (frt y2.length r13) <| lr E29 (G29 p0) ((.mk y1 r13 p1.notes : Svc), 0)
def ZFz : Zpo := vw .go <| vz (eqN y2.length) <| vz (fl y2) <| lc (ZxA p0 p1 y1 y2 (0, y2)) ((Zaj (ZEO p0 p1 y1 y2) big (0, y2)).bind (Sum.elim (fun r13 => (ZCz p0 p1 y1 y2 r13).m) some))
def ZGs : Zpo := vw .go <| vz (fl y2) <| lc (mkS ZC4 [((0, 0), (ZrG p0)), ((1, 3), (ZyX p1 y1 y2)), ((1, 4), ZrY), ((1, 22), ⟨0, true, 59, 5, Zaa Zd4 y2⟩)]) ((ZFz p0 p1 y1 y2).m)
def ZCB : Zpo := vw .go <| lc (mkS [(0, .ptr (0, 0) 0 0), (3, .ptr (1, 3) 0 0), (4, .ptr (1, 4) 0 0), (21, vL Zd4 p1.methods)] (ZGc p0 p1 y1)) ((Zds p1.methods).bind fun y2 => (ZGs p0 p1 y1 y2).m)
def ZFE : Zpo := vw .go <| vw .go <| cl (ZzQ p0.f.space p1.name) fun y1 => vw .go <| lc (mkS ZC4 (ZGc p0 p1 y1)) ((ZCB p0 p1 y1).m)
def ZbW (p0 : Lnk) (p1 : Svc) : Option (Svc × Int) := (ZFE p0 p1).m
theorem Zzf (co : CO C 1) : Kl 70 C (pa [0, 0, 1, 0, 1, 1, 1] (Zac Try.f29)) [.cell 4 57, .tmp 5] 1 (ZxA p0 p1 y1 y2) (ZFC p0 p1 y1 y2) E29 (G29 p0) (ZEO p0 p1 y1 y2) := fun (v3, r4) _ m Q Post hQ L => en co (ZFi p0 p1 y1 y2 v3 r4) (lf2 [0, 3, 4, 26, 27] ZFa) (lf2 [3, 4] ZFa) hQ m L fun r g => ⟨fun e5 => ⟨fun y hy => ZaB (ZJh p0 e5.inn) hy co g [((0, 0), ⟨0, true, 76, 10, [vL Zax p0.files, vS p0.f.name, vS p0.f.space, vL Zah p0.f.imports, vL Zak p0.f.messages, vL Zag p0.f.enums, vL Zal p0.f.services, vL Zah p0.known, vL Zah p0.messages, vL Zag p0.enums]⟩)] [] (lkS []) (fun H' hg ho => trivial) (fun H => ⟨fun _ => ⟨rfl, by kernel_rfl⟩, by kernel_rfl, trivial⟩), fun y6 => ⟨id, fun e7 => ⟨fun y hy => ZaB (ZJh p0 e7.out) hy co g [((0, 0), ⟨0, true, 76, 10, [vL Zax p0.files, vS p0.f.name, vS p0.f.space, vL Zah p0.f.imports, vL Zak p0.f.messages, vL Zag p0.f.enums, vL Zal p0.f.services, vL Zah p0.known, vL Zah p0.messages, vL Zag p0.enums]⟩)] [] (lkS []) (fun H' hg ho => trivial) (fun H => ⟨fun _ => ⟨rfl, by kernel_rfl⟩, by kernel_rfl, trivial⟩), fun y8 => ⟨id, fun l10 l12 => id⟩⟩⟩⟩, id⟩
end
theorem ZJq (p0 : Lnk) (p1 : Svc) : KO tp 29 1 [.ptr (0, 0) 0 0, .agg ((Zal p1).map .d)] [⟨0, true, 76, 10, [vL Zax p0.files, vS p0.f.name, vS p0.f.space, vL Zah p0.f.imports, vL Zak p0.f.messages, vL Zag p0.f.enums, vL Zal p0.f.services, vL Zah p0.known, vL Zah p0.messages, vL Zag p0.enums]⟩] (fun _ _ _ _ => True) (ZbW p0 p1) E29 (G29 p0) := ko1 Try.func29 Try.ntmps29 tok [.cell 4 57, .tmp 5] 1 (fun C co hT y m Post L => mi co 2 (ZFE p0 p1) (lf2 [0, 3, 4] [((0, 0), false), ((1, 3), false), ((1, 4), false)]) nl ii m L fun r g y1 _ m L => sq (rg (ZbL co tok 2 (ZCB p0 p1 y1) (lf2 [0, 3, 4, 21] [((0, 0), false), ((1, 3), false), ((1, 4), false)]) m L fun r g _ m L => ZaE co m 57 [vL Zd4 p1.methods] [(1, 22)] ([((1, 22), ⟨0, false, 0, 0, []⟩)] ++ []) (fun z => .ref (1, 22) 1 0 z.length) (fun z => [((1, 22), ⟨1, true, 59, 5, Zaa Zd4 z⟩)]) [] (fun z => trivial) (trivial) (fun z hz r g => Zaf (ZJV p1.methods) hz co g [((1, 22), ⟨0, false, 0, 0, []⟩)] [] [((1, 22), ⟨1, true, 59, 5, Zaa Zd4 z⟩)] (lkS []) (fun H' hg ho => trivial) (fun H => ⟨(fun h => by cases h), by kernel_rfl, trivial⟩) (fun H => ⟨fun _ => ⟨rfl, bz⟩, by kernel_rfl, trivial⟩)) fun y2 m => Zby co tok (ZGs p0 p1 y1 y2) (lf2 [0, 3, 4] [((0, 0), false), ((1, 3), false), ((1, 4), false), ((1, 22), true)]) m L fun r g _ m L => sq (mi co 1 (ZFz p0 p1 y1 y2) (lf2 [0, 3, 4, 26, 27] [((0, 0), false), ((1, 3), false), ((1, 4), false), ((1, 22), true)]) nl ii m L fun r g _ m L => bk 0 (lo (lpF (Zzf p0 p1 y1 y2 co) ii m L (fun r13 m => fo co (ZCz p0 p1 y1 y2 r13) m L fun r g => id))))))) (hB := fun y => ⟨.inr (by kernel_rfl), rfl, trivial⟩)
section
variable {α : Type} [Rw α] [Tid α]
abbrev ZqD : List α → AV := fun y => .tup []
@[reducible] def ZqC : List α → List Blk := fun y => [⟨0, true, Tid.t α, Rw.s α, Zaa Rw.f y⟩]
def ZAm (pf3 : α → α → Option Int) : Cl := fun no l H θ => (∀ (z0 : α) (z1 : α) y, pf3 z0 z1 = some y → Ze5 tp l no H (θ 3) [.agg ((Rw.f z0).map .d), .agg ((Rw.f z1).map .d)] (vI y))
section
variable (p0 : List α) (p1 p2 : Int) (pf3 : α → α → Option Int) (v1 : Int) (r2 : List α)
abbrev Zk8 (α : Type) := PT 1 (Lv (Int × List α) (List α) (List α))
abbrev Zqt : List (Nat × AV) := [(0, .ref (0, 0) 0 0 p0.length), (1, vI p1), (2, vI p2), (3, .fn (.yield 3) [] []), (8, vI v1)]
def Zin : Int × List α → St := fun (v1, r2) => mkS (Zqt p0 p1 p2 v1) [((0, 0), ⟨0, true, Tid.t α, Rw.s α, Zaa Rw.f r2⟩)]
def Zmv : List α → Nat × St := fun r11 => (0, mkS [] [((0, 0), ⟨0, true, Tid.t α, Rw.s α, Zaa Rw.f r11⟩)])
def ZiI : Int × List α → St := fun (v3, r4) => mkS [(0, .ref (0, 0) 0 0 p0.length), (1, vI p1), (2, vI p2), (3, .fn (.yield 3) [] []), (8, vI v1), (9, vI v3)] [((0, 0), ⟨0, true, Tid.t α, Rw.s α, Zaa Rw.f r4⟩)]
def Zle : List α → Nat × St := fun r10 => (2, mkS (Zqt p0 p1 p2 v1) [((0, 0), ⟨0, true, Tid.t α, Rw.s α, Zaa Rw.f r10⟩)])
def ZkQ (v3 : Int) (r4 : List α) : Zk8 α := vg (decide (p1 < v3)) (iri v3 p0.length (Rw.s α)) <| cag (decide (p1 < v3)) r4 v3.toNat fun e5 => vg (decide (p1 < v3)) (wi (v3 - 1)) <| vg (decide (p1 < v3)) (iri (v3 - 1) p0.length (Rw.s α)) <| cag (decide (p1 < v3)) r4 (v3 - 1).toNat fun e6 => cfg (decide (p1 < v3)) tp 3 [.agg ((Rw.f e5).map .d), .agg ((Rw.f e6).map .d)] (pf3 e5 e6) (fun y => vI y) fun y7 => br (decide (p1 < v3) && decide (y7 < (0 : Int))) (vs (wi (v3 - 1)) <| vs (wi (v3 - 1)) <| vs (iri (v3 - 1) p0.length (Rw.s α)) <| ca r4 (v3 - 1).toNat fun e8 => vs (iri v3 p0.length (Rw.s α)) <| ca r4 v3.toNat fun e9 => vs (iri v3 p0.length (Rw.s α)) <| vs (st r4 v3.toNat e8) <| vwr 0 ((Rw.f (e8 : α)).map .d) (fun _ => ZcY _) <| vs (iri (v3 - 1) p0.length (Rw.s α)) <| vs (st (r4.set v3.toNat e8) (v3 - 1).toNat e9) <| vwr 0 ((Rw.f (e9 : α)).map .d) (fun _ => ZcY _) <| vs (wi (v3 - 1)) <| vz (fl ((r4.set v3.toNat e8).set (v3 - 1).toNat e9)) <| ln (ZiI p0 p1 p2 v1) ((v3 - 1), (r4.set v3.toNat e8).set (v3 - 1).toNat e9)) (vz (fl r4) <| lxe (Zle p0 p1 p2 v1) r4)
def ZkI := fun ((v3, r4) : Int × List α) => (ZkQ p0 p1 p2 pf3 v1 v3 r4).m
def ZlE (r10 : List α) : Zk8 α := vs (wi (v1 + 1)) <| vz (fl r10) <| ln (Zin p0 p1 p2) ((v1 + 1), r10)
def ZlS : Zk8 α := vz (fl r2) <| lc (ZiI p0 p1 p2 v1 (v1, r2)) ((Zaj (ZkI p0 p1 p2 pf3 v1) big (v1, r2)).bind (Sum.elim (fun r10 => (ZlE p0 p1 p2 v1 r10).m) (fun z => some (.rt z))))
def Zkg : Zk8 α := br (decide (v1 < p2)) (vz (fl r2) <| lc (mkS (Zqt p0 p1 p2 v1) [((0, 0), ⟨0, true, Tid.t α, Rw.s α, Zaa Rw.f r2⟩)]) ((ZlS p0 p1 p2 pf3 v1 r2).m)) (vz (fl r2) <| lxe (Zmv) r2)
def Zki := fun ((v1, r2) : Int × List α) => (Zkg p0 p1 p2 pf3 v1 r2).m
def ZkX (r11 : List α) : PT 1 (List α) := lr ZqD (ZqC) r11
def ZkE : PT 1 (List α) := vs (wi (p1 + 1)) <| vz (fl p0) <| lc (Zin p0 p1 p2 ((p1 + 1), p0)) ((Zaj (Zki p0 p1 p2 pf3) big ((p1 + 1), p0)).bind (Sum.elim (fun r11 => (ZkX r11).m) some))
def ZaG (p0 : List α) (p1 : Int) (p2 : Int) (pf3 : α → α → Option Int) : Option (List α) := (ZkE p0 p1 p2 pf3).m
end
end
section
variable {C : Cx} (co : CO C 1) (p0 : List Msg) (p1 p2 : Int) (pf3 : Msg → Msg → Option Int) (hT : (ZAm pf3) C.no C.l C.H0 C.θ)
section
include co hT
theorem ZrC (v1 : Int) : Kl 53 C (pa [0, 0, 1, 0, 0, 1, 0, 0, 1] (Zac Try.f122)) [] 1 (ZiI p0 p1 p2 v1) (Zle p0 p1 p2 v1) ZqD (ZqC) (ZkI p0 p1 p2 pf3 v1) := fun (v3, r4) _ m Q Post hQ L => en co (ZkQ p0 p1 p2 pf3 v1 v3 r4) (lf2 [0, 1, 2, 3, 8, 9] [((0, 0), true)]) (lf2 [0, 1, 2, 3, 8] [((0, 0), true)]) hQ m L fun r g e5 e6 => ⟨⟨fun y hy => hT _ _ y hy, by intro r; kernel_rfl, by intro r y; kernel_rfl⟩, fun y7 => ⟨fun e8 e9 => id, id⟩⟩
theorem Zuk : Kl 53 C (pa [0, 0, 1] (Zac Try.f122)) [] 1 (Zin p0 p1 p2) (Zmv) ZqD (ZqC) (Zki p0 p1 p2 pf3) := fun (v1, r2) _ m Q Post hQ L => mi co 1 (Zkg p0 p1 p2 pf3 v1 r2) (lf2 [0, 1, 2, 3, 8] [((0, 0), true)]) (lf2 [] [((0, 0), true)]) hQ m L fun r g => ⟨fun _ m L => sq (bk 1 (mi co 1 (ZlS p0 p1 p2 pf3 v1 r2) (lf2 [0, 1, 2, 3, 8, 9] [((0, 0), true)]) nl hQ m L fun r g _ m L => bk 2 (lo (lpL (ZrC co p0 p1 p2 pf3 hT v1) hQ m L (fun r10 m => en co (ZlE p0 p1 p2 v1 r10) (lf2 [0, 1, 2, 3, 8] [((0, 0), true)]) nl hQ m L fun r g => id))))), id⟩
end
end
theorem ZCq (p0 : List Msg) (p1 : Int) (p2 : Int) (pf3 : Msg → Msg → Option Int) : KO tp 122 1 [.ref (0, 0) 0 0 p0.length, vI p1, vI p2, .fn (.yield 3) [] []] [⟨0, true, 39, 5, Zaa Zak p0⟩] (ZAm pf3) (ZaG p0 p1 p2 pf3) ZqD (ZqC) := ko1 Try.func122 Try.ntmps122 tok [] 1 (fun C co hT y m Post L => mi co 1 (ZkE p0 p1 p2 pf3) (lf2 [0, 1, 2, 3, 8] [((0, 0), true)]) nl ii m L fun r g _ m L => bk 0 (lo (lpF (Zuk co p0 p1 p2 pf3 hT) ii m L (fun r11 m => Zen (ZkX r11) co m L (fun r g => id) r g)))) (hB := fun y => ⟨.inl (Zai _ _), rfl, trivial⟩)
section
variable {α : Type} [Rw α] [Tid α]
abbrev ZxW : List α → AV := fun y => .tup []
@[reducible] def ZyI : List α → List Blk := fun y => [⟨0, true, Tid.t α, Rw.s α, Zaa Rw.f y⟩]
section
variable (p0 : List α) (p1 p2 p3 : Int)
def Ziw : Nat × List α → St := fun (v1, r2) => mkS [(0, .ref (0, 0) 0 0 p0.length), (1, vI p1), (2, vI p2), (3, vI p3), (10, vN v1)] [((0, 0), ⟨0, true, Tid.t α, Rw.s α, Zaa Rw.f r2⟩)]
def Zmq : List α → Nat × St := fun r5 => (0, mkS [] [((0, 0), ⟨0, true, Tid.t α, Rw.s α, Zaa Rw.f r5⟩)])
def Zmk (v1 : Nat) (r2 : List α) : PT 1 (Lv (Nat × List α) (List α) (List α)) := br (decide ((v1 : Int) < p3)) (vs (wi (p1 + (v1 : Int))) <| vs (wi (p2 + (v1 : Int))) <| vs (wi (p2 + (v1 : Int))) <| vs (iri (p2 + (v1 : Int)) p0.length (Rw.s α)) <| ca r2 (p2 + (v1 : Int)).toNat fun e3 => vs (wi (p1 + (v1 : Int))) <| vs (iri (p1 + (v1 : Int)) p0.length (Rw.s α)) <| ca r2 (p1 + (v1 : Int)).toNat fun e4 => vs (iri (p1 + (v1 : Int)) p0.length (Rw.s α)) <| vs (st r2 (p1 + (v1 : Int)).toNat e3) <| vwr 0 ((Rw.f (e3 : α)).map .d) (fun _ => ZcY _) <| vs (iri (p2 + (v1 : Int)) p0.length (Rw.s α)) <| vs (st (r2.set (p1 + (v1 : Int)).toNat e3) (p2 + (v1 : Int)).toNat e4) <| vwr 0 ((Rw.f (e4 : α)).map .d) (fun _ => ZcY _) <| vs (wa v1 1) <| vz (fl ((r2.set (p1 + (v1 : Int)).toNat e3).set (p2 + (v1 : Int)).toNat e4)) <| ln (Ziw p0 p1 p2 p3) (v1 + 1, (r2.set (p1 + (v1 : Int)).toNat e3).set (p2 + (v1 : Int)).toNat e4)) (vz (fl r2) <| lxe (Zmq) r2)
def Zkz := fun ((v1, r2) : Nat × List α) => (Zmk p0 p1 p2 p3 v1 r2).m
def Zlz (r5 : List α) : PT 1 (List α) := lr ZxW (ZyI) r5
def Zk2 : PT 1 (List α) := vz (fl p0) <| lc (Ziw p0 p1 p2 p3 (0, p0)) ((Zaj (Zkz p0 p1 p2 p3) big (0, p0)).bind (Sum.elim (fun r5 => (Zlz r5).m) some))
def ZaL (p0 : List α) (p1 : Int) (p2 : Int) (p3 : Int) : Option (List α) := (Zk2 p0 p1 p2 p3).m
end
end
section
variable {C : Cx}
theorem Zq5 (co : CO C 1) (p0 : List Msg) (p1 : Int) (p2 : Int) (p3 : Int) : Kl 38 C (pa [0, 0, 1] (Zac Try.f144)) [] 1 (Ziw p0 p1 p2 p3) (Zmq) ZxW (ZyI) (Zkz p0 p1 p2 p3) := fun (v1, r2) _ m Q Post hQ L => en co (Zmk p0 p1 p2 p3 v1 r2) (lf2 [0, 1, 2, 3, 10] [((0, 0), true)]) (lf2 [] [((0, 0), true)]) hQ m L fun r g => ⟨fun e3 e4 => id, id⟩
end
theorem Zw5 (p0 : List Msg) (p1 : Int) (p2 : Int) (p3 : Int) : KO tp 144 1 [.ref (0, 0) 0 0 p0.length, vI p1, vI p2, vI p3, .fn (.yield 4) [] []] [⟨0, true, 39, 5, Zaa Zak p0⟩] (fun _ _ _ _ => True) (ZaL p0 p1 p2 p3) ZxW (ZyI) := ko1 Try.func144 Try.ntmps144 tok [] 1 (fun C co hT y m Post L => mi co 1 (Zk2 p0 p1 p2 p3) (lf2 [0, 1, 2, 3, 10] [((0, 0), true)]) nl ii m L fun r g _ m L => bk 0 (lo (lpF (Zq5 co p0 p1 p2 p3) ii m L (fun r5 m => Zen (Zlz r5) co m L (fun r g => id) r g)))) (hB := fun y => ⟨.inl (Zai _ _), rfl, trivial⟩)
section
variable {α : Type} [Rw α] [Tid α]
abbrev ZxL : List α → AV := fun y => .tup []
@[reducible] def ZxR : List α → List Blk := fun y => [⟨0, true, Tid.t α, Rw.s α, Zaa Rw.f y⟩]
section
variable (p0 : List α) (p2 v1 v2 : Int) (y4 r3 y5 y8 : List α)
abbrev ZeC (α : Type) := PT 1 (Lv (Int × Int × List α) (Int × List α) (List α))
abbrev Zks : List (Nat × AV) := [(0, .ref (0, 0) 0 0 p0.length), (2, vI p2), (4, .fn (.yield 4) [] []), (10, vI v1), (11, vI v2)]
abbrev Zom : List (Key × Blk) := [((0, 0), ⟨0, true, Tid.t α, Rw.s α, Zaa Rw.f r3⟩)]
abbrev Zku (t : List (Nat × AV)) : List (Nat × AV) := (0, .ref (0, 0) 0 0 p0.length) :: (2, vI p2) :: (4, .fn (.yield 4) [] []) :: t
def Zf6 : Int × Int × List α → St := fun (v1, v2, r3) => mkS (Zks p0 p2 v1 v2) [((0, 0), ⟨0, true, Tid.t α, Rw.s α, Zaa Rw.f r3⟩)]
def Zl3 : Int × List α → Nat × St := fun (v6, r7) => (0, mkS (Zku p0 p2 [(10, vI v6)]) [((0, 0), ⟨0, true, Tid.t α, Rw.s α, Zaa Rw.f r7⟩)])
def Zlx : ZeC α := vs (wi (v1 - v2)) <| vz (fl y4) <| ln (Zf6 p0 p2) ((v1 - v2), v2, y4)
def ZkD : ZeC α := vz (fl y4) <| lc (mkS (Zks p0 p2 v1 v2) [((0, 0), ⟨0, true, Tid.t α, Rw.s α, Zaa Rw.f y4⟩)]) ((Zlx p0 p2 v1 v2 y4).m)
def Zj4 : ZeC α := vs (wi (p2 - v1)) <| vz (fl r3) <| lc (mkS (Zku p0 p2 [(10, vI v1), (11, vI v2), (24, .ref (0, 0) 0 0 p0.length), (27, vI (p2 - v1)), (28, vI p2), (29, vI v2), (30, .fn (.yield 4) [] [])]) (Zom r3)) (if p0.length = r3.length then (ZaL r3 (p2 - v1) p2 v2).bind fun y4 => (ZkD p0 p2 v1 v2 y4).m else none)
def Zmr : ZeC α := vs (wi (v2 - v1)) <| vz (fl y5) <| ln (Zf6 p0 p2) (v1, (v2 - v1), y5)
def Zj3 : ZeC α := vz (fl y5) <| lc (mkS (Zks p0 p2 v1 v2) [((0, 0), ⟨0, true, Tid.t α, Rw.s α, Zaa Rw.f y5⟩)]) ((Zmr p0 p2 v1 v2 y5).m)
def Zmm : ZeC α := vs (wi (p2 - v1)) <| vs (wi (p2 + v2)) <| vs (wi ((p2 + v2) - v1)) <| vz (fl r3) <| lc (mkS (Zku p0 p2 [(10, vI v1), (11, vI v2), (35, .ref (0, 0) 0 0 p0.length), (38, vI (p2 - v1)), (43, vI ((p2 + v2) - v1)), (44, vI v1), (45, .fn (.yield 4) [] [])]) (Zom r3)) (if p0.length = r3.length then (ZaL r3 (p2 - v1) ((p2 + v2) - v1) v1).bind fun y5 => (Zj3 p0 p2 v1 v2 y5).m else none)
def Zk0 : ZeC α := vz (fl r3) <| lc (mkS (Zku p0 p2 [(10, vI v1), (11, vI v2), (23, vB (decide (v2 < v1)))]) (Zom r3)) (if decide (v2 < v1) = true then (Zj4 p0 p2 v1 v2 r3).m else (Zmm p0 p2 v1 v2 r3).m)
def ZkJ : ZeC α := br (!decide (v1 = v2)) (vz (fl r3) <| lc (mkS (Zks p0 p2 v1 v2) [((0, 0), ⟨0, true, Tid.t α, Rw.s α, Zaa Rw.f r3⟩)]) ((Zk0 p0 p2 v1 v2 r3).m)) (vz (fl r3) <| lxe (Zl3 p0 p2) (v1, r3))
def Zld := fun ((v1, v2, r3) : Int × Int × List α) => (ZkJ p0 p2 v1 v2 r3).m
def ZkN : PT 1 (List α) := lr ZxL (ZxR) y8
def Zhx : PT 1 (List α) := vz (fl y8) <| lc (mkS [] [((0, 0), ⟨0, true, Tid.t α, Rw.s α, Zaa Rw.f y8⟩)]) ((ZkN y8).m)
def ZhT (v6 : Int) (r7 : List α) : PT 1 (List α) := vs (wi (p2 - v6)) <| vz (fl r7) <| lc (mkS [(50, .ref (0, 0) 0 0 p0.length), (53, vI (p2 - v6)), (54, vI p2), (55, vI v6), (56, .fn (.yield 4) [] [])] [((0, 0), ⟨0, true, Tid.t α, Rw.s α, Zaa Rw.f r7⟩)]) (if p0.length = r7.length then (ZaL r7 (p2 - v6) p2 v6).bind fun y8 => (Zhx y8).m else none)
def ZgJ (p1 : Int) (p3 : Int) : PT 1 (List α) := vs (wi (p2 - p1)) <| vs (wi (p3 - p2)) <| vz (fl p0) <| lc (Zf6 p0 p2 ((p2 - p1), (p3 - p2), p0)) ((Zaj (Zld p0 p2) big ((p2 - p1), (p3 - p2), p0)).bind (Sum.elim (fun (v6, r7) => (ZhT p0 p2 v6 r7).m) some))
def ZbH (p0 : List α) (p1 : Int) (p2 : Int) (p3 : Int) : Option (List α) := (ZgJ p0 p2 p1 p3).m
end
end
section
variable {C : Cx}
theorem Zs3 (co : CO C 1) (p0 : List Msg) (p2 : Int) : Kl 58 C (pa [0, 0, 0, 1, 1] (Zac Try.f137)) [] 1 (Zf6 p0 p2) (Zl3 p0 p2) ZxL (ZxR) (Zld p0 p2) := fun (v1, v2, r3) _ m Q Post hQ L => mi co 1 (ZkJ p0 p2 v1 v2 r3) (lf2 [0, 2, 4, 10, 11] [((0, 0), true)]) (lf2 [0, 2, 4, 10] [((0, 0), true)]) hQ m L fun r g => ⟨fun _ m L => bk 1 (mi co 1 (Zk0 p0 p2 v1 v2 r3) (lf2 [0, 2, 4, 10, 11, 23] [((0, 0), true)]) nl hQ m L fun r g _ m L => cd (decide (v2 < v1)) m (fun m => sq (rg (ZbL co tok 7 (Zj4 p0 p2 v1 v2 r3) (lf2 [0, 2, 4, 10, 11, 24, 27, 28, 29, 30] [((0, 0), true)]) m L fun r g _ m L => Zdn m fun heq m => ZaE co m 144 [.ref (0, 0) 0 0 p0.length, vI (p2 - v1), vI p2, vI v2, .fn (.yield 4) [] []] [(0, 0)] ([((0, 0), ⟨0, true, 39, 5, Zaa Zak r3⟩)] ++ []) (fun z => .tup []) (fun z => [((0, 0), ⟨0, true, 39, 5, Zaa Zak z⟩)]) [] (fun z => ⟨co.W 0 (by decide), trivial⟩) (trivial) (fun z hz r g => Zaf (Zw5 r3 (p2 - v1) p2 v2) hz co g [((0, 0), ⟨0, true, 39, 5, Zaa Zak r3⟩)] [] [((0, 0), ⟨0, true, 39, 5, Zaa Zak z⟩)] (lkS [(4, r.θ 4)]) (fun H' hg ho => trivial) (fun H => ⟨fun _ => ⟨rfl, bz⟩, by kernel_rfl, trivial⟩) (fun H => ⟨fun _ => ⟨rfl, bz⟩, by kernel_rfl, trivial⟩) (hx := by intro H; rw [heq]; kernel_rfl)) fun y4 m => Zby co tok (ZkD p0 p2 v1 v2 y4) (lf2 [0, 2, 4, 10, 11] [((0, 0), true)]) m L fun r g _ m L => en co (Zlx p0 p2 v1 v2 y4) (lf2 [0, 2, 4, 10, 11] [((0, 0), true)]) nl hQ m L fun r g => id))) (fun m => sq (rg (ZbL co tok 11 (Zmm p0 p2 v1 v2 r3) (lf2 [0, 2, 4, 10, 11, 35, 38, 43, 44, 45] [((0, 0), true)]) m L fun r g _ m L => Zdn m fun heq m => ZaE co m 144 [.ref (0, 0) 0 0 p0.length, vI (p2 - v1), vI ((p2 + v2) - v1), vI v1, .fn (.yield 4) [] []] [(0, 0)] ([((0, 0), ⟨0, true, 39, 5, Zaa Zak r3⟩)] ++ []) (fun z => .tup []) (fun z => [((0, 0), ⟨0, true, 39, 5, Zaa Zak z⟩)]) [] (fun z => ⟨co.W 0 (by decide), trivial⟩) (trivial) (fun z hz r g => Zaf (Zw5 r3 (p2 - v1) ((p2 + v2) - v1) v1) hz co g [((0, 0), ⟨0, true, 39, 5, Zaa Zak r3⟩)] [] [((0, 0), ⟨0, true, 39, 5, Zaa Zak z⟩)] (lkS [(4, r.θ 4)]) (fun H' hg ho => trivial) (fun H => ⟨fun _ => ⟨rfl, bz⟩, by kernel_rfl, trivial⟩) (fun H => ⟨fun _ => ⟨rfl, bz⟩, by kernel_rfl, trivial⟩) (hx := by intro H; rw [heq]; kernel_rfl)) fun y5 m => Zby co tok (Zj3 p0 p2 v1 v2 y5) (lf2 [0, 2, 4, 10, 11] [((0, 0), true)]) m L fun r g _ m L => en co (Zmr p0 p2 v1 v2 y5) (lf2 [0, 2, 4, 10, 11] [((0, 0), true)]) nl hQ m L fun r g => id)))), id⟩
end
theorem ZHf (p0 : List Msg) (p1 : Int) (p2 : Int) (p3 : Int) : KO tp 137 1 [.ref (0, 0) 0 0 p0.length, vI p1, vI p2, vI p3, .fn (.yield 4) [] []] [⟨0, true, 39, 5, Zaa Zak p0⟩] (fun _ _ _ _ => True) (ZbH p0 p1 p2 p3) ZxL (ZxR) := ko1 Try.func137 Try.ntmps137 tok [] 1 (fun C co hT y m Post L => mi co 2 (ZgJ p0 p2 p1 p3) (lf2 [0, 2, 4, 10, 11] [((0, 0), true)]) nl ii m L fun r g _ m L => sq (bk 0 (lo (lpF (Zs3 co p0 p2) ii m L (fun (v6, r7) m => rg (ZbL co tok 7 (ZhT p0 p2 v6 r7) (lf2 [50, 53, 54, 55, 56] [((0, 0), true)]) m L fun r g _ m L => Zdn m fun heq m => ZaE co m 144 [.ref (0, 0) 0 0 p0.length, vI (p2 - v6), vI p2, vI v6, .fn (.yield 4) [] []] [(0, 0)] ([((0, 0), ⟨0, true, 39, 5, Zaa Zak r7⟩)] ++ []) (fun z => .tup []) (fun z => [((0, 0), ⟨0, true, 39, 5, Zaa Zak z⟩)]) [] (fun z => ⟨co.W 0 (by decide), trivial⟩) (trivial) (fun z hz r g => Zaf (Zw5 r7 (p2 - v6) p2 v6) hz co g [((0, 0), ⟨0, true, 39, 5, Zaa Zak r7⟩)] [] [((0, 0), ⟨0, true, 39, 5, Zaa Zak z⟩)] (lkS [(4, r.θ 4)]) (fun H' hg ho => trivial) (fun H => ⟨fun _ => ⟨rfl, bz⟩, by kernel_rfl, trivial⟩) (fun H => ⟨fun _ => ⟨rfl, bz⟩, by kernel_rfl, trivial⟩) (hx := by intro H; rw [heq]; kernel_rfl)) fun y8 m => Zby co tok (Zhx y8) (lf2 [] [((0, 0), true)]) m L fun r g _ m L => Zen (ZkN y8) co m L (fun r g => id) r g)))))) (hB := fun y => ⟨.inl (Zai _ _), rfl, trivial⟩)
end
end Go.Proofs.Ythagpbkmakocjaa
