import Derived.Test.YthagpbkmakocjaaCu13
namespace Go.Proofs.Ythagpbkmakocjaa
set_option linter.all false
set_option maxRecDepth 100000
open Go Go.Eng
noncomputable section
@[reducible] noncomputable def tp : Program := Try.prog
abbrev Bt := ByteArray
section
variable {n os : Nat} {C : Cx} {τ : St} {Q : Exit → St → Prop} {p : List Nat} {b c : Code} {β : Type} {Post : AV → List Blk → Prop} {rs : List ResultVar} {L : β → Prop} {y : β}
theorem mi (co : CO C os) (m : Nat) (v : PT os β) (lf lx : Lf) (hQ : ∀ τ, FQ (lkT tl) rs os Post .ret τ → Q .ret τ) (hv : v.m = some y) (hL : HL L y)
 (hn : ∀ r (g : Gd C r), v.n ⟨⟨C.l, r, fun e τ' => match e with | .normal => LW tp n C (pa (up m p) b) τ' Q | e => Q e τ', Post⟩, L, C, co, g, rfl⟩)
 (hq : ∀ l r Q Post, ZKc tp (lkT tl) l n os r m (pa p b) v.a τ (KB (lkT tl) rs os (Zk4 os) r Post lf lx Q) = v.q ⟨l, r, Q, Post⟩ := by intro l r Q P; kernel_rfl) (hl : lng m (pa p b) = true := by kernel_rfl) : LW tp n C (pa p b) τ Q := ZNc co tok tmo m v lf lx hQ hv hL hn hq hl
theorem en (co : CO C os) (v : PT os β) (lf lx : Lf) (hQ : ∀ τ, FQ (lkT tl) rs os Post .ret τ → Q .ret τ) (h : v.m = some y) (hL : HL L y)
 (hn : ∀ r (g : Gd C r), v.n ⟨⟨C.l, r, Q, Post⟩, L, C, co, g, rfl⟩) (hq : ∀ l r Q Post, ZdI tp (lkT tl) l n os r c v.a τ (KB (lkT tl) rs os (Zk4 os) r Post lf lx Q) = v.q ⟨l, r, Q, Post⟩ := by intro l r Q P; kernel_rfl) : LW tp n C c τ Q := ZPi co tok tmo v lf lx hQ h hL hn hq
theorem fo (co : CO C os) (v : PT os β) (h : v.m = some y) (hL : HL L y) (hn : ∀ r (g : Gd C r), v.n ⟨⟨C.l, r, fun _ _ => False, Post⟩, L, C, co, g, rfl⟩)
 (hq : ∀ l r Q Post, ZdI tp (lkT tl) l n os r c v.a τ (KF (lkT tl) rs os Post) = v.q ⟨l, r, Q, Post⟩ := by intro l r Q P; kernel_rfl) : LW tp n C c τ (FQ (lkT tl) rs os Post) := ZPl co tok tmo v h hL hn hq
abbrev Kl {σ ξ ρ : Type} (n : Nat) (C : Cx) (c : Code) (rs : List ResultVar) (os : Nat) (S : σ → St) (X : ξ → Nat × St) (er : ρ → AV) (bs : ρ → List Blk) (B : σ → Option (Lv σ ξ ρ)) : Prop := KL tp (lkT tl) n C c rs os S X er bs B
end
theorem ii {α : Type} {P : α → Prop} : ∀ x, P x → P x := fun _ h => h
theorem bz {r r' : Ren} {k k' : Key} {g g' : Nat} {e : TypeId} {sz : Nat} {α : Type} {en : α → List D} {xs : List α} (h : r.γ k + g = r'.γ k' + g' := by kernel_rfl) : Zcj r k ⟨g, true, e, sz, Zaa en xs⟩ = Zcj r' k' ⟨g', true, e, sz, Zaa en xs⟩ := ZEg (Zan _ _) h
class Tid (α : Type) where
 t : Nat
instance : Tid Msg := ⟨39⟩
instance : Tid Enm := ⟨42⟩
instance : Tid Svc := ⟨57⟩
abbrev E85 : Int → AV := fun y => vI y
def H85 (pf1 : Fil → Option Bool) : Cl := fun no l H θ => (∀ (z0 : Fil) y, pf1 z0 = some y → Zjj tp l no H (θ 1) [.agg ((Zar z0).map .d)] (vB y))
section
variable {C : Cx} (p0 : List Fil) (pf1 : Fil → Option Bool)
def ZFn : Nat → St := fun v1 => mkS [(0, vL Zar p0), (1, .fn (.yield 1) [] []), (7, vN p0.length), (8, vN v1)] []
def ZIB : Unit → Nat × St := fun _ => (0, mkS [] [])
def ZyX (v1 : Nat) : PT 0 (Lv (Nat) (Unit) (Int)) := br (decide ((v1 : Int) < (p0.length : Int))) (ix p0 v1 fun e2 => cf tp 1 [.agg ((Zar e2).map .d)] (pf1 e2) (fun y => vB y) fun y3 => br y3 (lrt E85 (fun _ => []) (v1 : Int)) (vs (wa v1 1) <| ln (ZFn p0) (v1 + 1))) (lxe (ZIB) ())
def ZuH := fun (v1 : Nat) => (ZyX p0 pf1 v1).m
def ZA9 : PT 0 (Int) := lr E85 (fun _ => []) (-1)
def ZFO : PT 0 (Int) := vz (eqL p0) <| lc (ZFn p0 0) ((Zab (ZuH p0 pf1) big 0).bind (Sum.elim (fun _ => (ZA9).m) some))
def ZDP : PT 0 (Int) := lc (mkS [(0, vL Zar p0), (1, .fn (.yield 1) [] [])] []) ((ZFO p0 pf1).m)
def Zb4 (p0 : List Fil) (pf1 : Fil → Option Bool) : Option (Int) := (ZDP p0 pf1).m
theorem ZDY (co : CO C 0) (hT : (H85 pf1) C.no C.l C.H0 C.θ) : Kl 19 C (pa [0, 0, 1, 0, 1] (Zac Try.f85)) [.tmp 4] 0 (ZFn p0) (ZIB) E85 (fun _ => []) (ZuH p0 pf1) := fun v1 _ m Q Post hQ L => en co (ZyX p0 pf1 v1) (lf1 [0, 1, 7, 8]) nl hQ m L fun r g => ⟨fun e2 => ⟨⟨fun y hy => hT _ y hy, by intro r; kernel_rfl, by intro r y; kernel_rfl⟩, fun y3 => ⟨id, id⟩⟩, id⟩
end
theorem ZNg (p0 : List Fil) (pf1 : Fil → Option Bool) : KO tp 85 0 [vL Zar p0, .fn (.yield 1) [] []] [] (H85 pf1) (Zb4 p0 pf1) E85 (fun _ => []) := ko1 Try.func85 Try.ntmps85 tok [.tmp 4] 0 (fun C co hT y m Post L => mi co 1 (ZDP p0 pf1) (lf1 [0, 1]) nl ii m L fun r g _ m L => sq (mi co 1 (ZFO p0 pf1) (lf1 [0, 1, 7, 8]) nl ii m L fun r g _ m L => bk 0 (lo (lpF (ZDY p0 pf1 co hT) ii m L (fun _ m => fo co (ZA9) m L fun r g => id)))))
abbrev E86 : Bool → AV := fun y => vB y
@[reducible] def G86 (w0 : Bt) : Bool → List Blk := fun y => [⟨0, true, 9, 1, [vS w0]⟩]
def ZEE (p0 : Fil) (w0 : Bt) : PT 1 (Bool) := vw .go <| vw .go <| lr E86 (G86 w0) (decide (p0.name = w0))
def Zcf (p0 : Fil) (w0 : Bt) : Option (Bool) := (ZEE p0 w0).m
theorem ZOl (p0 : Fil) (w0 : Bt) : KO tp 86 1 [.agg ((Zar p0).map .d), .ptr (0, 0) 0 0] [⟨0, true, 9, 1, [vS w0]⟩] (fun _ _ _ _ => True) (Zcf p0 w0) E86 (G86 w0) := ko1 Try.func86 Try.ntmps86 tok [.tmp 3] 1 (fun C co hT y m Post L => fo co (ZEE p0 w0) m L fun r g => id) (hB := fun y => ⟨.inr (by kernel_rfl), rfl, trivial⟩)
abbrev E51 : Int → AV := fun y => vI y
def ZFD (p0 : List Fil) (p1 : Bt) : PT 0 (Int) := cs tp 85 [vL Zar p0, .fn (.func 86) [] [.ptr (1, 3) 1 0]] [(1, 3)] [((1, 3), ⟨1, true, 9, 1, [vS p1]⟩)] (Zb4 p0 (fun (z0 : Fil) => Zcf z0 p1)) (fun y => vI y) fun y1 => lr E51 (fun _ => []) y1
def ZdL (p0 : List Fil) (p1 : Bt) : Option (Int) := (ZFD p0 p1).m
theorem ZCX (p0 : List Fil) (p1 : Bt) : KC tp 51 [vL Zar p0, vS p1] (ZdL p0 p1) E51 := kc1 Try.func51 Try.ntmps51 tok [.tmp 4] fun C co y m Post L => fo co (ZFD p0 p1) m L fun r g => ⟨fun y hy => Zbo (ZNg p0 (fun (z0 : Fil) => Zcf z0 p1)) hy co g [] [((1, 3), ⟨1, true, 9, 1, [vS p1]⟩)] (lkS [(1, .fn (.func 86) [] [.ptr (r.κ (1, 3)) (r.γ (1, 3) + 1) 0])]) (fun H' hg ho => (fun z0 y hz => Zmc (ZOl z0 p1) hz co g [((1, 3), ⟨1, true, 9, 1, [vS p1]⟩)] [] hg (by simp) (fun _ => .top) (fun _ _ => trivial) (fun l H => ⟨fun _ => ⟨rfl, by kernel_rfl⟩, by kernel_rfl, trivial⟩))) (fun H => trivial), fun y1 => id⟩
abbrev ZKR : Int → AV := fun y => vI y
section
variable {C : Cx} (p0 : List Int) (p1 : Int)
def Zq3 : Nat → St := fun v1 => mkS [(0, vL Zdr p0), (1, vI p1), (7, vN p0.length), (8, vN v1)] []
def ZzN : Unit → Nat × St := fun _ => (0, mkS [] [])
def Znh (v1 : Nat) : PT 0 (Lv (Nat) (Unit) (Int)) := br (decide ((v1 : Int) < (p0.length : Int))) (ix p0 v1 fun e2 => br (decide (p1 = e2)) (lrt ZKR (fun _ => []) (v1 : Int)) (vs (wa v1 1) <| ln (Zq3 p0 p1) (v1 + 1))) (lxe (ZzN) ())
def Zmp := fun (v1 : Nat) => (Znh p0 p1 v1).m
def ZtQ : PT 0 (Int) := lr ZKR (fun _ => []) (-1)
def Zq4 : PT 0 (Int) := vz (eqL p0) <| lc (Zq3 p0 p1 0) ((Zab (Zmp p0 p1) big 0).bind (Sum.elim (fun _ => (ZtQ).m) some))
def ZrG : PT 0 (Int) := lc (mkS [(0, vL Zdr p0), (1, vI p1)] []) ((Zq4 p0 p1).m)
def ZeP (p0 : List Int) (p1 : Int) : Option (Int) := (ZrG p0 p1).m
theorem ZuT (co : CO C 0) : Kl 19 C (pa [0, 0, 1, 0, 1] (Zac Try.f116)) [.tmp 4] 0 (Zq3 p0 p1) (ZzN) ZKR (fun _ => []) (Zmp p0 p1) := fun v1 _ m Q Post hQ L => en co (Znh p0 p1 v1) (lf1 [0, 1, 7, 8]) nl hQ m L fun r g => ⟨fun e2 => ⟨id, id⟩, id⟩
end
theorem ZLb (p0 : List Int) (p1 : Int) : KC tp 116 [vL Zdr p0, vI p1] (ZeP p0 p1) ZKR := kc1 Try.func116 Try.ntmps116 tok [.tmp 4] fun C co y m Post L => mi co 1 (ZrG p0 p1) (lf1 [0, 1]) nl ii m L fun r g _ m L => sq (mi co 1 (Zq4 p0 p1) (lf1 [0, 1, 7, 8]) nl ii m L fun r g _ m L => bk 0 (lo (lpF (ZuT p0 p1 co) ii m L (fun _ m => fo co (ZtQ) m L fun r g => id))))
abbrev E88 : Bool → AV := fun y => vB y
def ZAF (p0 : List Int) (p1 : Int) : PT 0 (Bool) := cl (ZLb p0 p1) fun y1 => lr E88 (fun _ => []) (decide ((0 : Int) ≤ y1))
def ZcQ (p0 : List Int) (p1 : Int) : Option (Bool) := (ZAF p0 p1).m
theorem ZOv (p0 : List Int) (p1 : Int) : KC tp 88 [vL Zdr p0, vI p1] (ZcQ p0 p1) E88 := kc1 Try.func88 Try.ntmps88 tok [.tmp 4] fun C co y m Post L => fo co (ZAF p0 p1) m L fun r g y1 => id
abbrev ZK1 : Int → AV := fun y => vI y
def ZNK (pf1 : Bt → Option Bool) : Cl := fun no l H θ => (∀ (z0 : Bt) y, pf1 z0 = some y → Zjj tp l no H (θ 1) [vS z0] (vB y))
section
variable {C : Cx} (p0 : List Bt) (pf1 : Bt → Option Bool)
def Zqz : Nat → St := fun v1 => mkS [(0, vL Zah p0), (1, .fn (.yield 1) [] []), (7, vN p0.length), (8, vN v1)] []
def ZzZ : Unit → Nat × St := fun _ => (0, mkS [] [])
def Znt (v1 : Nat) : PT 0 (Lv (Nat) (Unit) (Int)) := br (decide ((v1 : Int) < (p0.length : Int))) (ix p0 v1 fun e2 => cf tp 1 [vS e2] (pf1 e2) (fun y => vB y) fun y3 => br y3 (lrt ZK1 (fun _ => []) (v1 : Int)) (vs (wa v1 1) <| ln (Zqz p0) (v1 + 1))) (lxe (ZzZ) ())
def Zl9 := fun (v1 : Nat) => (Znt p0 pf1 v1).m
def Zqs : PT 0 (Int) := lr ZK1 (fun _ => []) (-1)
def Zqf : PT 0 (Int) := vz (eqL p0) <| lc (Zqz p0 0) ((Zab (Zl9 p0 pf1) big 0).bind (Sum.elim (fun _ => (Zqs).m) some))
def Zq8 : PT 0 (Int) := lc (mkS [(0, vL Zah p0), (1, .fn (.yield 1) [] [])] []) ((Zqf p0 pf1).m)
def Zcd (p0 : List Bt) (pf1 : Bt → Option Bool) : Option (Int) := (Zq8 p0 pf1).m
theorem ZyQ (co : CO C 0) (hT : (ZNK pf1) C.no C.l C.H0 C.θ) : Kl 19 C (pa [0, 0, 1, 0, 1] (Zac Try.f117)) [.tmp 4] 0 (Zqz p0) (ZzZ) ZK1 (fun _ => []) (Zl9 p0 pf1) := fun v1 _ m Q Post hQ L => en co (Znt p0 pf1 v1) (lf1 [0, 1, 7, 8]) nl hQ m L fun r g => ⟨fun e2 => ⟨⟨fun y hy => hT _ y hy, by intro r; kernel_rfl, by intro r y; kernel_rfl⟩, fun y3 => ⟨id, id⟩⟩, id⟩
end
theorem ZMJ (p0 : List Bt) (pf1 : Bt → Option Bool) : KO tp 117 0 [vL Zah p0, .fn (.yield 1) [] []] [] (ZNK pf1) (Zcd p0 pf1) ZK1 (fun _ => []) := ko1 Try.func117 Try.ntmps117 tok [.tmp 4] 0 (fun C co hT y m Post L => mi co 1 (Zq8 p0 pf1) (lf1 [0, 1]) nl ii m L fun r g _ m L => sq (mi co 1 (Zqf p0 pf1) (lf1 [0, 1, 7, 8]) nl ii m L fun r g _ m L => bk 0 (lo (lpF (ZyQ p0 pf1 co hT) ii m L (fun _ m => fo co (Zqs) m L fun r g => id)))))
abbrev E89 : Bool → AV := fun y => vB y
def H89 (pf1 : Bt → Option Bool) : Cl := fun no l H θ => (∀ (z0 : Bt) y, pf1 z0 = some y → Zjj tp l no H (θ 1) [vS z0] (vB y))
def ZGu (p0 : List Bt) (pf1 : Bt → Option Bool) : PT 0 (Bool) := cs tp 117 [vL Zah p0, .fn (.yield 1) [] []] [] [] (Zcd p0 pf1) (fun y => vI y) fun y1 => lr E89 (fun _ => []) (decide ((0 : Int) ≤ y1))
def ZbE (p0 : List Bt) (pf1 : Bt → Option Bool) : Option (Bool) := (ZGu p0 pf1).m
theorem ZN7 (p0 : List Bt) (pf1 : Bt → Option Bool) : KO tp 89 0 [vL Zah p0, .fn (.yield 1) [] []] [] (H89 pf1) (ZbE p0 pf1) E89 (fun _ => []) := ko1 Try.func89 Try.ntmps89 tok [.tmp 4] 0 (fun C co hT y m Post L => fo co (ZGu p0 pf1) m L fun r g => ⟨fun y hy => Zbo (ZMJ p0 pf1) hy co g [] [] (lkS [(1, r.θ 1)]) (fun H' hg ho => (fun z0 y hz => Za8 co g [] ho (hT z0 y hz))) (fun H => trivial), fun y1 => id⟩)
abbrev E90 : Bool → AV := fun y => vB y
@[reducible] def G90 (w0 : List Int) (w1 : List Fil) : Bool → List Blk := fun y => [⟨0, true, 62, 1, [vL Zdr w0]⟩, ⟨0, true, 22, 1, [vL Zar w1]⟩]
def ZG4 (p0 : Bt) (w0 : List Int) (w1 : List Fil) : PT 2 (Bool) := vw .go <| vw .go <| cl (ZCX w1 p0) fun y1 => cl (ZOv w0 y1) fun y2 => lr E90 (G90 w0 w1) (!y2)
def ZcK (p0 : Bt) (w0 : List Int) (w1 : List Fil) : Option (Bool) := (ZG4 p0 w0 w1).m
abbrev Zmi : Int → AV := fun y => vI y
@[reducible] def Zms (p0 : List Int) : Int → List Blk := fun y => [⟨0, true, 3, 1, Zaa Zdr p0⟩]
def ZnK (p0 : List Int) (p1 : Int) : Nat → St := fun v1 => mkS [(0, .ref (0, 0) 0 0 p0.length), (1, vI p1), (7, vN p0.length), (8, vN v1)] [((0, 0), ⟨0, true, 3, 1, Zaa Zdr p0⟩)]
def Zl6 (p0 : List Int) : Unit → Nat × St := fun _ => (0, mkS [] [((0, 0), ⟨0, true, 3, 1, Zaa Zdr p0⟩)])
def Zgd (p0 : List Int) (p1 : Int) (v1 : Nat) : PT 1 (Lv (Nat) (Unit) (Int)) := br (decide ((v1 : Int) < (p0.length : Int))) (vs (ir v1 p0.length 1) <| ca p0 v1 fun e2 => br (decide (p1 = e2)) (lrt Zmi (Zms p0) (v1 : Int)) (vs (wa v1 1) <| vz (fl p0) <| ln (ZnK p0 p1) (v1 + 1))) (vz (fl p0) <| lxe (Zl6 p0) ())
def Zgg (p0 : List Int) (p1 : Int) := fun (v1 : Nat) => (Zgd p0 p1 v1).m
def ZiY (p0 : List Int) : PT 1 (Int) := lr Zmi (Zms p0) (-1)
def ZiI (p0 : List Int) (p1 : Int) : PT 1 (Int) := vz (eqN p0.length) <| vz (fl p0) <| lc (mkS [(0, .ref (0, 0) 0 0 p0.length), (1, vI p1), (7, vN p0.length), (8, vI 0)] [((0, 0), ⟨0, true, 3, 1, Zaa Zdr p0⟩)]) ((Zab (Zgg p0 p1) big 0).bind (Sum.elim (fun _ => (ZiY p0).m) some))
def ZiO (p0 : List Int) (p1 : Int) : PT 1 (Int) := vz (fl p0) <| lc (mkS [(0, .ref (0, 0) 0 0 p0.length), (1, vI p1)] [((0, 0), ⟨0, true, 3, 1, Zaa Zdr p0⟩)]) ((ZiI p0 p1).m)
def ZcZ (p0 : List Int) (p1 : Int) : Option (Int) := (ZiO p0 p1).m
theorem ZpX {C : Cx} (co : CO C 1) (p0 : List Int) (p1 : Int) : Kl 19 C (pa [0, 0, 1, 0, 1] (Zac Try.f116)) [.tmp 4] 1 (ZnK p0 p1) (Zl6 p0) Zmi (Zms p0) (Zgg p0 p1) := fun v1 _ m Q Post hQ L => en co (Zgd p0 p1 v1) (lf2 [0, 1, 7, 8] [((0, 0), true)]) (lf2 [] [((0, 0), true)]) hQ m L fun r g => ⟨fun e2 => ⟨id, id⟩, id⟩
theorem ZF7 (p0 : List Int) (p1 : Int) : KO tp 116 1 [.ref (0, 0) 0 0 p0.length, vI p1] [⟨0, true, 3, 1, Zaa Zdr p0⟩] (fun _ _ _ _ => True) (ZcZ p0 p1) Zmi (Zms p0) := ko1 Try.func116 Try.ntmps116 tok [.tmp 4] 1 (fun C co hT y m Post L => mi co 1 (ZiO p0 p1) (lf2 [0, 1] [((0, 0), true)]) nl ii m L fun r g _ m L => sq (mi co 1 (ZiI p0 p1) (lf2 [0, 1, 7, 8] [((0, 0), true)]) nl ii m L fun r g _ m L => bk 0 (lo (lpF (ZpX co p0 p1) ii m L (fun _ m => fo co (ZiY p0) m L fun r g => id))))) (hB := fun y => ⟨.inl (Zan _ _), rfl, trivial⟩)
abbrev ZKm : Bool → AV := fun y => vB y
@[reducible] def ZJC (p0 : List Int) : Bool → List Blk := fun y => [⟨0, true, 3, 1, Zaa Zdr p0⟩]
def ZlE (p0 : List Int) (p1 : Int) : PT 1 (Bool) := cs tp 116 [.ref (0, 0) 0 0 p0.length, vI p1] [(0, 0)] [((0, 0), ⟨0, true, 3, 1, Zaa Zdr p0⟩)] (ZcZ p0 p1) (fun y => vI y) fun y1 => lr ZKm (ZJC p0) (decide ((0 : Int) ≤ y1))
def Zbk (p0 : List Int) (p1 : Int) : Option (Bool) := (ZlE p0 p1).m
theorem Zze (p0 : List Int) (p1 : Int) : KO tp 88 1 [.ref (0, 0) 0 0 p0.length, vI p1] [⟨0, true, 3, 1, Zaa Zdr p0⟩] (fun _ _ _ _ => True) (Zbk p0 p1) ZKm (ZJC p0) := ko1 Try.func88 Try.ntmps88 tok [.tmp 4] 1 (fun C co hT y m Post L => fo co (ZlE p0 p1) m L fun r g => ⟨fun y hy => Zbo (ZF7 p0 p1) hy co g [((0, 0), ⟨0, true, 3, 1, Zaa Zdr p0⟩)] [] (lkS []) (fun H' hg ho => trivial) (fun H => ⟨fun _ => ⟨rfl, bz⟩, by kernel_rfl, trivial⟩), fun y1 => id⟩) (hB := fun y => ⟨.inl (Zan _ _), rfl, trivial⟩)
abbrev ZG3 : Bool → AV := fun y => vB y
@[reducible] def ZJb (w0 : List Int) (w1 : List Fil) : Bool → List Blk := fun y => [⟨0, true, 62, 1, [.ref (0, 2) 0 0 w0.length]⟩, ⟨0, true, 22, 1, [vL Zar w1]⟩, ⟨0, true, 3, 1, Zaa Zdr w0⟩]
def ZlW (p0 : Bt) (w0 : List Int) (w1 : List Fil) : PT 3 (Bool) := vw .go <| vw .go <| cl (ZCX w1 p0) fun y1 => cs tp 88 [.ref (0, 2) 0 0 w0.length, vI y1] [(0, 2)] [((0, 2), ⟨0, true, 3, 1, Zaa Zdr w0⟩)] (Zbk w0 y1) (fun y => vB y) fun y2 => lr ZG3 (ZJb w0 w1) (!y2)
def Za3 (p0 : Bt) (w0 : List Int) (w1 : List Fil) : Option (Bool) := (ZlW p0 w0 w1).m
theorem ZIN (p0 : Bt) (w0 : List Int) (w1 : List Fil) : KO tp 90 3 [vS p0, .ptr (0, 0) 0 0, .ptr (0, 1) 0 0] [⟨0, true, 62, 1, [.ref (0, 2) 0 0 w0.length]⟩, ⟨0, true, 22, 1, [vL Zar w1]⟩, ⟨0, true, 3, 1, Zaa Zdr w0⟩] (fun _ _ _ _ => True) (Za3 p0 w0 w1) ZG3 (ZJb w0 w1) := ko1 Try.func90 Try.ntmps90 tok [.tmp 4] 3 (fun C co hT y m Post L => fo co (ZlW p0 w0 w1) m L fun r g y1 => ⟨fun y hy => Zbo (Zze w0 y1) hy co g [((0, 2), ⟨0, true, 3, 1, Zaa Zdr w0⟩)] [] (lkS []) (fun H' hg ho => trivial) (fun H => ⟨fun _ => ⟨rfl, bz⟩, by kernel_rfl, trivial⟩), fun y2 => id⟩) (hB := fun y => ⟨.inr (by kernel_rfl), rfl, ⟨.inr (by kernel_rfl), rfl, ⟨.inl (Zan _ _), rfl, trivial⟩⟩⟩)
abbrev ZBE : Bool → AV := fun y => vB y
@[reducible] def ZCG (w0 : List Int) (w1 : List Fil) : Bool → List Blk := fun y => [⟨0, true, 62, 1, [.ref (0, 2) 0 0 w0.length]⟩, ⟨0, true, 22, 1, [vL Zar w1]⟩, ⟨0, true, 3, 1, Zaa Zdr w0⟩]
def Zlh (p0 : Fil) (w0 : List Int) (w1 : List Fil) : PT 3 (Bool) := vw .go <| vw .go <| vw .go <| cl (ZCX w1 p0.name) fun y1 => cs tp 88 [.ref (0, 2) 0 0 w0.length, vI y1] [(0, 2)] [((0, 2), ⟨0, true, 3, 1, Zaa Zdr w0⟩)] (Zbk w0 y1) (fun y => vB y) fun y2 => br y2 (lr ZBE (ZCG w0 w1) false) (vw .go <| cs tp 89 [vL Zah p0.imports, .fn (.func 90) [] [.ptr (0, 0) 0 0, .ptr (0, 1) 0 0]] [(0, 0), (0, 1), (0, 2)] [((0, 0), ⟨0, true, 62, 1, [.ref (0, 2) 0 0 w0.length]⟩), ((0, 1), ⟨0, true, 22, 1, [vL Zar w1]⟩), ((0, 2), ⟨0, true, 3, 1, Zaa Zdr w0⟩)] (ZbE p0.imports (fun (z0 : Bt) => Za3 z0 w0 w1)) (fun y => vB y) fun y3 => lr ZBE (ZCG w0 w1) (!y3))
def Zbq (p0 : Fil) (w0 : List Int) (w1 : List Fil) : Option (Bool) := (Zlh p0 w0 w1).m
theorem ZJ9 (p0 : Fil) (w0 : List Int) (w1 : List Fil) : KO tp 87 3 [.agg ((Zar p0).map .d), .ptr (0, 0) 0 0, .ptr (0, 1) 0 0] [⟨0, true, 62, 1, [.ref (0, 2) 0 0 w0.length]⟩, ⟨0, true, 22, 1, [vL Zar w1]⟩, ⟨0, true, 3, 1, Zaa Zdr w0⟩] (fun _ _ _ _ => True) (Zbq p0 w0 w1) ZBE (ZCG w0 w1) := ko1 Try.func87 Try.ntmps87 tok [.tmp 4] 3 (fun C co hT y m Post L => fo co (Zlh p0 w0 w1) m L fun r g y1 => ⟨fun y hy => Zbo (Zze w0 y1) hy co g [((0, 2), ⟨0, true, 3, 1, Zaa Zdr w0⟩)] [] (lkS []) (fun H' hg ho => trivial) (fun H => ⟨fun _ => ⟨rfl, bz⟩, by kernel_rfl, trivial⟩), fun y2 => ⟨id, ⟨fun y hy => Zbo (ZN7 p0.imports (fun (z0 : Bt) => Za3 z0 w0 w1)) hy co g [] [((0, 0), ⟨0, true, 62, 1, [.ref (0, 2) 0 0 w0.length]⟩), ((0, 1), ⟨0, true, 22, 1, [vL Zar w1]⟩), ((0, 2), ⟨0, true, 3, 1, Zaa Zdr w0⟩)] (lkS [(1, .fn (.func 90) [] [.ptr (r.κ (0, 0)) (r.γ (0, 0) + 0) 0, .ptr (r.κ (0, 1)) (r.γ (0, 1) + 0) 0])]) (fun H' hg ho => (fun z0 y hz => Zmc (ZIN z0 w0 w1) hz co g [((0, 0), ⟨0, true, 62, 1, [.ref (0, 2) 0 0 w0.length]⟩), ((0, 1), ⟨0, true, 22, 1, [vL Zar w1]⟩), ((0, 2), ⟨0, true, 3, 1, Zaa Zdr w0⟩)] [] hg (by simp) (fun _ => .top) (fun _ _ => trivial) (fun l H => ⟨fun _ => ⟨rfl, by kernel_rfl⟩, by kernel_rfl, ⟨fun _ => ⟨rfl, by kernel_rfl⟩, by kernel_rfl, ⟨fun _ => ⟨rfl, bz⟩, by kernel_rfl, trivial⟩⟩⟩))) (fun H => trivial), fun y3 => id⟩⟩⟩) (hB := fun y => ⟨.inr (by kernel_rfl), rfl, ⟨.inr (by kernel_rfl), rfl, ⟨.inl (Zan _ _), rfl, trivial⟩⟩⟩)
abbrev E52 : List Int → AV := fun y => vL Zdr y
section
variable {C : Cx} (p0 : List Fil)
def ZBU : List Int → St := fun r1 => mkS [(1, .ptr (1, 1) 0 0), (3, .ptr (1, 3) 0 0)] [((1, 1), ⟨0, true, 22, 1, [vL Zar p0]⟩), ((1, 3), ⟨0, true, 62, 1, [.ref (1, 1030) 0 0 r1.length]⟩), ((1, 1030), ⟨0, true, 3, 1, Zaa Zdr r1⟩)]
def ZI0 : List Int → Nat × St := fun r3 => (0, mkS [(3, .ptr (1, 3) 0 0)] [((1, 3), ⟨0, true, 62, 1, [.ref (1, 1030) 0 0 r3.length]⟩), ((1, 1030), ⟨0, true, 3, 1, Zaa Zdr r3⟩)])
def Zty (r1 : List Int) : PT 0 (Lv (List Int) (List Int) (List Int)) := vw .go <| vz (eqN r1.length) <| vw .go <| vz (eqL p0) <| br (decide ((r1.length : Int) < (p0.length : Int))) (vw .go <| cs tp 85 [vL Zar p0, .fn (.func 87) [] [.ptr (1, 3) 0 0, .ptr (1, 1) 0 0]] [(1, 3), (1, 1), (1, 1030)] [((1, 3), ⟨0, true, 62, 1, [.ref (1, 1030) 0 0 r1.length]⟩), ((1, 1), ⟨0, true, 22, 1, [vL Zar p0]⟩), ((1, 1030), ⟨0, true, 3, 1, Zaa Zdr r1⟩)] (Zb4 p0 (fun (z0 : Fil) => Zbq z0 r1 p0)) (fun y => vI y) fun y2 => br (decide (y2 < (0 : Int))) (vw .go <| vz (fr r1) <| lrt E52 (fun _ => []) r1) (vw .go <| vw .sep <| ap r1 (y2 : Int) <| vw .go <| vz (fl (r1 ++ [y2])) <| ln (ZBU p0) (r1 ++ [y2]))) (vz (fl r1) <| lxe (ZI0) r1)
def ZoW := fun (r1 : List Int) => (Zty p0 r1).m
def ZBW (r3 : List Int) : PT 0 (List Int) := vw .go <| vz (fr r3) <| lr E52 (fun _ => []) r3
def ZEN : PT 0 (List Int) := vw (.adc (1, 3) 0 1030 3 1) <| vz (fl ([] : List Int)) <| lc (ZBU p0 ([] : List Int)) ((Zab (ZoW p0) big ([] : List Int)).bind (Sum.elim (fun r3 => (ZBW r3).m) some))
def ZD3 : PT 0 (List Int) := lc (mkS [(1, .ptr (1, 1) 0 0), (3, .ptr (1, 3) 0 0)] [((1, 1), ⟨0, true, 22, 1, [vL Zar p0]⟩), ((1, 3), ⟨0, true, 62, 1, [.e0]⟩)]) ((ZEN p0).m)
def ZdY (p0 : List Fil) : Option (List Int) := (ZD3 p0).m
theorem ZDz (co : CO C 0) : Kl 21 C (pa [0, 0, 0, 1, 1] (Zac Try.f52)) [.tmp 2] 0 (ZBU p0) (ZI0) E52 (fun _ => []) (ZoW p0) := fun r1 _ m Q Post hQ L => en co (Zty p0 r1) (lf2 [1, 3] [((1, 1), false), ((1, 3), false), ((1, 1030), true)]) (lf2 [3] [((1, 3), false), ((1, 1030), true)]) hQ m L fun r g => ⟨⟨fun y hy => Zbo (ZNg p0 (fun (z0 : Fil) => Zbq z0 r1 p0)) hy co g [] [((1, 3), ⟨0, true, 62, 1, [.ref (1, 1030) 0 0 r1.length]⟩), ((1, 1), ⟨0, true, 22, 1, [vL Zar p0]⟩), ((1, 1030), ⟨0, true, 3, 1, Zaa Zdr r1⟩)] (lkS [(1, .fn (.func 87) [] [.ptr (r.κ (1, 3)) (r.γ (1, 3) + 0) 0, .ptr (r.κ (1, 1)) (r.γ (1, 1) + 0) 0])]) (fun H' hg ho => (fun z0 y hz => Zmc (ZJ9 z0 r1 p0) hz co g [((1, 3), ⟨0, true, 62, 1, [.ref (1, 1030) 0 0 r1.length]⟩), ((1, 1), ⟨0, true, 22, 1, [vL Zar p0]⟩), ((1, 1030), ⟨0, true, 3, 1, Zaa Zdr r1⟩)] [] hg (by simp) (fun _ => .top) (fun _ _ => trivial) (fun l H => ⟨fun _ => ⟨rfl, by kernel_rfl⟩, by kernel_rfl, ⟨fun _ => ⟨rfl, by kernel_rfl⟩, by kernel_rfl, ⟨fun _ => ⟨rfl, bz⟩, by kernel_rfl, trivial⟩⟩⟩))) (fun H => trivial), fun y2 => ⟨id, id⟩⟩, id⟩
end
theorem ZPd (p0 : List Fil) : KC tp 52 [vL Zar p0] (ZdY p0) E52 := kc1 Try.func52 Try.ntmps52 tok [.tmp 2] fun C co y m Post L => mi co 2 (ZD3 p0) (lf2 [1, 3] [((1, 1), false), ((1, 3), false)]) nl ii m L fun r g _ m L => sq (bk 0 (ZhO co (ZEN p0) (lf2 [1, 3] [((1, 1), false), ((1, 3), false), ((1, 1030), true)]) m L fun r g _ m L => lo (lpF (ZDz p0 co) ii m L (fun r3 m => fo co (ZBW r3) m L fun r g => id))))
abbrev E53 : Bool → AV := fun y => vB y
section
variable {C : Cx} (co : CO C 0) (p0 : List Fil) (p1 : Int) (e4 : Fil) (r1 : List Int) (r2 : List Bool)
abbrev ZH3 := PT 0 (Lv (List Int × List Bool) (Unit) (Bool))
abbrev Zw5 : List (Key × Bool) := [((1, 13), true), ((1, 15), true)]
abbrev ZJY : List (Key × Blk) := [((1, 13), ⟨0, true, 4, 1, Zaa ZhM r2⟩), ((1, 15), ⟨0, true, 3, 1, Zaa Zdr r1⟩)]
abbrev ZIa : List (Nat × AV) := [(0, vL Zar p0), (1, vI p1), (5, .ref (1, 13) 0 0 r2.length), (6, .ref (1, 15) 0 0 r1.length)]
def ZJt : List Int × List Bool → St := fun (r1, r2) => mkS (ZIa p0 p1 r1 r2) (ZJY r1 r2)
def ZIe : Unit → Nat × St := fun _ => (0, mkS [] [])
def Zyx : List Int × Nat × List Bool → St := fun (r5, v6, r7) => mkS [(0, vL Zar p0), (1, vI p1), (5, .ref (1, 13) 0 0 r7.length), (6, .ref (1, 15) 0 0 r5.length), (28, vL Zah e4.imports), (29, vN e4.imports.length), (30, vN v6)] [((1, 13), ⟨0, true, 4, 1, Zaa ZhM r7⟩), ((1, 15), ⟨0, true, 3, 1, Zaa Zdr r5⟩)]
def ZJW : List Bool × List Int → Nat × St := fun (r11, r12) => (2, mkS [(0, vL Zar p0), (1, vI p1), (5, .ref (1, 13) 0 0 r11.length), (6, .ref (1, 15) 0 0 r12.length)] [((1, 13), ⟨0, true, 4, 1, Zaa ZhM r11⟩), ((1, 15), ⟨0, true, 3, 1, Zaa Zdr r12⟩)])
def ZwT (r5 : List Int) (v6 : Nat) (r7 : List Bool) : PT 0 (Lv (List Int × Nat × List Bool) (List Bool × List Int) (Bool)) := br (decide ((v6 : Int) < (e4.imports.length : Int))) (ix e4.imports v6 fun e8 => cl (ZCX p0 e8) fun y9 => br (decide (y9 = p1)) (lrt E53 (fun _ => []) true) (vs (iri y9 r7.length 1) <| ca r7 y9.toNat fun e10 => br (!e10) (vs (iri y9 r7.length 1) <| vs (st r7 y9.toNat true) <| rn 5 13 r7.length (r7.set y9.toNat true) <| vw .sep <| vw .sep <| ap r5 (y9 : Int) <| vs (wa v6 1) <| vz (fl (r7.set y9.toNat true)) <| vz (fl (r5 ++ [y9])) <| ln (Zyx p0 p1 e4) (r5 ++ [y9], v6 + 1, r7.set y9.toNat true)) (vs (wa v6 1) <| vz (fl r7) <| vz (fl r5) <| ln (Zyx p0 p1 e4) (r5, v6 + 1, r7)))) (vz (fl r7) <| vz (fl r5) <| lxe (ZJW p0 p1) (r7, r5))
def ZlH := fun ((r5, v6, r7) : List Int × Nat × List Bool) => (ZwT p0 p1 e4 r5 v6 r7).m
def ZvB : ZH3 := vs (ir 0 r1.length 1) <| ca r1 0 fun e3 => ixi p0 e3 fun e4 => vw .go <| sR r1.length 0 (.nt 1) .no <| rb 6 15 (r1.length - 1) r1 (0 + 1) <| vw .sep <| vw .go <| vz (eqL e4.imports) <| vz (fl r2) <| vz (fl (r1.drop (0 + 1))) <| lc (Zyx p0 p1 e4 (r1.drop (0 + 1), 0, r2)) ((Zab (ZlH p0 p1 e4) big (r1.drop (0 + 1), 0, r2)).bind (Sum.elim (fun (r11, r12) => some (.nx (r12, r11))) (fun z => some (.rt z))))
def Zvj : ZH3 := vz (eqN r1.length) <| br (decide ((0 : Int) < (r1.length : Int))) (vz (fl r2) <| vz (fl r1) <| lc (mkS (ZIa p0 p1 r1 r2) (ZJY r1 r2)) ((ZvB p0 p1 r1 r2).m)) (lxe (ZIe) ())
def ZpD := fun ((r1, r2) : List Int × List Bool) => (Zvj p0 p1 r1 r2).m
def ZCb : PT 0 (Bool) := lr E53 (fun _ => []) false
def ZBh : PT 0 (Bool) := vz (eqL p0) <| ms p0.length false [vB false] (by first | rfl | kernel_rfl) <| vw .go <| vz (fl (List.replicate p0.length false)) <| vz (fl ([p1] : List Int)) <| lc (ZJt p0 p1 (([p1] : List Int), List.replicate p0.length false)) ((Zab (ZpD p0 p1) big (([p1] : List Int), List.replicate p0.length false)).bind (Sum.elim (fun _ => (ZCb).m) some))
def ZcN (p0 : List Fil) (p1 : Int) : Option (Bool) := (ZBh p0 p1).m
section
include co
theorem ZAZ : Kl 53 C (pa [0, 0, 1, 1, 1, 0, 1, 0, 0, 0, 1, 1, 1] (Zac Try.f53)) [.tmp 4] 0 (Zyx p0 p1 e4) (ZJW p0 p1) E53 (fun _ => []) (ZlH p0 p1 e4) := fun (r5, v6, r7) _ m Q Post hQ L => en co (ZwT p0 p1 e4 r5 v6 r7) (lf2 [0, 1, 5, 6, 28, 29, 30] Zw5) (lf2 [0, 1, 5, 6] Zw5) hQ m L fun r g => ⟨fun e8 y9 => ⟨id, fun e10 => ⟨id, id⟩⟩, id⟩
theorem ZC3 : Kl 53 C (pa [0, 0, 0, 1, 1, 1] (Zac Try.f53)) [.tmp 4] 0 (ZJt p0 p1) (ZIe) E53 (fun _ => []) (ZpD p0 p1) := fun (r1, r2) _ m Q Post hQ L => mi co 1 (Zvj p0 p1 r1 r2) (lf2 [0, 1, 5, 6] Zw5) nl hQ m L fun r g => ⟨fun _ m L => bk 1 (mi co 3 (ZvB p0 p1 r1 r2) (lf2 [0, 1, 5, 6, 28, 29, 30] Zw5) nl hQ m L fun r g e3 e4 _ m L => bk 2 (lo (lpL (ZAZ co p0 p1 e4) hQ m L (fun (r11, r12) m => by cases m; exact L)))), id⟩
end
end
theorem ZOK (p0 : List Fil) (p1 : Int) : KC tp 53 [vL Zar p0, vI p1] (ZcN p0 p1) E53 := kc1 Try.func53 Try.ntmps53 tok [.tmp 4] fun C co y m Post L => mi co 3 (ZBh p0 p1) (lf2 [0, 1, 5, 6] [((1, 13), true), ((1, 15), true)]) nl ii m L fun r g _ m L => sq (bk 0 (lo (lpF (ZC3 co p0 p1) ii m L (fun _ m => fo co (ZCb) m L fun r g => id))))
abbrev E22 : List Int × Bt × Int → AV := fun y => .tup [vL Zdr y.1, vS y.2.1, vI y.2.2]
section
variable {C : Cx} (co : CO C 0) (p0 : List Fil) (v4 : Nat) (e5 : Fil)
abbrev ZoL := PT 0 (Lv (Nat) (Unit) (List Int × Bt × Int))
abbrev Zpy := PT 0 (List Int × Bt × Int)
abbrev ZD6 : List (Nat × AV) := [(0, vL Zar p0), (38, vL Zar p0), (39, vN p0.length), (40, vN v4)]
def ZDy : Nat → St := fun v1 => mkS [(0, vL Zar p0), (22, vL Zar p0), (23, vN p0.length), (24, vN v1)] []
def ZKr : Unit → Nat × St := fun _ => (0, mkS [(0, vL Zar p0)] [])
def ZyA (v1 : Nat) : ZoL := br (decide ((v1 : Int) < (p0.length : Int))) (ix p0 v1 fun e2 => vw .go <| vw .go <| cl (ZCX p0 e2.name) fun y3 => br (decide (y3 < (v1 : Int))) (vw .go <| lrt E22 (fun _ => []) ([], e2.name, 9)) (vs (wa v1 1) <| ln (ZDy p0) (v1 + 1))) (lxe (ZKr p0) ())
def ZpO := fun (v1 : Nat) => (ZyA p0 v1).m
def ZEL : Nat → St := fun v4 => mkS (ZD6 p0 v4) []
def ZHy : Unit → Nat × St := fun _ => (2, mkS [(0, vL Zar p0)] [])
def ZDC : Nat → St := fun v6 => mkS [(0, vL Zar p0), (8, .ptr (1, 8) 0 0), (38, vL Zar p0), (39, vN p0.length), (40, vN v4), (45, vL Zah e5.imports), (46, vN e5.imports.length), (47, vN v6)] [((1, 8), ⟨0, true, 61, 6, [vS e5.name, vS e5.space, vL Zah e5.imports, vL Zal e5.messages, vL Zag e5.enums, vL Zao e5.services]⟩)]
def ZIL : Unit → Nat × St := fun _ => (4, mkS (ZD6 p0 v4) [])
def Zxo (v6 : Nat) : ZoL := br (decide ((v6 : Int) < (e5.imports.length : Int))) (ix e5.imports v6 fun e7 => cl (ZCX p0 e7) fun y8 => br (decide (y8 < (0 : Int))) (vw .go <| lrt E22 (fun _ => []) ([], e5.name, 10)) (vs (wa v6 1) <| ln (ZDC p0 v4 e5) (v6 + 1))) (lxe (ZIL p0 v4) ())
def ZsO := fun (v6 : Nat) => (Zxo p0 v4 e5 v6).m
def ZxP : ZoL := vs (wa v4 1) <| ln (ZEL p0) (v4 + 1)
def ZxX : ZoL := ix p0 v4 fun e5 => vw .go <| vw .go <| vz (eqL e5.imports) <| lc (ZDC p0 v4 e5 0) ((Zab (ZsO p0 v4 e5) big 0).bind (Sum.elim (fun _ => (ZxP p0 v4).m) (fun z => some (.rt z))))
def ZyJ : ZoL := br (decide ((v4 : Int) < (p0.length : Int))) (lc (mkS (ZD6 p0 v4) []) ((ZxX p0 v4).m)) (lxe (ZHy p0) ())
def ZpE := fun (v4 : Nat) => (ZyJ p0 v4).m
def ZGe : Nat → St := fun v10 => mkS [(0, vL Zar p0), (67, vL Zar p0), (68, vN p0.length), (69, vN v10)] []
def ZHf : Unit → Nat × St := fun _ => (6, mkS [] [])
def ZwH (v10 : Nat) : ZoL := br (decide ((v10 : Int) < (p0.length : Int))) (ix p0 v10 fun e11 => vw .go <| cl (ZOK p0 (v10 : Int)) fun y12 => br y12 (vw .go <| lrt E22 (fun _ => []) ([], e11.name, 19)) (vs (wa v10 1) <| ln (ZGe p0) (v10 + 1))) (lxe (ZHf) ())
def Zo4 := fun (v10 : Nat) => (ZwH p0 v10).m
def ZvJ : Zpy := lr E22 (fun _ => []) ([], ⟨#[]⟩, 19)
def Zyc : Zpy := vz (eqL p0) <| lc (ZGe p0 0) ((Zab (Zo4 p0) big 0).bind (Sum.elim (fun _ => (ZvJ).m) some))
def ZwY : Zpy := cl (ZPd p0) fun y9 => vz (eqL y9) <| vz (eqL p0) <| br (decide ((y9.length : Int) = (p0.length : Int))) (lr E22 (fun _ => []) (y9, ⟨#[]⟩, 0)) (lc (mkS [(0, vL Zar p0)] []) ((Zyc p0).m))
def ZnJ : Zpy := vz (eqL p0) <| lc (ZEL p0 0) ((Zab (ZpE p0) big 0).bind (Sum.elim (fun _ => (ZwY p0).m) some))
def ZmH : Zpy := vz (eqL p0) <| lc (ZDy p0 0) ((Zab (ZpO p0) big 0).bind (Sum.elim (fun _ => (ZnJ p0).m) some))
def Zmt : Zpy := vz (eqL p0) <| vy (!(decide ((p0.length : Int) < (1 : Int)))) (eqL p0) <| br (decide ((p0.length : Int) < (1 : Int)) || decide ((16 : Int) < (p0.length : Int))) (lr E22 (fun _ => []) ([], ⟨#[]⟩, 3)) (lc (mkS [(0, vL Zar p0)] []) ((ZmH p0).m))
def Zec (p0 : List Fil) : Option (List Int × Bt × Int) := (Zmt p0).m
section
include co
theorem ZAJ : Kl 80 C (pa [0, 0, 1, 0, 1, 1] (Zac Try.f22)) [.tmp 2, .tmp 3, .tmp 4] 0 (ZDy p0) (ZKr p0) E22 (fun _ => []) (ZpO p0) := fun v1 _ m Q Post hQ L => en co (ZyA p0 v1) (lf1 [0, 22, 23, 24]) (lf1 [0]) hQ m L fun r g => ⟨fun e2 y3 => ⟨id, id⟩, id⟩
theorem ZAx : Kl 80 C (pa [0, 0, 1, 1, 0, 0, 1, 1, 0, 0, 1, 0, 1, 1, 1] (Zac Try.f22)) [.tmp 2, .tmp 3, .tmp 4] 0 (ZDC p0 v4 e5) (ZIL p0 v4) E22 (fun _ => []) (ZsO p0 v4 e5) := fun v6 _ m Q Post hQ L => en co (Zxo p0 v4 e5 v6) (lf2 [0, 8, 38, 39, 40, 45, 46, 47] [((1, 8), false)]) (lf1 [0, 38, 39, 40]) hQ m L fun r g => ⟨fun e7 y8 => ⟨id, id⟩, id⟩
theorem ZEQ : Kl 80 C (pa [0, 0, 1, 0, 1, 1, 1] (Zac Try.f22)) [.tmp 2, .tmp 3, .tmp 4] 0 (ZEL p0) (ZHy p0) E22 (fun _ => []) (ZpE p0) := fun v4 _ m Q Post hQ L => mi co 2 (ZyJ p0 v4) (lf1 [0, 38, 39, 40]) (lf1 [0]) hQ m L fun r g => ⟨fun _ m L => sq (bk 3 (mi co 2 (ZxX p0 v4) (lf2 [0, 8, 38, 39, 40, 45, 46, 47] [((1, 8), false)]) nl hQ m L fun r g e5 _ m L => bk 4 (lo (lpL (ZAx co p0 v4 e5) hQ m L (fun _ m => en co (ZxP p0 v4) (lf1 [0, 38, 39, 40]) nl hQ m L fun r g => id))))), id⟩
theorem ZAG : Kl 80 C (pa [0, 0, 1, 0, 1, 1, 1, 1, 1, 1] (Zac Try.f22)) [.tmp 2, .tmp 3, .tmp 4] 0 (ZGe p0) (ZHf) E22 (fun _ => []) (Zo4 p0) := fun v10 _ m Q Post hQ L => en co (ZwH p0 v10) (lf1 [0, 67, 68, 69]) nl hQ m L fun r g => ⟨fun e11 y12 => ⟨id, id⟩, id⟩
end
end
theorem ZOi (p0 : List Fil) : KC tp 22 [vL Zar p0] (Zec p0) E22 := kc1 Try.func22 Try.ntmps22 tok [.tmp 2, .tmp 3, .tmp 4] fun C co y m Post L => mi co 2 (Zmt p0) (lf1 [0]) nl ii m L fun r g => ⟨id, fun _ m L => sq (mi co 1 (ZmH p0) (lf1 [0, 22, 23, 24]) nl ii m L fun r g _ m L => bk 0 (lo (lpF (ZAJ co p0) ii m L (fun _ m => sq (mi co 1 (ZnJ p0) (lf1 [0, 38, 39, 40]) nl ii m L fun r g _ m L => bk 2 (lo (lpF (ZEQ co p0) ii m L (fun _ m => mi co 2 (ZwY p0) (lf1 [0]) nl ii m L fun r g y9 => ⟨id, fun _ m L => sq (mi co 1 (Zyc p0) (lf1 [0, 67, 68, 69]) nl ii m L fun r g _ m L => bk 6 (lo (lpF (ZAG co p0) ii m L (fun _ m => fo co (ZvJ) m L fun r g => id))))⟩))))))))⟩
abbrev E25 : Bt → AV := fun y => vS y
def ZD9 (p0 : Bt) (p1 : Bt) : PT 0 (Bt) := br (decide (p0 = (⟨#[]⟩ : Bt))) (lr E25 (fun _ => []) p1) (ad p0 (⟨#[46]⟩ : Bt) fun s1 => ad s1 p1 fun s2 => lr E25 (fun _ => []) s2)
def Zei (p0 : Bt) (p1 : Bt) : Option (Bt) := (ZD9 p0 p1).m
theorem ZFp (p0 : Bt) (p1 : Bt) : KC tp 25 [vS p0, vS p1] (Zei p0 p1) E25 := kc1 Try.func25 Try.ntmps25 tok [.tmp 4] fun C co y m Post L => fo co (ZD9 p0 p1) m L fun r g => ⟨id, fun s1 s2 => id⟩
abbrev E24 : List Bt × List Bt × List Bt → AV := fun y => .tup [vL Zah y.1, vL Zah y.2.1, vL Zah y.2.2]
section
variable {C : Cx} (co : CO C 0) (p0 : Fil) (r5 r10 : List Bt)
abbrev Zk2 := PT 0 (List Bt × List Bt × List Bt)
abbrev Zi3 : Blk := ⟨0, true, 61, 6, [vS p0.name, vS p0.space, vL Zah p0.imports, vL Zal p0.messages, vL Zag p0.enums, vL Zao p0.services]⟩
abbrev Zld : Blk := ⟨0, true, 9, 1, Zaa Zah r5⟩
abbrev ZuX : Blk := ⟨0, true, 9, 1, Zaa Zah r10⟩
abbrev ZoQ (t : List (Nat × AV)) : List (Nat × AV) := (1, .ptr (1, 1) 0 0) :: (2, .ref (1, 2) 0 0 r5.length) :: t
def ZEb : List Bt × Nat → St := fun (r1, v2) => mkS [(1, .ptr (1, 1) 0 0), (2, .ref (1, 2) 0 0 r1.length), (3, .e0), (4, .e0), (12, vL Zal p0.messages), (13, vN p0.messages.length), (14, vN v2)] [((1, 1), (Zi3 p0)), ((1, 2), ⟨0, true, 9, 1, Zaa Zah r1⟩)]
def ZHZ : List Bt → Nat × St := fun r5 => (0, mkS (ZoQ r5 [(3, .e0), (4, .e0)]) [((1, 1), (Zi3 p0)), ((1, 2), (Zld r5))])
def Zyf (r1 : List Bt) (v2 : Nat) : PT 0 (Lv (List Bt × Nat) (List Bt) (List Bt × List Bt × List Bt)) := br (decide ((v2 : Int) < (p0.messages.length : Int))) (ix p0.messages v2 fun e3 => vw .go <| vw .go <| vw .go <| cl (ZFp p0.space e3.name) fun y4 => vw .sep <| ap r1 (y4 : Bt) <| vs (wa v2 1) <| vz (fl (r1 ++ [y4])) <| ln (ZEb p0) (r1 ++ [y4], v2 + 1)) (vz (fl r1) <| lxe (ZHZ p0) r1)
def ZsZ := fun ((r1, v2) : List Bt × Nat) => (Zyf p0 r1 v2).m
def ZFU : List Bt × Nat → St := fun (r6, v7) => mkS (ZoQ r5 [(3, .ref (1, 3) 0 0 r6.length), (4, .e0), (28, vL Zag p0.enums), (29, vN p0.enums.length), (30, vN v7)]) [((1, 1), (Zi3 p0)), ((1, 2), (Zld r5)), ((1, 3), ⟨0, true, 9, 1, Zaa Zah r6⟩)]
def ZIz : List Bt → Nat × St := fun r10 => (2, mkS (ZoQ r5 [(3, .ref (1, 3) 0 0 r10.length), (4, .e0)]) [((1, 1), (Zi3 p0)), ((1, 2), (Zld r5)), ((1, 3), (ZuX r10))])
def Zx4 (r6 : List Bt) (v7 : Nat) : PT 0 (Lv (List Bt × Nat) (List Bt) (List Bt × List Bt × List Bt)) := br (decide ((v7 : Int) < (p0.enums.length : Int))) (ix p0.enums v7 fun e8 => vw .go <| vw .go <| vw .go <| cl (ZFp p0.space e8.name) fun y9 => vw .sep <| ap r6 (y9 : Bt) <| vs (wa v7 1) <| vz (fl r5) <| vz (fl (r6 ++ [y9])) <| ln (ZFU p0 r5) (r6 ++ [y9], v7 + 1)) (vz (fl r5) <| vz (fl r6) <| lxe (ZIz p0 r5) r6)
def ZqR := fun ((r6, v7) : List Bt × Nat) => (Zx4 p0 r5 r6 v7).m
def ZDD : List Bt × Nat → St := fun (r11, v12) => mkS (ZoQ r5 [(3, .ref (1, 3) 0 0 r10.length), (4, .ref (1, 4) 0 0 r11.length), (44, vL Zao p0.services), (45, vN p0.services.length), (46, vN v12)]) [((1, 1), (Zi3 p0)), ((1, 2), (Zld r5)), ((1, 3), (ZuX r10)), ((1, 4), ⟨0, true, 9, 1, Zaa Zah r11⟩)]
def ZI2 : List Bt → Nat × St := fun r15 => (4, mkS [(2, .ref (1, 2) 0 0 r5.length), (3, .ref (1, 3) 0 0 r10.length), (4, .ref (1, 4) 0 0 r15.length)] [((1, 2), (Zld r5)), ((1, 3), (ZuX r10)), ((1, 4), ⟨0, true, 9, 1, Zaa Zah r15⟩)])
def ZuP (r11 : List Bt) (v12 : Nat) : PT 0 (Lv (List Bt × Nat) (List Bt) (List Bt × List Bt × List Bt)) := br (decide ((v12 : Int) < (p0.services.length : Int))) (ix p0.services v12 fun e13 => vw .go <| vw .go <| vw .go <| cl (ZFp p0.space e13.name) fun y14 => vw .sep <| ap r11 (y14 : Bt) <| vs (wa v12 1) <| vz (fl r5) <| vz (fl r10) <| vz (fl (r11 ++ [y14])) <| ln (ZDD p0 r5 r10) (r11 ++ [y14], v12 + 1)) (vz (fl r5) <| vz (fl r10) <| vz (fl r11) <| lxe (ZI2 r5 r10) r11)
def Zth := fun ((r11, v12) : List Bt × Nat) => (ZuP p0 r5 r10 r11 v12).m
def ZEu (r15 : List Bt) : Zk2 := vz (fr r5) <| vz (fr r10) <| vz (fr r15) <| lr E24 (fun _ => []) (r5, r10, r15)
def ZE0 : Zk2 := vw (.ads 4 4 9 1) <| vz (fl r5) <| vz (fl r10) <| vz (fl ([] : List Bt)) <| lc (ZDD p0 r5 r10 (([] : List Bt), 0)) ((Zab (Zth p0 r5 r10) big (([] : List Bt), 0)).bind (Sum.elim (fun r15 => (ZEu r5 r10 r15).m) some))
def ZGg : Zk2 := vw .go <| vz (eqL p0.services) <| vz (fl r5) <| vz (fl r10) <| lc (mkS (ZoQ r5 [(3, .ref (1, 3) 0 0 r10.length), (4, .e0), (44, vL Zao p0.services), (45, vN p0.services.length), (46, vI 0)]) [((1, 1), (Zi3 p0)), ((1, 2), (Zld r5)), ((1, 3), (ZuX r10))]) ((ZE0 p0 r5 r10).m)
def ZBn : Zk2 := vw (.ads 3 3 9 1) <| vz (fl r5) <| vz (fl ([] : List Bt)) <| lc (ZFU p0 r5 (([] : List Bt), 0)) ((Zab (ZqR p0 r5) big (([] : List Bt), 0)).bind (Sum.elim (fun r10 => (ZGg p0 r5 r10).m) some))
def ZF4 : Zk2 := vw .go <| vz (eqL p0.enums) <| vz (fl r5) <| lc (mkS (ZoQ r5 [(3, .e0), (4, .e0), (28, vL Zag p0.enums), (29, vN p0.enums.length), (30, vI 0)]) [((1, 1), (Zi3 p0)), ((1, 2), (Zld r5))]) ((ZBn p0 r5).m)
def ZE1 : Zk2 := vw (.ads 2 2 9 1) <| vz (fl ([] : List Bt)) <| lc (ZEb p0 (([] : List Bt), 0)) ((Zab (ZsZ p0) big (([] : List Bt), 0)).bind (Sum.elim (fun r5 => (ZF4 p0 r5).m) some))
def ZtS : Zk2 := vw .go <| vz (eqL p0.messages) <| lc (mkS [(1, .ptr (1, 1) 0 0), (2, .e0), (3, .e0), (4, .e0), (12, vL Zal p0.messages), (13, vN p0.messages.length), (14, vI 0)] [((1, 1), (Zi3 p0))]) ((ZE1 p0).m)
def Zr5 : Zk2 := lc (mkS [(1, .ptr (1, 1) 0 0), (2, .e0), (3, .e0), (4, .e0)] [((1, 1), (Zi3 p0))]) ((ZtS p0).m)
def ZfD (p0 : Fil) : Option (List Bt × List Bt × List Bt) := (Zr5 p0).m
section
include co
theorem ZBH : Kl 62 C (pa [0, 0, 1, 0, 1] (Zac Try.f24)) [.tmp 2, .tmp 3, .tmp 4] 0 (ZEb p0) (ZHZ p0) E24 (fun _ => []) (ZsZ p0) := fun (r1, v2) _ m Q Post hQ L => en co (Zyf p0 r1 v2) (lf2 [1, 2, 3, 4, 12, 13, 14] [((1, 1), false), ((1, 2), true)]) (lf2 [1, 2, 3, 4] [((1, 1), false), ((1, 2), true)]) hQ m L fun r g => ⟨fun e3 y4 => id, id⟩
theorem ZAS : Kl 62 C (pa [0, 0, 1, 0, 1, 1] (Zac Try.f24)) [.tmp 2, .tmp 3, .tmp 4] 0 (ZFU p0 r5) (ZIz p0 r5) E24 (fun _ => []) (ZqR p0 r5) := fun (r6, v7) _ m Q Post hQ L => en co (Zx4 p0 r5 r6 v7) (lf2 [1, 2, 3, 4, 28, 29, 30] [((1, 1), false), ((1, 2), true), ((1, 3), true)]) (lf2 [1, 2, 3, 4] [((1, 1), false), ((1, 2), true), ((1, 3), true)]) hQ m L fun r g => ⟨fun e8 y9 => id, id⟩
theorem ZF1 : Kl 62 C (pa [0, 0, 1, 0, 1, 1, 1] (Zac Try.f24)) [.tmp 2, .tmp 3, .tmp 4] 0 (ZDD p0 r5 r10) (ZI2 r5 r10) E24 (fun _ => []) (Zth p0 r5 r10) := fun (r11, v12) _ m Q Post hQ L => en co (ZuP p0 r5 r10 r11 v12) (lf2 [1, 2, 3, 4, 44, 45, 46] [((1, 1), false), ((1, 2), true), ((1, 3), true), ((1, 4), true)]) (lf2 [2, 3, 4] [((1, 2), true), ((1, 3), true), ((1, 4), true)]) hQ m L fun r g => ⟨fun e13 y14 => id, id⟩
end
end
theorem ZKW (p0 : Fil) : KC tp 24 [.agg ((Zar p0).map .d)] (ZfD p0) E24 := kc1 Try.func24 Try.ntmps24 tok [.tmp 2, .tmp 3, .tmp 4] fun C co y m Post L => mi co 1 (Zr5 p0) (lf2 [1, 2, 3, 4] [((1, 1), false)]) nl ii m L fun r g _ m L => sq (mi co 1 (ZtS p0) (lf2 [1, 2, 3, 4, 12, 13, 14] [((1, 1), false)]) nl ii m L fun r g _ m L => bk 0 (ZhO co (ZE1 p0) (lf2 [1, 2, 3, 4, 12, 13, 14] [((1, 1), false), ((1, 2), true)]) m L fun r g _ m L => lo (lpF (ZBH co p0) ii m L (fun r5 m => sq (mi co 1 (ZF4 p0 r5) (lf2 [1, 2, 3, 4, 28, 29, 30] [((1, 1), false), ((1, 2), true)]) nl ii m L fun r g _ m L => bk 2 (ZhO co (ZBn p0 r5) (lf2 [1, 2, 3, 4, 28, 29, 30] [((1, 1), false), ((1, 2), true), ((1, 3), true)]) m L fun r g _ m L => lo (lpF (ZAS co p0 r5) ii m L (fun r10 m => sq (mi co 1 (ZGg p0 r5 r10) (lf2 [1, 2, 3, 4, 44, 45, 46] [((1, 1), false), ((1, 2), true), ((1, 3), true)]) nl ii m L fun r g _ m L => bk 4 (ZhO co (ZE0 p0 r5 r10) (lf2 [1, 2, 3, 4, 44, 45, 46] [((1, 1), false), ((1, 2), true), ((1, 3), true), ((1, 4), true)]) m L fun r g _ m L => lo (lpF (ZF1 co p0 r5 r10) ii m L (fun r15 m => fo co (ZEu r5 r10 r15) m L fun r g => id))))))))))))
def ZGX : Go.Shelf.Ren := ⟨fun | 4 => 82 | n => n, fun | 22 => 34 | 25 => 9 | n => n, fun n => n⟩
theorem ZFc : Go.Proofs.Lays8.n4 tp ZGX := {
 mixed := by kernel_rfl,
 f4 := ⟨Try.f82.name, by decide +kernel, Try.func82.trans (congrArg some (by kernel_rfl))⟩,
 t0 := Try.underlying0,
 a0 := Try.isAgg0,
 z0 := Try.sizeOf0,
 v0 := Try.zeroValue0,
 t3 := Try.underlying3,
 a3 := Try.isAgg3,
 z3 := Try.sizeOf3,
 v3 := Try.zeroValue3,
 t4 := Try.underlying4,
 a4 := Try.isAgg4,
 z4 := Try.sizeOf4,
 v4 := Try.zeroValue4,
 t9 := Try.underlying9,
 a9 := Try.isAgg9,
 z9 := Try.sizeOf9,
 v9 := Try.zeroValue9,
 t20 := Try.underlying20,
 a20 := Try.isAgg20,
 z20 := Try.sizeOf20,
 v20 := Try.zeroValue20,
 t22 := Try.underlying34,
 a22 := Try.isAgg34,
 z22 := Try.sizeOf34,
 v22 := Try.zeroValue34 }
abbrev E82 : List Bt → AV := fun y => .ref (0, 0) 1 0 y.length
@[reducible] def G82 : List Bt → List Blk := fun y => [⟨1, true, 9, 1, Zaa Zah y⟩]
def Zfw (n : Nat) : Option (List Bt) := if n < 549755813888 then some [] else none
theorem ZOe (n : Nat) : KO tp 82 1 [.e0, vN n] [⟨0, false, 0, 0, []⟩] (fun _ _ _ _ => True) (Zfw n) E82 G82 := ⟨fun l H ks gs θ hks hlow hnd hH _ y hy => by
 obtain ⟨h0, hy⟩ := ZaK hy
 cases hy
 match ks, hks with
 | [k0], _ =>
  have hi : ∃ i0 z, (Try.prog).info? 9 = some i0 ∧ i0.zero = some z ∧ i0.size = 1 ∧ z.cells.size = i0.size ∧ i0.bytes ≤ 256 := ⟨_, _, rfl, rfl, rfl, by decide +kernel, by decide +kernel⟩
  obtain ⟨i0, z, h1, h2, h3, h4, h5⟩ := hi
  exact Zpd ZFc i0 z h1 h2 (by rw [h3]; decide) h4 h5 ⟨_, Zac Try.f82, Try.func82, by kernel_rfl, by kernel_rfl⟩ hlow.1 hH.1.1 n h0 (by rw [h3]; exact ⟨rfl, rfl⟩)⟩
abbrev E47 : List Bt → AV := fun y => .ref (0, 0) 1 0 y.length
@[reducible] def G47 : List Bt → List Blk := fun y => [⟨1, true, 9, 1, Zaa Zah y⟩]
section
variable {C : Cx} (co : CO C 1) (p0 : List (List Bt)) (y5 : List Bt)
abbrev Zpf := PT 1 (List Bt)
def ZDB : Nat × Nat → St := fun (v1, v2) => mkS [(0, vL ZcC p0), (3, vN v1), (9, vL ZcC p0), (10, vN p0.length), (11, vN v2)] []
def ZIZ : Nat → Nat × St := fun v4 => (0, mkS [(0, vL ZcC p0), (3, vN v4)] [])
def ZwC (v1 : Nat) (v2 : Nat) : PT 1 (Lv (Nat × Nat) (Nat) (List Bt)) := br (decide ((v2 : Int) < (p0.length : Int))) (ix p0 v2 fun e3 => vz (eqL e3) <| vs (wa v1 e3.length) <| br (decide (((v1 + e3.length : Nat) : Int) < (0 : Int))) (dd) (vs (wa v2 1) <| ln (ZDB p0) (v1 + e3.length, v2 + 1))) (lxe (ZIZ p0) v1)
def Zrq := fun ((v1, v2) : Nat × Nat) => (ZwC p0 v1 v2).m
def ZDL : List Bt × Nat → St := fun (r6, v7) => mkS [(6, .ref (1, 24) 0 0 r6.length), (25, vL ZcC p0), (26, vN p0.length), (27, vN v7)] [((1, 24), ⟨0, true, 9, 1, Zaa Zah r6⟩)]
def ZHk : List Bt → Nat × St := fun r9 => (2, mkS [(6, .ref (1, 24) 0 0 r9.length)] [((1, 24), ⟨0, true, 9, 1, Zaa Zah r9⟩)])
def ZwO (r6 : List Bt) (v7 : Nat) : PT 1 (Lv (List Bt × Nat) (List Bt) (List Bt)) := br (decide ((v7 : Int) < (p0.length : Int))) (ix p0 v7 fun e8 => aq r6 e8 <| vs (wa v7 1) <| vz (fl (r6 ++ e8)) <| ln (ZDL p0) (r6 ++ e8, v7 + 1)) (vz (fl r6) <| lxe (ZHk) r6)
def ZrR := fun ((r6, v7) : List Bt × Nat) => (ZwO p0 r6 v7).m
def ZAM (r9 : List Bt) : Zpf := vw .sep <| mv 24 0 r9 <| lr E47 (G47) r9
def ZE7 : Zpf := vz (eqL p0) <| vz (fl y5) <| lc (ZDL p0 (y5, 0)) ((Zab (ZrR p0) big (y5, 0)).bind (Sum.elim (fun r9 => (ZAM r9).m) some))
def ZGn : Zpf := vz (fl y5) <| lc (mkS [(0, vL ZcC p0), (6, .ref (1, 24) 0 0 y5.length)] [((1, 24), ⟨0, true, 9, 1, Zaa Zah y5⟩)]) ((ZE7 p0 y5).m)
def ZGh (v4 : Nat) : Zpf := lc (mkS [(0, vL ZcC p0), (23, vN v4)] []) ((Zfw v4).bind fun y5 => (ZGn p0 y5).m)
def ZCW : Zpf := vz (eqL p0) <| lc (ZDB p0 (0, 0)) ((Zab (Zrq p0) big (0, 0)).bind (Sum.elim (fun v4 => (ZGh p0 v4).m) some))
def ZCU : Zpf := lc (mkS [(0, vL ZcC p0), (3, vI 0)] []) ((ZCW p0).m)
def ZaV (p0 : List (List Bt)) : Option (List Bt) := (ZCU p0).m
section
include co
theorem ZEq : Kl 36 C (pa [0, 0, 1, 0, 1, 1] (Zac Try.f47)) [.tmp 2] 1 (ZDB p0) (ZIZ p0) E47 (G47) (Zrq p0) := fun (v1, v2) _ m Q Post hQ L => en co (ZwC p0 v1 v2) (lf1 [0, 3, 9, 10, 11]) (lf1 [0, 3]) hQ m L fun r g => ⟨fun e3 => ⟨trivial, id⟩, id⟩
theorem ZDZ : Kl 36 C (pa [0, 0, 1, 0, 1, 1, 1, 1] (Zac Try.f47)) [.tmp 2] 1 (ZDL p0) (ZHk) E47 (G47) (ZrR p0) := fun (r6, v7) _ m Q Post hQ L => en co (ZwO p0 r6 v7) (lf2 [6, 25, 26, 27] [((1, 24), true)]) (lf2 [6] [((1, 24), true)]) hQ m L fun r g => ⟨fun e8 => id, id⟩
end
end
theorem ZLA (p0 : List (List Bt)) : KO tp 47 1 [vL ZcC p0] [⟨0, false, 0, 0, []⟩] (fun _ _ _ _ => True) (ZaV p0) E47 (G47) := ko1 Try.func47 Try.ntmps47 tok [.tmp 2] 1 (fun C co hT y m Post L => mi co 2 (ZCU p0) (lf1 [0, 3]) nl ii m L fun r g _ m L => sq (mi co 1 (ZCW p0) (lf1 [0, 3, 9, 10, 11]) nl ii m L fun r g _ m L => bk 0 (lo (lpF (ZEq co p0) ii m L (fun v4 m => sq (rg (ZcD co tok 1 (ZGh p0 v4) (lf1 [0, 23]) m L fun r g _ m L => Za0 co m 82 [.e0, vN v4] [(1, 24)] ([((1, 24), ⟨0, false, 0, 0, []⟩)] ++ []) (fun z => .ref (1, 24) 1 0 z.length) (fun z => [((1, 24), ⟨1, true, 9, 1, Zaa Zah z⟩)]) [] (fun z => trivial) (trivial) (fun z hz r g => Zai (ZOe v4) hz co g [((1, 24), ⟨0, false, 0, 0, []⟩)] [] [((1, 24), ⟨1, true, 9, 1, Zaa Zah z⟩)] (lkS []) (fun H' hg ho => trivial) (fun H => ⟨(fun h => by cases h), by kernel_rfl, trivial⟩) (fun H => ⟨fun _ => ⟨rfl, bz⟩, by kernel_rfl, trivial⟩)) fun y5 m => Zct co tok (ZGn p0 y5) (lf2 [0, 6] [((1, 24), true)]) m L fun r g _ m L => sq (mi co 1 (ZE7 p0 y5) (lf2 [6, 25, 26, 27] [((1, 24), true)]) nl ii m L fun r g _ m L => bk 2 (lo (lpF (ZDZ co p0) ii m L (fun r9 m => fo co (ZAM r9) m L fun r g => id))))))))))) (hB := fun y => ⟨.inl (Zan _ _), rfl, trivial⟩)
abbrev E91 : Int → AV := fun y => vI y
section
variable {C : Cx} (p0 : List Bt) (p1 : Bt)
def ZFh : Nat → St := fun v1 => mkS [(0, vL Zah p0), (1, vS p1), (7, vN p0.length), (8, vN v1)] []
def ZG8 : Unit → Nat × St := fun _ => (0, mkS [] [])
def Zy5 (v1 : Nat) : PT 0 (Lv (Nat) (Unit) (Int)) := br (decide ((v1 : Int) < (p0.length : Int))) (ix p0 v1 fun e2 => br (decide (p1 = e2)) (lrt E91 (fun _ => []) (v1 : Int)) (vs (wa v1 1) <| ln (ZFh p0 p1) (v1 + 1))) (lxe (ZG8) ())
def ZvR := fun (v1 : Nat) => (Zy5 p0 p1 v1).m
def ZGr : PT 0 (Int) := lr E91 (fun _ => []) (-1)
def ZFu : PT 0 (Int) := vz (eqL p0) <| lc (ZFh p0 p1 0) ((Zab (ZvR p0 p1) big 0).bind (Sum.elim (fun _ => (ZGr).m) some))
def ZEX : PT 0 (Int) := lc (mkS [(0, vL Zah p0), (1, vS p1)] []) ((ZFu p0 p1).m)
def Zdq (p0 : List Bt) (p1 : Bt) : Option (Int) := (ZEX p0 p1).m
theorem ZBt (co : CO C 0) : Kl 19 C (pa [0, 0, 1, 0, 1] (Zac Try.f91)) [.tmp 4] 0 (ZFh p0 p1) (ZG8) E91 (fun _ => []) (ZvR p0 p1) := fun v1 _ m Q Post hQ L => en co (Zy5 p0 p1 v1) (lf1 [0, 1, 7, 8]) nl hQ m L fun r g => ⟨fun e2 => ⟨id, id⟩, id⟩
end
theorem ZOt (p0 : List Bt) (p1 : Bt) : KC tp 91 [vL Zah p0, vS p1] (Zdq p0 p1) E91 := kc1 Try.func91 Try.ntmps91 tok [.tmp 4] fun C co y m Post L => mi co 1 (ZEX p0 p1) (lf1 [0, 1]) nl ii m L fun r g _ m L => sq (mi co 1 (ZFu p0 p1) (lf1 [0, 1, 7, 8]) nl ii m L fun r g _ m L => bk 0 (lo (lpF (ZBt p0 p1 co) ii m L (fun _ m => fo co (ZGr) m L fun r g => id))))
abbrev E54 : Bool → AV := fun y => vB y
def ZCV (p0 : List Bt) (p1 : Bt) : PT 0 (Bool) := cl (ZOt p0 p1) fun y1 => lr E54 (fun _ => []) (decide ((0 : Int) ≤ y1))
def Za4 (p0 : List Bt) (p1 : Bt) : Option (Bool) := (ZCV p0 p1).m
theorem ZHu (p0 : List Bt) (p1 : Bt) : KC tp 54 [vL Zah p0, vS p1] (Za4 p0 p1) E54 := kc1 Try.func54 Try.ntmps54 tok [.tmp 4] fun C co y m Post L => fo co (ZCV p0 p1) m L fun r g y1 => id
abbrev E23 : Bt × Int → AV := fun y => .tup [vS y.1, vI y.2]
section
variable {C : Cx} (co : CO C 0) (p0 : List Fil) (r1 : List Bt) (v2 v3 v4 v5 : Nat) (y7 : List Bt × List Bt × List Bt) (y8 r12 : List Bt)
abbrev ZrT := PT 0 (Lv (List Bt × Nat × Nat × Nat × Nat) (Nat × Nat × Nat × List Bt) (Bt × Int))
abbrev Zlv := PT 0 (Bt × Int)
abbrev ZxO : List (Key × Blk) := [((1, 4), ⟨0, true, 9, 1, Zaa Zah r1⟩)]
abbrev ZKA : List (Nat × AV) := [(4, .ref (1, 4) 0 0 r1.length), (5, vN v2), (6, vN v3), (7, vN v4), (15, vL Zar p0), (16, vN p0.length), (17, vN v5)]
abbrev ZCR : List (Key × Blk) := [((1, 4), ⟨0, true, 9, 1, Zaa Zah r12⟩)]
def ZDq : List Bt × Nat × Nat × Nat × Nat → St := fun (r1, v2, v3, v4, v5) => mkS (ZKA p0 r1 v2 v3 v4 v5) (ZxO r1)
def ZHM : Nat × Nat × Nat × List Bt → Nat × St := fun (v9, v10, v11, r12) => (0, mkS [(4, .ref (1, 4) 0 0 r12.length), (5, vN v9), (6, vN v10), (7, vN v11)] (ZCR r12))
def Zyv : ZrT := vs (wa v5 1) <| vz (fl (r1 ++ y8)) <| ln (ZDq p0) (r1 ++ y8, v2 + y7.1.length, v3 + y7.2.1.length, v4 + y7.2.2.length, v5 + 1)
def ZuL : ZrT := ar r1 y8 (1, 44) 1 <| vz (fl (r1 ++ y8)) <| lc (mkS [(4, .ref (1, 4) 0 0 (r1 ++ y8).length), (5, vN (v2 + y7.1.length)), (6, vN (v3 + y7.2.1.length)), (7, vN (v4 + y7.2.2.length)), (15, vL Zar p0), (16, vN p0.length), (17, vN v5)] [((1, 4), ⟨0, true, 9, 1, Zaa Zah (r1 ++ y8)⟩)]) ((Zyv p0 r1 v2 v3 v4 v5 y7 y8).m)
def Zy6 : ZrT := vw .sep <| vw .sep <| vz (fl r1) <| lc (mkS [(5, vN (v2 + y7.1.length)), (6, vN (v3 + y7.2.1.length)), (7, vN (v4 + y7.2.2.length)), (15, vL Zar p0), (16, vN p0.length), (17, vN v5), (39, .ref (1, 4) 0 0 r1.length), (43, .d (.list [ZcC y7.1, ZcC y7.2.1, ZcC y7.2.2]))] (ZxO r1)) ((ZaV ([y7.1, y7.2.1, y7.2.2] : List (List Bt))).bind fun y8 => (ZuL p0 r1 v2 v3 v4 v5 y7 y8).m)
def Zwf : ZrT := ix p0 v5 fun e6 => vw .go <| vw .go <| cl (ZKW e6) fun y7 => vz (eqL y7.1) <| vs (wa v2 y7.1.length) <| vz (eqL y7.2.1) <| vs (wa v3 y7.2.1.length) <| vz (eqL y7.2.2) <| vs (wa v4 y7.2.2.length) <| vz (fl r1) <| lc (mkS [(4, .ref (1, 4) 0 0 r1.length), (5, vN (v2 + y7.1.length)), (6, vN (v3 + y7.2.1.length)), (7, vN (v4 + y7.2.2.length)), (10, vL Zah y7.1), (11, vL Zah y7.2.1), (12, vL Zah y7.2.2), (15, vL Zar p0), (16, vN p0.length), (17, vN v5)] (ZxO r1)) ((Zy6 p0 r1 v2 v3 v4 v5 y7).m)
def ZuY : ZrT := br (decide ((v5 : Int) < (p0.length : Int))) (vz (fl r1) <| lc (mkS (ZKA p0 r1 v2 v3 v4 v5) (ZxO r1)) ((Zwf p0 r1 v2 v3 v4 v5).m)) (vz (fl r1) <| lxe (ZHM) (v2, v3, v4, r1))
def ZsU := fun ((r1, v2, v3, v4, v5) : List Bt × Nat × Nat × Nat × Nat) => (ZuY p0 r1 v2 v3 v4 v5).m
def ZBX : Nat → St := fun v13 => mkS [(4, vL Zah r12), (52, vL Zah r12), (53, vN r12.length), (54, vN v13)] []
def ZHO : Unit → Nat × St := fun _ => (2, mkS [] [])
def Zx7 (v13 : Nat) : PT 0 (Lv (Nat) (Unit) (Bt × Int)) := br (decide ((v13 : Int) < (r12.length : Int))) (ix r12 v13 fun e14 => sL r12 .no (.nt v13) fun l15 => cl (ZHu l15 e14) fun y16 => br y16 (lrt E23 (fun _ => []) (e14, 9)) (vs (wa v13 1) <| ln (ZBX r12) (v13 + 1))) (lxe (ZHO) ())
def Zpp := fun (v13 : Nat) => (Zx7 r12 v13).m
def ZBy : Zlv := lr E23 (fun _ => []) (⟨#[]⟩, 0)
def ZBF : Zlv := vw (.frz 4 [(4, (r12.map Zah)), (52, (r12.map Zah))] []) <| vz (fz r12) <| vz (fz r12) <| lc (ZBX r12 0) ((Zab (Zpp r12) big 0).bind (Sum.elim (fun _ => (ZBy).m) some))
def ZEO : Zlv := vz (eqN r12.length) <| vz (fl r12) <| lc (mkS [(4, .ref (1, 4) 0 0 r12.length), (52, .ref (1, 4) 0 0 r12.length), (53, vN r12.length), (54, vI 0)] (ZCR r12)) ((ZBF r12).m)
def ZsX (v9 : Nat) (v10 : Nat) (v11 : Nat) : Zlv := br (decide ((64 : Int) < (mmI true (mmI true (v9 : Int) (v10 : Int)) (v11 : Int)))) (lr E23 (fun _ => []) (⟨#[]⟩, 3)) (vz (fl r12) <| lc (mkS [(4, .ref (1, 4) 0 0 r12.length)] (ZCR r12)) ((ZEO r12).m))
def Zr8 : Zlv := vw (.ads 4 4 9 1) <| vz (fl ([] : List Bt)) <| lc (ZDq p0 (([] : List Bt), 0, 0, 0, 0)) ((Zab (ZsU p0) big (([] : List Bt), 0, 0, 0, 0)).bind (Sum.elim (fun (v9, v10, v11, r12) => (ZsX r12 v9 v10 v11).m) some))
def ZrL : Zlv := vz (eqL p0) <| lc (mkS [(4, .e0), (5, vI 0), (6, vI 0), (7, vI 0), (15, vL Zar p0), (16, vN p0.length), (17, vI 0)] []) ((Zr8 p0).m)
def Ztz : Zlv := lc (mkS [(0, vL Zar p0), (4, .e0), (5, vI 0), (6, vI 0), (7, vI 0)] []) ((ZrL p0).m)
def ZdM (p0 : List Fil) : Option (Bt × Int) := (Ztz p0).m
section
include co
theorem ZEd : Kl 66 C (pa [0, 0, 1, 0, 1, 1, 1] (Zac Try.f23)) [.tmp 2, .tmp 3] 0 (ZDq p0) (ZHM) E23 (fun _ => []) (ZsU p0) := fun (r1, v2, v3, v4, v5) _ m Q Post hQ L => mi co 2 (ZuY p0 r1 v2 v3 v4 v5) (lf2 [4, 5, 6, 7, 15, 16, 17] [((1, 4), true)]) (lf2 [4, 5, 6, 7] [((1, 4), true)]) hQ m L fun r g => ⟨fun _ m L => sq (bk 1 (mi co 3 (Zwf p0 r1 v2 v3 v4 v5) (lf2 [4, 5, 6, 7, 10, 11, 12, 15, 16, 17] [((1, 4), true)]) nl hQ m L fun r g e6 y7 _ m L => rg (ZcD co tok 5 (Zy6 p0 r1 v2 v3 v4 v5 y7) (lf2 [5, 6, 7, 15, 16, 17, 39, 43] [((1, 4), true)]) m L fun r g _ m L => Za0 co m 47 [.d (.list [ZcC y7.1, ZcC y7.2.1, ZcC y7.2.2])] [(1, 44)] ([((1, 44), ⟨0, false, 0, 0, []⟩)] ++ []) (fun z => .ref (1, 44) 1 0 z.length) (fun z => [((1, 44), ⟨1, true, 9, 1, Zaa Zah z⟩)]) [(1, 4)] (fun z => trivial) (⟨Zan _ _, trivial⟩) (fun z hz r g => Zai (ZLA ([y7.1, y7.2.1, y7.2.2] : List (List Bt))) hz co g [((1, 44), ⟨0, false, 0, 0, []⟩)] [] [((1, 44), ⟨1, true, 9, 1, Zaa Zah z⟩)] (lkS []) (fun H' hg ho => trivial) (fun H => ⟨(fun h => by cases h), by kernel_rfl, trivial⟩) (fun H => ⟨fun _ => ⟨rfl, bz⟩, by kernel_rfl, trivial⟩)) fun y8 m => Zct co tok (ZuL p0 r1 v2 v3 v4 v5 y7 y8) (lf2 [4, 5, 6, 7, 15, 16, 17] [((1, 4), true)]) m L fun r g _ m L => en co (Zyv p0 r1 v2 v3 v4 v5 y7 y8) (lf2 [4, 5, 6, 7, 15, 16, 17] [((1, 4), true)]) nl hQ m L fun r g => id))), id⟩
theorem ZCr : Kl 66 C (pa [0, 0, 1, 0, 1, 1, 1, 1, 1] (Zac Try.f23)) [.tmp 2, .tmp 3] 0 (ZBX r12) (ZHO) E23 (fun _ => []) (Zpp r12) := fun v13 _ m Q Post hQ L => en co (Zx7 r12 v13) (lf1 [4, 52, 53, 54]) nl hQ m L fun r g => ⟨fun e14 l15 y16 => ⟨id, id⟩, id⟩
end
end
theorem ZPs (p0 : List Fil) : KC tp 23 [vL Zar p0] (ZdM p0) E23 := kc1 Try.func23 Try.ntmps23 tok [.tmp 2, .tmp 3] fun C co y m Post L => mi co 3 (Ztz p0) (lf1 [0, 4, 5, 6, 7]) nl ii m L fun r g _ m L => sq (mi co 1 (ZrL p0) (lf1 [4, 5, 6, 7, 15, 16, 17]) nl ii m L fun r g _ m L => bk 0 (ZhO co (Zr8 p0) (lf2 [4, 5, 6, 7, 15, 16, 17] [((1, 4), true)]) m L fun r g _ m L => lo (lpF (ZEd co p0) ii m L (fun (v9, v10, v11, r12) m => mi co 1 (ZsX r12 v9 v10 v11) (lf2 [4] [((1, 4), true)]) nl ii m L fun r g => ⟨id, fun _ m L => sq (mi co 1 (ZEO r12) (lf2 [4, 52, 53, 54] [((1, 4), true)]) nl ii m L fun r g _ m L => bk 2 (ZhO co (ZBF r12) (lf1 [4, 52, 53, 54]) m L fun r g _ m L => lo (lpF (ZCr co r12) ii m L (fun _ m => fo co (ZBy) m L fun r g => id))))⟩))))
abbrev E26 : List Enm → AV := fun y => .ref (0, 0) 1 0 y.length
@[reducible] def G26 : List Enm → List Blk := fun y => [⟨1, true, 42, 5, Zaa Zag y⟩]
def ZDV (p0 : List Enm) : PT 1 (List Enm) := al Zag p0 false fun b1 => br b1 (vw .sep <| vw (.ads 2 2 42 5) <| mv 2 0 ([] : List Enm) <| lr E26 (G26) ([] : List Enm)) (a0 p0 <| mv 7 0 p0 <| lr E26 (G26) p0)
def Zdn (p0 : List Enm) : Option (List Enm) := (ZDV p0).m
theorem ZO0 (p0 : List Enm) : KO tp 26 1 [vL Zag p0] [⟨0, false, 0, 0, []⟩] (fun _ _ _ _ => True) (Zdn p0) E26 (G26) := ko1 Try.func26 Try.ntmps26 tok [.tmp 2] 1 (fun C co hT y m Post L => fo co (ZDV p0) m L fun r g => ⟨fun b1 => ⟨id, id⟩, by intro b h; subst h; cases b <;> rfl⟩) (hB := fun y => ⟨.inl (Zan _ _), rfl, trivial⟩)
abbrev E27 : List Bt → AV := fun y => vL Zah y
section
variable {C : Cx} (p0 : List Fil) (p1 : Fil) (v4 : Nat) (y9 v3 y2 : List Bt)
abbrev Zuc := PT 0 (Lv (List Bt × Nat) (List Bt) (List Bt))
abbrev Zou := PT 0 (List Bt)
abbrev ZEG : Blk := ⟨0, true, 61, 6, [vS p1.name, vS p1.space, vL Zah p1.imports, vL Zal p1.messages, vL Zag p1.enums, vL Zao p1.services]⟩
abbrev ZHl : List (Nat × AV) := [(0, vL Zar p0), (8, vL Zah v3), (26, vL Zah p1.imports), (27, vN p1.imports.length), (28, vN v4)]
def ZF3 : List Bt × Nat → St := fun (v3, v4) => mkS (ZHl p0 p1 v4 v3) []
def ZID : List Bt → Nat × St := fun v10 => (0, mkS [(8, vL Zah v10)] [])
def Zwy : Zuc := vs (wa v4 1) <| vw (.frz 48 [(8, (y9.map Zah))] []) <| vz (fz y9) <| ln (ZF3 p0 p1) (y9, v4 + 1)
def ZyR : Zuc := vz (fl y9) <| lc (mkS [(0, vL Zar p0), (8, .ref (1, 48) 0 0 y9.length), (26, vL Zah p1.imports), (27, vN p1.imports.length), (28, vN v4)] [((1, 48), ⟨0, true, 9, 1, Zaa Zah y9⟩)]) ((Zwy p0 p1 v4 y9).m)
def ZuK (y8 : List Bt × List Bt × List Bt) : Zuc := vw .sep <| vw .sep <| lc (mkS [(0, vL Zar p0), (26, vL Zah p1.imports), (27, vN p1.imports.length), (28, vN v4), (47, .d (.list [ZcC v3, ZcC y8.1, ZcC y8.2.1, ZcC y8.2.2]))] []) ((ZaV ([v3, y8.1, y8.2.1, y8.2.2] : List (List Bt))).bind fun y9 => (ZyR p0 p1 v4 y9).m)
def Zxl : Zuc := ix p1.imports v4 fun e5 => cl (ZCX p0 e5) fun y6 => ixi p0 y6 fun e7 => cl (ZKW e7) fun y8 => lc (mkS [(0, vL Zar p0), (8, vL Zah v3), (11, vL Zah y8.1), (12, vL Zah y8.2.1), (13, vL Zah y8.2.2), (26, vL Zah p1.imports), (27, vN p1.imports.length), (28, vN v4)] []) ((ZuK p0 p1 v4 v3 y8).m)
def Zyi : Zuc := br (decide ((v4 : Int) < (p1.imports.length : Int))) (lc (mkS (ZHl p0 p1 v4 v3) []) ((Zxl p0 p1 v4 v3).m)) (lxe (ZID) v3)
def ZoU := fun ((v3, v4) : List Bt × Nat) => (Zyi p0 p1 v4 v3).m
def ZAD (v10 : List Bt) : Zou := lr E27 (fun _ => []) v10
def ZB3 : Zou := vw (.frz 24 [(8, (y2.map Zah))] []) <| vz (fz y2) <| lc (ZF3 p0 p1 (y2, 0)) ((Zab (ZoU p0 p1) big (y2, 0)).bind (Sum.elim (fun v10 => (ZAD v10).m) some))
def ZBT : Zou := vw .go <| vz (eqL p1.imports) <| vz (fl y2) <| lc (mkS [(0, vL Zar p0), (8, .ref (1, 24) 0 0 y2.length), (26, vL Zah p1.imports), (27, vN p1.imports.length), (28, vI 0)] [((1, 24), ⟨0, true, 9, 1, Zaa Zah y2⟩)]) ((ZB3 p0 p1 y2).m)
def ZBL : Zou := vz (fl y2) <| lc (mkS [(0, vL Zar p0), (3, .ptr (1, 3) 0 0), (8, .ref (1, 24) 0 0 y2.length)] [((1, 3), (ZEG p1)), ((1, 24), ⟨0, true, 9, 1, Zaa Zah y2⟩)]) ((ZBT p0 p1 y2).m)
def ZtZ (y1 : List Bt × List Bt × List Bt) : Zou := vw .sep <| vw .sep <| lc (mkS [(0, vL Zar p0), (3, .ptr (1, 3) 0 0), (23, .d (.list [ZcC y1.1, ZcC y1.2.1, ZcC y1.2.2]))] [((1, 3), (ZEG p1))]) ((ZaV ([y1.1, y1.2.1, y1.2.2] : List (List Bt))).bind fun y2 => (ZBL p0 p1 y2).m)
def Zq5 : Zou := vw .go <| cl (ZKW p1) fun y1 => lc (mkS [(0, vL Zar p0), (3, .ptr (1, 3) 0 0), (5, vL Zah y1.1), (6, vL Zah y1.2.1), (7, vL Zah y1.2.2)] [((1, 3), (ZEG p1))]) ((ZtZ p0 p1 y1).m)
def Zds (p0 : List Fil) (p1 : Fil) : Option (List Bt) := (Zq5 p0 p1).m
theorem ZEs (co : CO C 0) : Kl 51 C (pa [0, 0, 1, 0, 1, 1, 1] (Zac Try.f27)) [.tmp 4] 0 (ZF3 p0 p1) (ZID) E27 (fun _ => []) (ZoU p0 p1) := fun (v3, v4) _ m Q Post hQ L => mi co 2 (Zyi p0 p1 v4 v3) (lf1 [0, 8, 26, 27, 28]) (lf1 [8]) hQ m L fun r g => ⟨fun _ m L => sq (bk 1 (mi co 2 (Zxl p0 p1 v4 v3) (lf1 [0, 8, 11, 12, 13, 26, 27, 28]) nl hQ m L fun r g e5 y6 e7 y8 _ m L => rg (ZcD co tok 5 (ZuK p0 p1 v4 v3 y8) (lf1 [0, 26, 27, 28, 47]) m L fun r g _ m L => Za0 co m 47 [.d (.list [ZcC v3, ZcC y8.1, ZcC y8.2.1, ZcC y8.2.2])] [(1, 48)] ([((1, 48), ⟨0, false, 0, 0, []⟩)] ++ []) (fun z => .ref (1, 48) 1 0 z.length) (fun z => [((1, 48), ⟨1, true, 9, 1, Zaa Zah z⟩)]) [] (fun z => trivial) (trivial) (fun z hz r g => Zai (ZLA ([v3, y8.1, y8.2.1, y8.2.2] : List (List Bt))) hz co g [((1, 48), ⟨0, false, 0, 0, []⟩)] [] [((1, 48), ⟨1, true, 9, 1, Zaa Zah z⟩)] (lkS []) (fun H' hg ho => trivial) (fun H => ⟨(fun h => by cases h), by kernel_rfl, trivial⟩) (fun H => ⟨fun _ => ⟨rfl, bz⟩, by kernel_rfl, trivial⟩)) fun y9 m => Zct co tok (ZyR p0 p1 v4 y9) (lf2 [0, 8, 26, 27, 28] [((1, 48), true)]) m L fun r g _ m L => en co (Zwy p0 p1 v4 y9) (lf1 [0, 8, 26, 27, 28]) nl hQ m L fun r g => id))), id⟩
end
theorem ZOg (p0 : List Fil) (p1 : Fil) : KC tp 27 [vL Zar p0, .agg ((Zar p1).map .d)] (Zds p0 p1) E27 := kc1 Try.func27 Try.ntmps27 tok [.tmp 4] fun C co y m Post L => mi co 2 (Zq5 p0 p1) (lf2 [0, 3, 5, 6, 7] [((1, 3), false)]) nl ii m L fun r g y1 _ m L => sq (rg (ZcD co tok 4 (ZtZ p0 p1 y1) (lf2 [0, 3, 23] [((1, 3), false)]) m L fun r g _ m L => Za0 co m 47 [.d (.list [ZcC y1.1, ZcC y1.2.1, ZcC y1.2.2])] [(1, 24)] ([((1, 24), ⟨0, false, 0, 0, []⟩)] ++ []) (fun z => .ref (1, 24) 1 0 z.length) (fun z => [((1, 24), ⟨1, true, 9, 1, Zaa Zah z⟩)]) [] (fun z => trivial) (trivial) (fun z hz r g => Zai (ZLA ([y1.1, y1.2.1, y1.2.2] : List (List Bt))) hz co g [((1, 24), ⟨0, false, 0, 0, []⟩)] [] [((1, 24), ⟨1, true, 9, 1, Zaa Zah z⟩)] (lkS []) (fun H' hg ho => trivial) (fun H => ⟨(fun h => by cases h), by kernel_rfl, trivial⟩) (fun H => ⟨fun _ => ⟨rfl, bz⟩, by kernel_rfl, trivial⟩)) fun y2 m => Zct co tok (ZBL p0 p1 y2) (lf2 [0, 3, 8] [((1, 3), false), ((1, 24), true)]) m L fun r g _ m L => sq (mi co 1 (ZBT p0 p1 y2) (lf2 [0, 8, 26, 27, 28] [((1, 24), true)]) nl ii m L fun r g _ m L => bk 0 (ZhO co (ZB3 p0 p1 y2) (lf1 [0, 8, 26, 27, 28]) m L fun r g _ m L => lo (lpF (ZEs p0 p1 co) ii m L (fun v10 m => fo co (ZAD v10) m L fun r g => id))))))
abbrev E55 : List Fld → AV := fun y => .ref (0, 0) 1 0 y.length
@[reducible] def G55 : List Fld → List Blk := fun y => [⟨1, true, 53, 16, Zaa ZdA y⟩]
def ZB0 (p0 : List Fld) : PT 1 (List Fld) := al ZdA p0 false fun b1 => br b1 (vw .sep <| vw (.ads 2 2 53 16) <| mv 2 0 ([] : List Fld) <| lr E55 (G55) ([] : List Fld)) (a0 p0 <| mv 7 0 p0 <| lr E55 (G55) p0)
def ZcY (p0 : List Fld) : Option (List Fld) := (ZB0 p0).m
theorem ZOo (p0 : List Fld) : KO tp 55 1 [vL ZdA p0] [⟨0, false, 0, 0, []⟩] (fun _ _ _ _ => True) (ZcY p0) E55 (G55) := ko1 Try.func55 Try.ntmps55 tok [.tmp 2] 1 (fun C co hT y m Post L => fo co (ZB0 p0) m L fun r g => ⟨fun b1 => ⟨id, id⟩, by intro b h; subst h; cases b <;> rfl⟩) (hB := fun y => ⟨.inl (Zan _ _), rfl, trivial⟩)
abbrev ZNU : Bool → AV := fun y => vB y
def ZsG (p0 : Bt) (p1 : Bt) : PT 0 (Bool) := vz (eqN p0.size) <| vz (eqN p1.size) <| vy (decide ((p1.size : Int) ≤ (p0.size : Int))) (eqN p1.size) <| ssg (decide ((p1.size : Int) ≤ (p0.size : Int))) p0 .no (.nt p1.size) fun s1 => lr ZNU (fun _ => []) (decide ((p1.size : Int) ≤ (p0.size : Int)) && decide (s1 = p1))
def Zcu (p0 : Bt) (p1 : Bt) : Option (Bool) := (ZsG p0 p1).m
theorem ZLS (p0 : Bt) (p1 : Bt) : KC tp 142 [vS p0, vS p1] (Zcu p0 p1) ZNU := kc1 Try.func142 Try.ntmps142 tok [.tmp 4] fun C co y m Post L => fo co (ZsG p0 p1) m L fun r g s1 => id
abbrev ZLo : Bt × Bool → AV := fun y => .tup [vS y.1, vB y.2]
def ZqW (p0 : Bt) (p1 : Bt) : PT 0 (Bt × Bool) := cl (ZLS p0 p1) fun y1 => br (!y1) (lr ZLo (fun _ => []) (p0, false)) (vz (eqN p1.size) <| ss p0 (.nt p1.size) .no fun s2 => lr ZLo (fun _ => []) (s2, true))
def Zcy (p0 : Bt) (p1 : Bt) : Option (Bt × Bool) := (ZqW p0 p1).m
theorem ZLU (p0 : Bt) (p1 : Bt) : KC tp 135 [vS p0, vS p1] (Zcy p0 p1) ZLo := kc1 Try.func135 Try.ntmps135 tok [.tmp 4, .tmp 5] fun C co y m Post L => fo co (ZqW p0 p1) m L fun r g y1 => ⟨id, fun s2 => id⟩
abbrev ZNE : Bt × Bool → AV := fun y => .tup [vS y.1, vB y.2]
def Zse (p0 : Bt) (p1 : Bt) : PT 0 (Bt × Bool) := cl (ZLU p0 p1) fun y1 => lr ZNE (fun _ => []) (y1.1, y1.2)
def Zcp (p0 : Bt) (p1 : Bt) : Option (Bt × Bool) := (Zse p0 p1).m
theorem ZLT (p0 : Bt) (p1 : Bt) : KC tp 118 [vS p0, vS p1] (Zcp p0 p1) ZNE := kc1 Try.func118 Try.ntmps118 tok [.tmp 4, .tmp 5] fun C co y m Post L => fo co (Zse p0 p1) m L fun r g y1 => id
abbrev ZK6 : Int → AV := fun y => vI y
section
variable {C : Cx} (p0 : Bt) (p1 : Int)
def Zqv : Int → St := fun v1 => mkS [(0, vS p0), (1, .d (.int .u8 p1)), (5, vI v1)] []
def ZzK : Unit → Nat × St := fun _ => (0, mkS [] [])
def ZmU (v1 : Int) : PT 0 (Lv (Int) (Unit) (Int)) := br (decide ((0 : Int) ≤ v1)) (ibi p0 v1 fun b2 => br (decide ((b2.toNat : Int) = p1)) (lrt ZK6 (fun _ => []) v1) (vs (wi (v1 - 1)) <| ln (Zqv p0 p1) (v1 - 1))) (lxe (ZzK) ())
def ZkF := fun (v1 : Int) => (ZmU p0 p1 v1).m
def ZsR : PT 0 (Int) := lr ZK6 (fun _ => []) (-1)
def Zr1 : PT 0 (Int) := vz (eqN p0.size) <| vs (wi ((p0.size : Int) - 1)) <| lc (Zqv p0 p1 ((p0.size : Int) - 1)) ((Zab (ZkF p0 p1) big ((p0.size : Int) - 1)).bind (Sum.elim (fun _ => (ZsR).m) some))
def ZqJ : PT 0 (Int) := lc (mkS [(0, vS p0), (1, .d (.int .u8 p1))] []) ((Zr1 p0 p1).m)
def Zb3 (p0 : Bt) (p1 : Int) : Option (Int) := (ZqJ p0 p1).m
theorem Zwn (co : CO C 0) : Kl 19 C (pa [0, 0, 1, 0, 1] (Zac Try.f147)) [.tmp 4] 0 (Zqv p0 p1) (ZzK) ZK6 (fun _ => []) (ZkF p0 p1) := fun v1 _ m Q Post hQ L => en co (ZmU p0 p1 v1) (lf1 [0, 1, 5]) nl hQ m L fun r g => ⟨fun b2 => ⟨id, id⟩, id⟩
end
theorem ZMt (p0 : Bt) (p1 : Int) : KC tp 147 [vS p0, .d (.int .u8 p1)] (Zb3 p0 p1) ZK6 := kc1 Try.func147 Try.ntmps147 tok [.tmp 4] fun C co y m Post L => mi co 1 (ZqJ p0 p1) (lf1 [0, 1]) nl ii m L fun r g _ m L => sq (mi co 1 (Zr1 p0 p1) (lf1 [0, 1, 5]) nl ii m L fun r g _ m L => bk 0 (lo (lpF (Zwn p0 p1 co) ii m L (fun _ m => fo co (ZsR) m L fun r g => id))))
abbrev ZNT : Int → AV := fun y => vI y
def ZtV (p0 : Bt) (p1 : Int) : PT 0 (Int) := cl (ZMt p0 p1) fun y1 => lr ZNT (fun _ => []) y1
def ZbY (p0 : Bt) (p1 : Int) : Option (Int) := (ZtV p0 p1).m
theorem ZMM (p0 : Bt) (p1 : Int) : KC tp 143 [vS p0, .d (.int .u8 p1)] (ZbY p0 p1) ZNT := kc1 Try.func143 Try.ntmps143 tok [.tmp 4] fun C co y m Post L => fo co (ZtV p0 p1) m L fun r g y1 => id
abbrev ZL7 : Bt × Bt → AV := fun y => .tup [vS y.1, vS y.2]
def Zsj (p0 : Bt) : PT 0 (Bt × Bt) := cl (ZMM p0 46) fun y1 => br (decide (y1 < (0 : Int))) (lr ZL7 (fun _ => []) (⟨#[]⟩, p0)) (ss p0 .no (.it y1) fun s2 => vs (wi (y1 + 1)) <| ss p0 (.it (y1 + 1)) .no fun s3 => lr ZL7 (fun _ => []) (s2, s3))
def Zd0 (p0 : Bt) : Option (Bt × Bt) := (Zsj p0).m
theorem ZMF (p0 : Bt) : KC tp 136 [vS p0] (Zd0 p0) ZL7 := kc1 Try.func136 Try.ntmps136 tok [.tmp 2, .tmp 3] fun C co y m Post L => fo co (Zsj p0) m L fun r g y1 => ⟨id, fun s2 s3 => id⟩
abbrev ZMm : List Bt → AV := fun y => vL Zah y
section
variable {C : Cx}
def Zrb : Bt × List Bt → St := fun (v1, r2) => mkS [(0, vS v1), (3, .ref (1, 5) 0 0 r2.length)] [((1, 5), ⟨0, true, 9, 1, Zaa Zah r2⟩)]
def Zz7 : List Bt → Nat × St := fun r4 => (0, mkS [(3, .ref (1, 5) 0 0 r4.length)] [((1, 5), ⟨0, true, 9, 1, Zaa Zah r4⟩)])
def Zso (v1 : Bt) (r2 : List Bt) : PT 0 (Lv (Bt × List Bt) (List Bt) (List Bt)) := br (!decide (v1 = (⟨#[]⟩ : Bt))) (cl (ZMF v1) fun y3 => vw .sep <| vw .sep <| ap r2 (y3.1 : Bt) <| vz (fl (r2 ++ [y3.1])) <| ln (Zrb) (y3.1, r2 ++ [y3.1])) (vz (fl r2) <| lxe (Zz7) r2)
def Zn6 := fun ((v1, r2) : Bt × List Bt) => (Zso v1 r2).m
def Zst (r4 : List Bt) : PT 0 (List Bt) := vz (fr r4) <| lr ZMm (fun _ => []) r4
def ZsV (p0 : Bt) : PT 0 (List Bt) := vw .go <| vz (fl ([p0] : List Bt)) <| lc (Zrb (p0, ([p0] : List Bt))) ((Zab (Zn6) big (p0, ([p0] : List Bt))).bind (Sum.elim (fun r4 => (Zst r4).m) some))
def Zfr (p0 : Bt) : Option (List Bt) := (ZsV p0).m
theorem ZvW (co : CO C 0) : Kl 18 C (pa [0, 0, 0, 1, 1] (Zac Try.f119)) [.tmp 2] 0 (Zrb) (Zz7) ZMm (fun _ => []) (Zn6) := fun (v1, r2) _ m Q Post hQ L => en co (Zso v1 r2) (lf2 [0, 3] [((1, 5), true)]) (lf2 [3] [((1, 5), true)]) hQ m L fun r g => ⟨fun y3 => id, id⟩
end
theorem ZLX (p0 : Bt) : KC tp 119 [vS p0] (Zfr p0) ZMm := kc1 Try.func119 Try.ntmps119 tok [.tmp 2] fun C co y m Post L => mi co 2 (ZsV p0) (lf2 [0, 3] [((1, 5), true)]) nl ii m L fun r g _ m L => sq (bk 0 (lo (lpF (ZvW co) ii m L (fun r4 m => fo co (Zst r4) m L fun r g => id))))
abbrev E92 : Bt × Bool → AV := fun y => .tup [vS y.1, vB y.2]
section
variable {C : Cx} (p0 p1 : Bt) (p2 y3 : List Bt)
abbrev ZDa := PT 0 (Bt × Bool)
def ZDA : Nat → St := fun v4 => mkS [(1, vS p1), (2, vL Zah p2), (24, vL Zah y3), (25, vN y3.length), (26, vN v4)] []
def ZIc : Unit → Nat × St := fun _ => (0, mkS [] [])
def ZyT (v4 : Nat) : PT 0 (Lv (Nat) (Unit) (Bt × Bool)) := br (decide ((v4 : Int) < (y3.length : Int))) (ix y3 v4 fun e5 => cl (ZFp e5 p1) fun y6 => cl (ZHu p2 y6) fun y7 => br y7 (lrt E92 (fun _ => []) (y6, true)) (vs (wa v4 1) <| ln (ZDA p1 p2 y3) (v4 + 1))) (lxe (ZIc) ())
def ZqV := fun (v4 : Nat) => (ZyT p1 p2 y3 v4).m
def ZAK : ZDa := lr E92 (fun _ => []) (⟨#[]⟩, false)
def ZEe : ZDa := cl (ZLX p0) fun y3 => vz (eqL y3) <| lc (ZDA p1 p2 y3 0) ((Zab (ZqV p1 p2 y3) big 0).bind (Sum.elim (fun _ => (ZAK).m) some))
def ZDv : ZDa := cl (ZLT p1 ⟨#[46]⟩) fun y1 => br y1.2 (cl (ZHu p2 y1.1) fun y2 => br y2 (lr E92 (fun _ => []) (y1.1, true)) (lr E92 (fun _ => []) (⟨#[]⟩, false))) (lc (mkS [(0, vS p0), (1, vS p1), (2, vL Zah p2)] []) ((ZEe p0 p1 p2).m))
def Zc8 (p0 : Bt) (p1 : Bt) (p2 : List Bt) : Option (Bt × Bool) := (ZDv p0 p1 p2).m
theorem ZFk (co : CO C 0) : Kl 38 C (pa [0, 0, 1, 0, 1, 1] (Zac Try.f92)) [.tmp 6, .tmp 7] 0 (ZDA p1 p2 y3) (ZIc) E92 (fun _ => []) (ZqV p1 p2 y3) := fun v4 _ m Q Post hQ L => en co (ZyT p1 p2 y3 v4) (lf1 [1, 2, 24, 25, 26]) nl hQ m L fun r g => ⟨fun e5 y6 y7 => ⟨id, id⟩, id⟩
end
theorem ZNS (p0 : Bt) (p1 : Bt) (p2 : List Bt) : KC tp 92 [vS p0, vS p1, vL Zah p2] (Zc8 p0 p1 p2) E92 := kc1 Try.func92 Try.ntmps92 tok [.tmp 6, .tmp 7] fun C co y m Post L => mi co 2 (ZDv p0 p1 p2) (lf1 [0, 1, 2]) nl ii m L fun r g y1 => ⟨fun y2 => ⟨id, id⟩, fun _ m L => sq (mi co 1 (ZEe p0 p1 p2) (lf1 [1, 2, 24, 25, 26]) nl ii m L fun r g y3 _ m L => bk 0 (lo (lpF (ZFk p1 p2 y3 co) ii m L (fun _ m => fo co (ZAK) m L fun r g => id))))⟩
abbrev ZKJ : Int → AV := fun y => vI y
def ZNf (pf1 : Enm → Option Bool) : Cl := fun no l H θ => (∀ (z0 : Enm) y, pf1 z0 = some y → Zjj tp l no H (θ 1) [.agg ((Zag z0).map .d)] (vB y))
section
variable {C : Cx} (p0 : List Enm) (pf1 : Enm → Option Bool)
def ZqX : Nat → St := fun v1 => mkS [(0, vL Zag p0), (1, .fn (.yield 1) [] []), (7, vN p0.length), (8, vN v1)] []
def Zzo : Unit → Nat × St := fun _ => (0, mkS [] [])
def ZnE (v1 : Nat) : PT 0 (Lv (Nat) (Unit) (Int)) := br (decide ((v1 : Int) < (p0.length : Int))) (ix p0 v1 fun e2 => cf tp 1 [.agg ((Zag e2).map .d)] (pf1 e2) (fun y => vB y) fun y3 => br y3 (lrt ZKJ (fun _ => []) (v1 : Int)) (vs (wa v1 1) <| ln (ZqX p0) (v1 + 1))) (lxe (Zzo) ())
def Znv := fun (v1 : Nat) => (ZnE p0 pf1 v1).m
def Zrl : PT 0 (Int) := lr ZKJ (fun _ => []) (-1)
def Zsd : PT 0 (Int) := vz (eqL p0) <| lc (ZqX p0 0) ((Zab (Znv p0 pf1) big 0).bind (Sum.elim (fun _ => (Zrl).m) some))
def Zqd : PT 0 (Int) := lc (mkS [(0, vL Zag p0), (1, .fn (.yield 1) [] [])] []) ((Zsd p0 pf1).m)
def Zcm (p0 : List Enm) (pf1 : Enm → Option Bool) : Option (Int) := (Zqd p0 pf1).m
theorem ZyL (co : CO C 0) (hT : (ZNf pf1) C.no C.l C.H0 C.θ) : Kl 19 C (pa [0, 0, 1, 0, 1] (Zac Try.f103)) [.tmp 4] 0 (ZqX p0) (Zzo) ZKJ (fun _ => []) (Znv p0 pf1) := fun v1 _ m Q Post hQ L => en co (ZnE p0 pf1 v1) (lf1 [0, 1, 7, 8]) nl hQ m L fun r g => ⟨fun e2 => ⟨⟨fun y hy => hT _ y hy, by intro r; kernel_rfl, by intro r y; kernel_rfl⟩, fun y3 => ⟨id, id⟩⟩, id⟩
end
theorem ZLB (p0 : List Enm) (pf1 : Enm → Option Bool) : KO tp 103 0 [vL Zag p0, .fn (.yield 1) [] []] [] (ZNf pf1) (Zcm p0 pf1) ZKJ (fun _ => []) := ko1 Try.func103 Try.ntmps103 tok [.tmp 4] 0 (fun C co hT y m Post L => mi co 1 (Zqd p0 pf1) (lf1 [0, 1]) nl ii m L fun r g _ m L => sq (mi co 1 (Zsd p0 pf1) (lf1 [0, 1, 7, 8]) nl ii m L fun r g _ m L => bk 0 (lo (lpF (ZyL p0 pf1 co hT) ii m L (fun _ m => fo co (Zrl) m L fun r g => id)))))
abbrev ZMW : Bool → AV := fun y => vB y
def ZO1 (pf1 : Enm → Option Bool) : Cl := fun no l H θ => (∀ (z0 : Enm) y, pf1 z0 = some y → Zjj tp l no H (θ 1) [.agg ((Zag z0).map .d)] (vB y))
def ZsK (p0 : List Enm) (pf1 : Enm → Option Bool) : PT 0 (Bool) := cs tp 103 [vL Zag p0, .fn (.yield 1) [] []] [] [] (Zcm p0 pf1) (fun y => vI y) fun y1 => lr ZMW (fun _ => []) (decide ((0 : Int) ≤ y1))
def ZbS (p0 : List Enm) (pf1 : Enm → Option Bool) : Option (Bool) := (ZsK p0 pf1).m
theorem ZMA (p0 : List Enm) (pf1 : Enm → Option Bool) : KO tp 120 0 [vL Zag p0, .fn (.yield 1) [] []] [] (ZO1 pf1) (ZbS p0 pf1) ZMW (fun _ => []) := ko1 Try.func120 Try.ntmps120 tok [.tmp 4] 0 (fun C co hT y m Post L => fo co (ZsK p0 pf1) m L fun r g => ⟨fun y hy => Zbo (ZLB p0 pf1) hy co g [] [] (lkS [(1, r.θ 1)]) (fun H' hg ho => (fun z0 y hz => Za8 co g [] ho (hT z0 y hz))) (fun H => trivial), fun y1 => id⟩)
abbrev ZNy : Bool → AV := fun y => vB y
@[reducible] def ZNo (w0 : Bt) : Bool → List Blk := fun y => [⟨0, true, 9, 1, [vS w0]⟩]
def ZrV (p0 : Enm) (w0 : Bt) : PT 1 (Bool) := vw .go <| vw .go <| lr ZNy (ZNo w0) (decide (p0.name = w0))
def Za1 (p0 : Enm) (w0 : Bt) : Option (Bool) := (ZrV p0 w0).m
theorem ZL0 (p0 : Enm) (w0 : Bt) : KO tp 121 1 [.agg ((Zag p0).map .d), .ptr (0, 0) 0 0] [⟨0, true, 9, 1, [vS w0]⟩] (fun _ _ _ _ => True) (Za1 p0 w0) ZNy (ZNo w0) := ko1 Try.func121 Try.ntmps121 tok [.tmp 3] 1 (fun C co hT y m Post L => fo co (ZrV p0 w0) m L fun r g => id) (hB := fun y => ⟨.inr (by kernel_rfl), rfl, trivial⟩)
abbrev E93 : Bool → AV := fun y => vB y
@[reducible] def G93 (p0 : Lnk) : Bool → List Blk := fun y => [⟨0, true, 76, 10, [vL Zar p0.files, vS p0.f.name, vS p0.f.space, vL Zah p0.f.imports, vL Zal p0.f.messages, vL Zag p0.f.enums, vL Zao p0.f.services, vL Zah p0.known, vL Zah p0.messages, vL Zag p0.enums]⟩]
def ZDQ (p0 : Lnk) (p1 : Bt) : PT 1 (Bool) := vw .go <| cs tp 120 [vL Zag p0.enums, .fn (.func 121) [] [.ptr (1, 3) 1 0]] [(1, 3)] [((1, 3), ⟨1, true, 9, 1, [vS p1]⟩)] (ZbS p0.enums (fun (z0 : Enm) => Za1 z0 p1)) (fun y => vB y) fun y1 => lr E93 (G93 p0) y1
def Zbm (p0 : Lnk) (p1 : Bt) : Option (Bool) := (ZDQ p0 p1).m
theorem ZO3 (p0 : Lnk) (p1 : Bt) : KO tp 93 1 [.ptr (0, 0) 0 0, vS p1] [⟨0, true, 76, 10, [vL Zar p0.files, vS p0.f.name, vS p0.f.space, vL Zah p0.f.imports, vL Zal p0.f.messages, vL Zag p0.f.enums, vL Zao p0.f.services, vL Zah p0.known, vL Zah p0.messages, vL Zag p0.enums]⟩] (fun _ _ _ _ => True) (Zbm p0 p1) E93 (G93 p0) := ko1 Try.func93 Try.ntmps93 tok [.tmp 4] 1 (fun C co hT y m Post L => fo co (ZDQ p0 p1) m L fun r g => ⟨fun y hy => Zbo (ZMA p0.enums (fun (z0 : Enm) => Za1 z0 p1)) hy co g [] [((1, 3), ⟨1, true, 9, 1, [vS p1]⟩)] (lkS [(1, .fn (.func 121) [] [.ptr (r.κ (1, 3)) (r.γ (1, 3) + 1) 0])]) (fun H' hg ho => (fun z0 y hz => Zmc (ZL0 z0 p1) hz co g [((1, 3), ⟨1, true, 9, 1, [vS p1]⟩)] [] hg (by simp) (fun _ => .top) (fun _ _ => trivial) (fun l H => ⟨fun _ => ⟨rfl, by kernel_rfl⟩, by kernel_rfl, trivial⟩))) (fun H => trivial), fun y1 => id⟩) (hB := fun y => ⟨.inr (by kernel_rfl), rfl, trivial⟩)
abbrev E94 : Int × Bool → AV := fun y => .tup [.d (.int .u64 y.1), vB y.2]
@[reducible] def G94 (p0 : Lnk) : Int × Bool → List Blk := fun y => [⟨0, true, 76, 10, [vL Zar p0.files, vS p0.f.name, vS p0.f.space, vL Zah p0.f.imports, vL Zal p0.f.messages, vL Zag p0.f.enums, vL Zao p0.f.services, vL Zah p0.known, vL Zah p0.messages, vL Zag p0.enums]⟩]
section
variable {C : Cx} (co : CO C 1) (p0 : Lnk) (p1 p2 : Bt) (v1 : Nat) (e2 : Enm)
abbrev Ztg := PT 1 (Lv (Nat) (Unit) (Int × Bool))
abbrev ZlM : List (Key × Blk) := [((0, 0), ⟨0, true, 76, 10, [vL Zar p0.files, vS p0.f.name, vS p0.f.space, vL Zah p0.f.imports, vL Zal p0.f.messages, vL Zag p0.f.enums, vL Zao p0.f.services, vL Zah p0.known, vL Zah p0.messages, vL Zag p0.enums]⟩)]
abbrev ZuM : List (Nat × AV) := [(1, vS p1), (2, vS p2), (15, vL Zag p0.enums), (16, vN p0.enums.length), (17, vN v1)]
def ZxI : Nat → St := fun v1 => mkS (ZuM p0 p1 p2 v1) (ZlM p0)
def ZHB : Unit → Nat × St := fun _ => (0, mkS [] (ZlM p0))
def ZA6 : Nat → St := fun v3 => mkS [(1, vS p1), (2, vS p2), (15, vL Zag p0.enums), (16, vN p0.enums.length), (17, vN v1), (26, vL ZkV e2.items), (27, vN e2.items.length), (28, vN v3)] (ZlM p0)
def ZHJ : Unit → Nat × St := fun _ => (2, mkS (ZuM p0 p1 p2 v1) (ZlM p0))
def ZwJ (v3 : Nat) : Ztg := br (decide ((v3 : Int) < (e2.items.length : Int))) (ix e2.items v3 fun e4 => vw .go <| vw .go <| br (decide (e4.name = p2)) (vw .go <| vz (wk .u64 e4.num) <| lrt E94 (G94 p0) ((IntKind.u64.wrap e4.num), true)) (vs (wa v3 1) <| ln (ZA6 p0 p1 p2 v1 e2) (v3 + 1))) (lxe (ZHJ p0 p1 p2 v1) ())
def Zo7 := fun (v3 : Nat) => (ZwJ p0 p1 p2 v1 e2 v3).m
def Zxb : Ztg := vs (wa v1 1) <| ln (ZxI p0 p1 p2) (v1 + 1)
def Zvu : Ztg := vs (wa v1 1) <| ln (ZxI p0 p1 p2) (v1 + 1)
def Zyk : Ztg := ix p0.enums v1 fun e2 => vw .go <| vw .go <| br (!decide (e2.name = p1)) (lxc 1 (mkS (ZuM p0 p1 p2 v1) (ZlM p0)) ((Zvu p0 p1 p2 v1).m)) (vw .go <| vz (eqL e2.items) <| lc (ZA6 p0 p1 p2 v1 e2 0) ((Zab (Zo7 p0 p1 p2 v1 e2) big 0).bind (Sum.elim (fun _ => (Zxb p0 p1 p2 v1).m) (fun z => some (.rt z)))))
def Zyl : Ztg := br (decide ((v1 : Int) < (p0.enums.length : Int))) (lc (mkS (ZuM p0 p1 p2 v1) (ZlM p0)) ((Zyk p0 p1 p2 v1).m)) (lxe (ZHB p0) ())
def ZoZ := fun (v1 : Nat) => (Zyl p0 p1 p2 v1).m
def ZD2 : PT 1 (Int × Bool) := lr E94 (G94 p0) (0, false)
def ZDH : PT 1 (Int × Bool) := vw .go <| vz (eqL p0.enums) <| lc (ZxI p0 p1 p2 0) ((Zab (ZoZ p0 p1 p2) big 0).bind (Sum.elim (fun _ => (ZD2 p0).m) some))
def ZGb : PT 1 (Int × Bool) := lc (mkS [(0, .ptr (0, 0) 0 0), (1, vS p1), (2, vS p2)] (ZlM p0)) ((ZDH p0 p1 p2).m)
def Zbh (p0 : Lnk) (p1 : Bt) (p2 : Bt) : Option (Int × Bool) := (ZGb p0 p1 p2).m
section
include co
theorem ZBr : Kl 41 C (pa [0, 0, 1, 1, 1, 0, 0, 1, 1, 0, 0, 1, 0, 1] (Zac Try.f94)) [.tmp 6, .tmp 7] 1 (ZA6 p0 p1 p2 v1 e2) (ZHJ p0 p1 p2 v1) E94 (G94 p0) (Zo7 p0 p1 p2 v1 e2) := fun v3 _ m Q Post hQ L => en co (ZwJ p0 p1 p2 v1 e2 v3) (lf2 [1, 2, 15, 16, 17, 26, 27, 28] [((0, 0), false)]) (lf2 [1, 2, 15, 16, 17] [((0, 0), false)]) hQ m L fun r g => ⟨fun e4 => ⟨id, id⟩, id⟩
theorem ZFF : Kl 41 C (pa [0, 0, 1, 0, 1] (Zac Try.f94)) [.tmp 6, .tmp 7] 1 (ZxI p0 p1 p2) (ZHB p0) E94 (G94 p0) (ZoZ p0 p1 p2) := fun v1 _ m Q Post hQ L => mi co 2 (Zyl p0 p1 p2 v1) (lf2 [1, 2, 15, 16, 17] [((0, 0), false)]) (lf2 [] [((0, 0), false)]) hQ m L fun r g => ⟨fun _ m L => sq (bk 1 (mi co 3 (Zyk p0 p1 p2 v1) (lf2 [1, 2, 15, 16, 17, 26, 27, 28] [((0, 0), false)]) (lf2 [1, 2, 15, 16, 17] [((0, 0), false)]) hQ m L fun r g e2 => ⟨fun _ m L => en co (Zvu p0 p1 p2 v1) (lf2 [1, 2, 15, 16, 17] [((0, 0), false)]) nl hQ m L fun r g => id, fun _ m L => bk 2 (lo (lpL (ZBr co p0 p1 p2 v1 e2) hQ m L (fun _ m => en co (Zxb p0 p1 p2 v1) (lf2 [1, 2, 15, 16, 17] [((0, 0), false)]) nl hQ m L fun r g => id)))⟩)), id⟩
end
end
theorem ZLa (p0 : Lnk) (p1 : Bt) (p2 : Bt) : KO tp 94 1 [.ptr (0, 0) 0 0, vS p1, vS p2] [⟨0, true, 76, 10, [vL Zar p0.files, vS p0.f.name, vS p0.f.space, vL Zah p0.f.imports, vL Zal p0.f.messages, vL Zag p0.f.enums, vL Zao p0.f.services, vL Zah p0.known, vL Zah p0.messages, vL Zag p0.enums]⟩] (fun _ _ _ _ => True) (Zbh p0 p1 p2) E94 (G94 p0) := ko1 Try.func94 Try.ntmps94 tok [.tmp 6, .tmp 7] 1 (fun C co hT y m Post L => mi co 1 (ZGb p0 p1 p2) (lf2 [0, 1, 2] [((0, 0), false)]) nl ii m L fun r g _ m L => sq (mi co 1 (ZDH p0 p1 p2) (lf2 [1, 2, 15, 16, 17] [((0, 0), false)]) nl ii m L fun r g _ m L => bk 0 (lo (lpF (ZFF co p0 p1 p2) ii m L (fun _ m => fo co (ZD2 p0) m L fun r g => id))))) (hB := fun y => ⟨.inr (by kernel_rfl), rfl, trivial⟩)
abbrev E56 : Fld × Int → AV := fun y => .tup [.agg ((ZdA y.1).map .d), vI y.2]
@[reducible] def G56 (p0 : Lnk) : Fld × Int → List Blk := fun y => [⟨0, true, 76, 10, [vL Zar p0.files, vS p0.f.name, vS p0.f.space, vL Zah p0.f.imports, vL Zal p0.f.messages, vL Zag p0.f.enums, vL Zao p0.f.services, vL Zah p0.known, vL Zah p0.messages, vL Zag p0.enums]⟩]
def ZFt (p0 : Lnk) (p1 : Bt) (p2 : Fld) : PT 1 (Fld × Int) := vw .go <| br (decide (p2.type.kind = (0 : Int))) (vw .go <| vw .go <| cl (ZNS p1 p2.type.name p0.known) fun y1 => br (!y1.2) (vw .go <| vw .go <| lr E56 (G56 p0) (p2, 8)) (vw .go <| cl (ZHu p0.messages y1.1) fun y2 => br y2 (vw .go <| vw .go <| br (!p2.hasDefault) (vw .go <| vw .go <| lr E56 (G56 p0) ((.mk p2.num p2.name p2.card p2.key (.mk 10 y1.1 : Typ) p2.union p2.hasDefault p2.dflt p2.notes : Fld), 0)) (vw .go <| br (decide (p2.type.kind = (0 : Int)) || false) (vw .go <| vw .go <| lr E56 (G56 p0) ((.mk p2.num p2.name p2.card p2.key (.mk 10 y1.1 : Typ) p2.union p2.hasDefault p2.dflt p2.notes : Fld), 12)) (br (decide (p2.type.kind = (0 : Int))) (vw .go <| br (!decide (p2.dflt.kind = (9 : Int))) (vw .go <| vw .go <| lr E56 (G56 p0) ((.mk p2.num p2.name p2.card p2.key (.mk 10 y1.1 : Typ) p2.union p2.hasDefault p2.dflt p2.notes : Fld), 12)) (vw .go <| vw .go <| cs tp 94 [.ptr (0, 0) 0 0, vS y1.1, vS p2.dflt.text] [(0, 0)] [((0, 0), ⟨0, true, 76, 10, [vL Zar p0.files, vS p0.f.name, vS p0.f.space, vL Zah p0.f.imports, vL Zal p0.f.messages, vL Zag p0.f.enums, vL Zao p0.f.services, vL Zah p0.known, vL Zah p0.messages, vL Zag p0.enums]⟩)] (Zbh p0 y1.1 p2.dflt.text) (fun y => .tup [.d (.int .u64 y.1), vB y.2]) fun y3 => br (!y3.2) (vw .go <| vw .go <| lr E56 (G56 p0) ((.mk p2.num p2.name p2.card p2.key (.mk 10 y1.1 : Typ) p2.union p2.hasDefault p2.dflt p2.notes : Fld), 16)) (vw .go <| vw .go <| vw .go <| lr E56 (G56 p0) ((.mk p2.num p2.name p2.card p2.key (.mk 10 y1.1 : Typ) p2.union p2.hasDefault (.mk 9 y3.1 ⟨#[]⟩ [] [] [] [] : Val) p2.notes : Fld), 0)))) (vw .go <| vw .go <| br (!decide (p2.dflt.kind = (10 : Int))) (vw .go <| vw .go <| lr E56 (G56 p0) ((.mk p2.num p2.name p2.card p2.key (.mk 10 y1.1 : Typ) p2.union p2.hasDefault p2.dflt p2.notes : Fld), 12)) (vw .go <| vw .go <| lr E56 (G56 p0) ((.mk p2.num p2.name p2.card p2.key (.mk 10 y1.1 : Typ) p2.union p2.hasDefault p2.dflt p2.notes : Fld), 0)))))) (cs tp 93 [.ptr (0, 0) 0 0, vS y1.1] [(0, 0)] [((0, 0), ⟨0, true, 76, 10, [vL Zar p0.files, vS p0.f.name, vS p0.f.space, vL Zah p0.f.imports, vL Zal p0.f.messages, vL Zag p0.f.enums, vL Zao p0.f.services, vL Zah p0.known, vL Zah p0.messages, vL Zag p0.enums]⟩)] (Zbm p0 y1.1) (fun y => vB y) fun y4 => br y4 (vw .go <| vw .go <| br (!p2.hasDefault) (vw .go <| vw .go <| lr E56 (G56 p0) ((.mk p2.num p2.name p2.card p2.key (.mk 9 y1.1 : Typ) p2.union p2.hasDefault p2.dflt p2.notes : Fld), 0)) (vw .go <| br (decide (p2.type.kind = (0 : Int)) && false) (vw .go <| vw .go <| lr E56 (G56 p0) ((.mk p2.num p2.name p2.card p2.key (.mk 9 y1.1 : Typ) p2.union p2.hasDefault p2.dflt p2.notes : Fld), 12)) (br (decide (p2.type.kind = (0 : Int))) (vw .go <| br (!decide (p2.dflt.kind = (9 : Int))) (vw .go <| vw .go <| lr E56 (G56 p0) ((.mk p2.num p2.name p2.card p2.key (.mk 9 y1.1 : Typ) p2.union p2.hasDefault p2.dflt p2.notes : Fld), 12)) (vw .go <| vw .go <| cs tp 94 [.ptr (0, 0) 0 0, vS y1.1, vS p2.dflt.text] [(0, 0)] [((0, 0), ⟨0, true, 76, 10, [vL Zar p0.files, vS p0.f.name, vS p0.f.space, vL Zah p0.f.imports, vL Zal p0.f.messages, vL Zag p0.f.enums, vL Zao p0.f.services, vL Zah p0.known, vL Zah p0.messages, vL Zag p0.enums]⟩)] (Zbh p0 y1.1 p2.dflt.text) (fun y => .tup [.d (.int .u64 y.1), vB y.2]) fun y5 => br (!y5.2) (vw .go <| vw .go <| lr E56 (G56 p0) ((.mk p2.num p2.name p2.card p2.key (.mk 9 y1.1 : Typ) p2.union p2.hasDefault p2.dflt p2.notes : Fld), 16)) (vw .go <| vw .go <| vw .go <| lr E56 (G56 p0) ((.mk p2.num p2.name p2.card p2.key (.mk 9 y1.1 : Typ) p2.union p2.hasDefault (.mk 9 y5.1 ⟨#[]⟩ [] [] [] [] : Val) p2.notes : Fld), 0)))) (vw .go <| vw .go <| br (!decide (p2.dflt.kind = (9 : Int))) (vw .go <| vw .go <| lr E56 (G56 p0) ((.mk p2.num p2.name p2.card p2.key (.mk 9 y1.1 : Typ) p2.union p2.hasDefault p2.dflt p2.notes : Fld), 12)) (vw .go <| vw .go <| lr E56 (G56 p0) ((.mk p2.num p2.name p2.card p2.key (.mk 9 y1.1 : Typ) p2.union p2.hasDefault p2.dflt p2.notes : Fld), 0)))))) (vw .go <| vw .go <| lr E56 (G56 p0) (p2, 12))))) (vw .go <| br (!p2.hasDefault) (vw .go <| vw .go <| lr E56 (G56 p0) (p2, 0)) (vw .go <| br (decide (p2.type.kind = (0 : Int)) && decide (p2.type.kind = (10 : Int))) (vw .go <| vw .go <| lr E56 (G56 p0) (p2, 12)) (br (decide (p2.type.kind = (0 : Int))) (vw .go <| br (!decide (p2.dflt.kind = (9 : Int))) (vw .go <| vw .go <| lr E56 (G56 p0) (p2, 12)) (vw .go <| vw .go <| cs tp 94 [.ptr (0, 0) 0 0, vS p2.type.name, vS p2.dflt.text] [(0, 0)] [((0, 0), ⟨0, true, 76, 10, [vL Zar p0.files, vS p0.f.name, vS p0.f.space, vL Zah p0.f.imports, vL Zal p0.f.messages, vL Zag p0.f.enums, vL Zao p0.f.services, vL Zah p0.known, vL Zah p0.messages, vL Zag p0.enums]⟩)] (Zbh p0 p2.type.name p2.dflt.text) (fun y => .tup [.d (.int .u64 y.1), vB y.2]) fun y6 => br (!y6.2) (vw .go <| vw .go <| lr E56 (G56 p0) (p2, 16)) (vw .go <| vw .go <| vw .go <| lr E56 (G56 p0) ((.mk p2.num p2.name p2.card p2.key p2.type p2.union p2.hasDefault (.mk 9 y6.1 ⟨#[]⟩ [] [] [] [] : Val) p2.notes : Fld), 0)))) (vw .go <| vw .go <| br (!decide (p2.dflt.kind = p2.type.kind)) (vw .go <| vw .go <| lr E56 (G56 p0) (p2, 12)) (vw .go <| vw .go <| lr E56 (G56 p0) (p2, 0))))))
def ZbU (p0 : Lnk) (p1 : Bt) (p2 : Fld) : Option (Fld × Int) := (ZFt p0 p1 p2).m
theorem ZPw (p0 : Lnk) (p1 : Bt) (p2 : Fld) : KO tp 56 1 [.ptr (0, 0) 0 0, vS p1, .agg ((ZdA p2).map .d)] [⟨0, true, 76, 10, [vL Zar p0.files, vS p0.f.name, vS p0.f.space, vL Zah p0.f.imports, vL Zal p0.f.messages, vL Zag p0.f.enums, vL Zao p0.f.services, vL Zah p0.known, vL Zah p0.messages, vL Zag p0.enums]⟩] (fun _ _ _ _ => True) (ZbU p0 p1 p2) E56 (G56 p0) := ko1 Try.func56 Try.ntmps56 tok [.cell 6 53, .tmp 7] 1 (fun C co hT y m Post L => fo co (ZFt p0 p1 p2) m L fun r g => ⟨fun y1 => ⟨id, fun y2 => ⟨⟨id, ⟨id, ⟨⟨id, ⟨fun y hy => Zbo (ZLa p0 y1.1 p2.dflt.text) hy co g [((0, 0), ⟨0, true, 76, 10, [vL Zar p0.files, vS p0.f.name, vS p0.f.space, vL Zah p0.f.imports, vL Zal p0.f.messages, vL Zag p0.f.enums, vL Zao p0.f.services, vL Zah p0.known, vL Zah p0.messages, vL Zag p0.enums]⟩)] [] (lkS []) (fun H' hg ho => trivial) (fun H => ⟨fun _ => ⟨rfl, by kernel_rfl⟩, by kernel_rfl, trivial⟩), fun y3 => ⟨id, id⟩⟩⟩, ⟨id, id⟩⟩⟩⟩, ⟨fun y hy => Zbo (ZO3 p0 y1.1) hy co g [((0, 0), ⟨0, true, 76, 10, [vL Zar p0.files, vS p0.f.name, vS p0.f.space, vL Zah p0.f.imports, vL Zal p0.f.messages, vL Zag p0.f.enums, vL Zao p0.f.services, vL Zah p0.known, vL Zah p0.messages, vL Zag p0.enums]⟩)] [] (lkS []) (fun H' hg ho => trivial) (fun H => ⟨fun _ => ⟨rfl, by kernel_rfl⟩, by kernel_rfl, trivial⟩), fun y4 => ⟨⟨id, ⟨id, ⟨⟨id, ⟨fun y hy => Zbo (ZLa p0 y1.1 p2.dflt.text) hy co g [((0, 0), ⟨0, true, 76, 10, [vL Zar p0.files, vS p0.f.name, vS p0.f.space, vL Zah p0.f.imports, vL Zal p0.f.messages, vL Zag p0.f.enums, vL Zao p0.f.services, vL Zah p0.known, vL Zah p0.messages, vL Zag p0.enums]⟩)] [] (lkS []) (fun H' hg ho => trivial) (fun H => ⟨fun _ => ⟨rfl, by kernel_rfl⟩, by kernel_rfl, trivial⟩), fun y5 => ⟨id, id⟩⟩⟩, ⟨id, id⟩⟩⟩⟩, id⟩⟩⟩⟩, ⟨id, ⟨id, ⟨⟨id, ⟨fun y hy => Zbo (ZLa p0 p2.type.name p2.dflt.text) hy co g [((0, 0), ⟨0, true, 76, 10, [vL Zar p0.files, vS p0.f.name, vS p0.f.space, vL Zah p0.f.imports, vL Zal p0.f.messages, vL Zag p0.f.enums, vL Zao p0.f.services, vL Zah p0.known, vL Zah p0.messages, vL Zag p0.enums]⟩)] [] (lkS []) (fun H' hg ho => trivial) (fun H => ⟨fun _ => ⟨rfl, by kernel_rfl⟩, by kernel_rfl, trivial⟩), fun y6 => ⟨id, id⟩⟩⟩, ⟨id, id⟩⟩⟩⟩⟩) (hB := fun y => ⟨.inr (by kernel_rfl), rfl, trivial⟩)
abbrev E28 : Msg × Int → AV := fun y => .tup [.agg ((Zal y.1).map .d), vI y.2]
@[reducible] def G28 (p0 : Lnk) : Msg × Int → List Blk := fun y => [⟨0, true, 76, 10, [vL Zar p0.files, vS p0.f.name, vS p0.f.space, vL Zah p0.f.imports, vL Zal p0.f.messages, vL Zag p0.f.enums, vL Zao p0.f.services, vL Zah p0.known, vL Zah p0.messages, vL Zag p0.enums]⟩]
section
variable {C : Cx} (p0 : Lnk) (p1 : Msg) (y1 : Bt) (y2 : List Fld)
abbrev Zsu := PT 1 (Msg × Int)
abbrev ZyF : Blk := ⟨0, true, 76, 10, [vL Zar p0.files, vS p0.f.name, vS p0.f.space, vL Zah p0.f.imports, vL Zal p0.f.messages, vL Zag p0.f.enums, vL Zao p0.f.services, vL Zah p0.known, vL Zah p0.messages, vL Zag p0.enums]⟩
abbrev ZxR : Blk := ⟨0, true, 39, 5, [vS ⟨#[]⟩, .e0, .e0, .e0, .e0]⟩
abbrev ZCi : Blk := ⟨0, true, 39, 5, [vS y1, .ref (1, 21) 0 0 y2.length, vL Zfv p1.reserved, vL Zah p1.gone, vL eNt p1.notes]⟩
abbrev ZJs : List (Key × Blk) := [((0, 0), (ZyF p0)), ((1, 3), ⟨0, true, 39, 5, [vS y1, vL ZdA p1.fields, vL Zfv p1.reserved, vL Zah p1.gone, vL eNt p1.notes]⟩), ((1, 4), ZxR)]
abbrev ZJO : List (Nat × AV) := [(0, .ptr (0, 0) 0 0), (3, .ptr (1, 3) 0 0), (4, .ptr (1, 4) 0 0)]
abbrev ZJj : List (Key × Bool) := [((0, 0), false), ((1, 3), false), ((1, 4), false), ((1, 21), true)]
def ZBl : Nat × List Fld → St := fun (v3, r4) => mkS [(0, .ptr (0, 0) 0 0), (3, .ptr (1, 3) 0 0), (4, .ptr (1, 4) 0 0), (24, .ref (1, 21) 0 0 y2.length), (25, vN y2.length), (26, vN v3)] [((0, 0), (ZyF p0)), ((1, 3), (ZCi p1 y1 y2)), ((1, 4), ZxR), ((1, 21), ⟨0, true, 53, 16, Zaa ZdA r4⟩)]
def ZJK : List Fld → Nat × St := fun r7 => (0, mkS [(3, .ptr (1, 3) 0 0), (4, .ptr (1, 4) 0 0)] [((0, 0), (ZyF p0)), ((1, 3), (ZCi p1 y1 y2)), ((1, 4), ZxR), ((1, 21), ⟨0, true, 53, 16, Zaa ZdA r7⟩)])
def Zx8 (v3 : Nat) (r4 : List Fld) : PT 1 (Lv (Nat × List Fld) (List Fld) (Msg × Int)) := br (decide ((v3 : Int) < (y2.length : Int))) (vs (ir v3 y2.length 16) <| ca r4 v3 fun e5 => vw .go <| vw .go <| vw .go <| cs tp 56 [.ptr (0, 0) 0 0, vS y1, .agg ((ZdA e5).map .d)] [(0, 0)] [((0, 0), ⟨0, true, 76, 10, [vL Zar p0.files, vS p0.f.name, vS p0.f.space, vL Zah p0.f.imports, vL Zal p0.f.messages, vL Zag p0.f.enums, vL Zao p0.f.services, vL Zah p0.known, vL Zah p0.messages, vL Zag p0.enums]⟩)] (ZbU p0 y1 e5) (fun y => .tup [.agg ((ZdA y.1).map .d), vI y.2]) fun y6 => vw .go <| br (!decide (y6.2 = (0 : Int))) (vw .go <| vw .go <| vs (frt y2.length r4) <| lrt E28 (G28 p0) ((.mk y1 r4 p1.reserved p1.gone p1.notes : Msg), y6.2)) (vw .go <| vw .go <| vs (ir v3 y2.length 16) <| vs (st r4 v3 y6.1) <| vs (wa v3 1) <| vz (fl (r4.set v3 y6.1)) <| ln (ZBl p0 p1 y1 y2) (v3 + 1, r4.set v3 y6.1))) (vz (fl r4) <| lxe (ZJK p0 p1 y1 y2) r4)
def Zto := fun ((v3, r4) : Nat × List Fld) => (Zx8 p0 p1 y1 y2 v3 r4).m
def ZEV (r7 : List Fld) : Zsu := vw .go <| vw .go <| vs (frt y2.length r7) <| lr E28 (G28 p0) ((.mk y1 r7 p1.reserved p1.gone p1.notes : Msg), 0)
def ZA2 : Zsu := vw .go <| vz (eqN y2.length) <| vz (fl y2) <| lc (ZBl p0 p1 y1 y2 (0, y2)) ((Zab (Zto p0 p1 y1 y2) big (0, y2)).bind (Sum.elim (fun r7 => (ZEV p0 p1 y1 y2 r7).m) some))
def ZFi : Zsu := vw .go <| vz (fl y2) <| lc (mkS ZJO [((0, 0), (ZyF p0)), ((1, 3), (ZCi p1 y1 y2)), ((1, 4), ZxR), ((1, 21), ⟨0, true, 53, 16, Zaa ZdA y2⟩)]) ((ZA2 p0 p1 y1 y2).m)
def ZDr : Zsu := vw .go <| lc (mkS [(0, .ptr (0, 0) 0 0), (3, .ptr (1, 3) 0 0), (4, .ptr (1, 4) 0 0), (20, vL ZdA p1.fields)] (ZJs p0 p1 y1)) ((ZcY p1.fields).bind fun y2 => (ZFi p0 p1 y1 y2).m)
def ZBc : Zsu := vw .go <| vw .go <| cl (ZFp p0.f.space p1.name) fun y1 => vw .go <| lc (mkS ZJO (ZJs p0 p1 y1)) ((ZDr p0 p1 y1).m)
def Za9 (p0 : Lnk) (p1 : Msg) : Option (Msg × Int) := (ZBc p0 p1).m
theorem ZGs (co : CO C 1) : Kl 50 C (pa [0, 0, 1, 0, 1, 1, 1] (Zac Try.f28)) [.cell 4 39, .tmp 5] 1 (ZBl p0 p1 y1 y2) (ZJK p0 p1 y1 y2) E28 (G28 p0) (Zto p0 p1 y1 y2) := fun (v3, r4) _ m Q Post hQ L => en co (Zx8 p0 p1 y1 y2 v3 r4) (lf2 [0, 3, 4, 24, 25, 26] ZJj) (lf2 [3, 4] ZJj) hQ m L fun r g => ⟨fun e5 => ⟨fun y hy => Zbo (ZPw p0 y1 e5) hy co g [((0, 0), ⟨0, true, 76, 10, [vL Zar p0.files, vS p0.f.name, vS p0.f.space, vL Zah p0.f.imports, vL Zal p0.f.messages, vL Zag p0.f.enums, vL Zao p0.f.services, vL Zah p0.known, vL Zah p0.messages, vL Zag p0.enums]⟩)] [] (lkS []) (fun H' hg ho => trivial) (fun H => ⟨fun _ => ⟨rfl, by kernel_rfl⟩, by kernel_rfl, trivial⟩), fun y6 => ⟨id, id⟩⟩, id⟩
end
theorem ZNW (p0 : Lnk) (p1 : Msg) : KO tp 28 1 [.ptr (0, 0) 0 0, .agg ((Zal p1).map .d)] [⟨0, true, 76, 10, [vL Zar p0.files, vS p0.f.name, vS p0.f.space, vL Zah p0.f.imports, vL Zal p0.f.messages, vL Zag p0.f.enums, vL Zao p0.f.services, vL Zah p0.known, vL Zah p0.messages, vL Zag p0.enums]⟩] (fun _ _ _ _ => True) (Za9 p0 p1) E28 (G28 p0) := ko1 Try.func28 Try.ntmps28 tok [.cell 4 39, .tmp 5] 1 (fun C co hT y m Post L => mi co 2 (ZBc p0 p1) (lf2 [0, 3, 4] [((0, 0), false), ((1, 3), false), ((1, 4), false)]) nl ii m L fun r g y1 _ m L => sq (rg (ZcD co tok 2 (ZDr p0 p1 y1) (lf2 [0, 3, 4, 20] [((0, 0), false), ((1, 3), false), ((1, 4), false)]) m L fun r g _ m L => Za0 co m 55 [vL ZdA p1.fields] [(1, 21)] ([((1, 21), ⟨0, false, 0, 0, []⟩)] ++ []) (fun z => .ref (1, 21) 1 0 z.length) (fun z => [((1, 21), ⟨1, true, 53, 16, Zaa ZdA z⟩)]) [] (fun z => trivial) (trivial) (fun z hz r g => Zai (ZOo p1.fields) hz co g [((1, 21), ⟨0, false, 0, 0, []⟩)] [] [((1, 21), ⟨1, true, 53, 16, Zaa ZdA z⟩)] (lkS []) (fun H' hg ho => trivial) (fun H => ⟨(fun h => by cases h), by kernel_rfl, trivial⟩) (fun H => ⟨fun _ => ⟨rfl, bz⟩, by kernel_rfl, trivial⟩)) fun y2 m => Zct co tok (ZFi p0 p1 y1 y2) (lf2 [0, 3, 4] [((0, 0), false), ((1, 3), false), ((1, 4), false), ((1, 21), true)]) m L fun r g _ m L => sq (mi co 1 (ZA2 p0 p1 y1 y2) (lf2 [0, 3, 4, 24, 25, 26] [((0, 0), false), ((1, 3), false), ((1, 4), false), ((1, 21), true)]) nl ii m L fun r g _ m L => bk 0 (lo (lpF (ZGs p0 p1 y1 y2 co) ii m L (fun r7 m => fo co (ZEV p0 p1 y1 y2 r7) m L fun r g => id))))))) (hB := fun y => ⟨.inr (by kernel_rfl), rfl, trivial⟩)
abbrev E57 : List Mth → AV := fun y => .ref (0, 0) 1 0 y.length
@[reducible] def G57 : List Mth → List Blk := fun y => [⟨1, true, 59, 5, Zaa Zey y⟩]
def ZDN (p0 : List Mth) : PT 1 (List Mth) := al Zey p0 false fun b1 => br b1 (vw .sep <| vw (.ads 2 2 59 5) <| mv 2 0 ([] : List Mth) <| lr E57 (G57) ([] : List Mth)) (a0 p0 <| mv 7 0 p0 <| lr E57 (G57) p0)
def ZcM (p0 : List Mth) : Option (List Mth) := (ZDN p0).m
theorem ZOU (p0 : List Mth) : KO tp 57 1 [vL Zey p0] [⟨0, false, 0, 0, []⟩] (fun _ _ _ _ => True) (ZcM p0) E57 (G57) := ko1 Try.func57 Try.ntmps57 tok [.tmp 2] 1 (fun C co hT y m Post L => fo co (ZDN p0) m L fun r g => ⟨fun b1 => ⟨id, id⟩, by intro b h; subst h; cases b <;> rfl⟩) (hB := fun y => ⟨.inl (Zan _ _), rfl, trivial⟩)
abbrev E58 : Bt × Int → AV := fun y => .tup [vS y.1, vI y.2]
@[reducible] def G58 (p0 : Lnk) : Bt × Int → List Blk := fun y => [⟨0, true, 76, 10, [vL Zar p0.files, vS p0.f.name, vS p0.f.space, vL Zah p0.f.imports, vL Zal p0.f.messages, vL Zag p0.f.enums, vL Zao p0.f.services, vL Zah p0.known, vL Zah p0.messages, vL Zag p0.enums]⟩]
def ZET (p0 : Lnk) (p1 : Bt) : PT 1 (Bt × Int) := vw .go <| vw .go <| cl (ZNS p0.f.space p1 p0.known) fun y1 => br (!y1.2) (lr E58 (G58 p0) (⟨#[]⟩, 8)) (vw .go <| cl (ZHu p0.messages y1.1) fun y2 => br (!y2) (lr E58 (G58 p0) (⟨#[]⟩, 12)) (lr E58 (G58 p0) (y1.1, 0)))
def ZbF (p0 : Lnk) (p1 : Bt) : Option (Bt × Int) := (ZET p0 p1).m
theorem ZNd (p0 : Lnk) (p1 : Bt) : KO tp 58 1 [.ptr (0, 0) 0 0, vS p1] [⟨0, true, 76, 10, [vL Zar p0.files, vS p0.f.name, vS p0.f.space, vL Zah p0.f.imports, vL Zal p0.f.messages, vL Zag p0.f.enums, vL Zao p0.f.services, vL Zah p0.known, vL Zah p0.messages, vL Zag p0.enums]⟩] (fun _ _ _ _ => True) (ZbF p0 p1) E58 (G58 p0) := ko1 Try.func58 Try.ntmps58 tok [.tmp 4, .tmp 5] 1 (fun C co hT y m Post L => fo co (ZET p0 p1) m L fun r g y1 => ⟨id, fun y2 => ⟨id, id⟩⟩) (hB := fun y => ⟨.inr (by kernel_rfl), rfl, trivial⟩)
abbrev E29 : Svc × Int → AV := fun y => .tup [.agg ((Zao y.1).map .d), vI y.2]
@[reducible] def G29 (p0 : Lnk) : Svc × Int → List Blk := fun y => [⟨0, true, 76, 10, [vL Zar p0.files, vS p0.f.name, vS p0.f.space, vL Zah p0.f.imports, vL Zal p0.f.messages, vL Zag p0.f.enums, vL Zao p0.f.services, vL Zah p0.known, vL Zah p0.messages, vL Zag p0.enums]⟩]
section
variable {C : Cx} (p0 : Lnk) (p1 : Svc) (y1 : Bt) (y2 : List Mth)
abbrev ZrE := PT 1 (Svc × Int)
abbrev Zwc : Blk := ⟨0, true, 76, 10, [vL Zar p0.files, vS p0.f.name, vS p0.f.space, vL Zah p0.f.imports, vL Zal p0.f.messages, vL Zag p0.f.enums, vL Zao p0.f.services, vL Zah p0.known, vL Zah p0.messages, vL Zag p0.enums]⟩
abbrev Zym : Blk := ⟨0, true, 57, 3, [vS ⟨#[]⟩, .e0, .e0]⟩
abbrev ZEP : Blk := ⟨0, true, 57, 3, [vS y1, .ref (1, 22) 0 0 y2.length, vL eNt p1.notes]⟩
abbrev ZKD : List (Key × Blk) := [((0, 0), (Zwc p0)), ((1, 3), ⟨0, true, 57, 3, [vS y1, vL Zey p1.methods, vL eNt p1.notes]⟩), ((1, 4), Zym)]
abbrev ZIf : List (Nat × AV) := [(0, .ptr (0, 0) 0 0), (3, .ptr (1, 3) 0 0), (4, .ptr (1, 4) 0 0)]
abbrev ZIT : List (Key × Bool) := [((0, 0), false), ((1, 3), false), ((1, 4), false), ((1, 22), true)]
def ZCj : Nat × List Mth → St := fun (v3, r4) => mkS [(0, .ptr (0, 0) 0 0), (3, .ptr (1, 3) 0 0), (4, .ptr (1, 4) 0 0), (26, vN y2.length), (27, vN v3)] [((0, 0), (Zwc p0)), ((1, 3), (ZEP p1 y1 y2)), ((1, 4), Zym), ((1, 22), ⟨0, true, 59, 5, Zaa Zey r4⟩)]
def ZIM : List Mth → Nat × St := fun r13 => (0, mkS [(3, .ptr (1, 3) 0 0), (4, .ptr (1, 4) 0 0)] [((0, 0), (Zwc p0)), ((1, 3), (ZEP p1 y1 y2)), ((1, 4), Zym), ((1, 22), ⟨0, true, 59, 5, Zaa Zey r13⟩)])
def Zwm (v3 : Nat) (r4 : List Mth) : PT 1 (Lv (Nat × List Mth) (List Mth) (Svc × Int)) := br (decide ((v3 : Int) < (y2.length : Int))) (vw .go <| vs (ir v3 y2.length 5) <| cp r4 v3 1 1 fun e5 => cs tp 58 [.ptr (0, 0) 0 0, vS e5.inn] [(0, 0)] [((0, 0), ⟨0, true, 76, 10, [vL Zar p0.files, vS p0.f.name, vS p0.f.space, vL Zah p0.f.imports, vL Zal p0.f.messages, vL Zag p0.f.enums, vL Zao p0.f.services, vL Zah p0.known, vL Zah p0.messages, vL Zag p0.enums]⟩)] (ZbF p0 e5.inn) (fun y => .tup [vS y.1, vI y.2]) fun y6 => br (!decide (y6.2 = (0 : Int))) (vw .go <| vw .go <| vs (frt y2.length r4) <| lrt E29 (G29 p0) ((.mk y1 r4 p1.notes : Svc), y6.2)) (cp r4 v3 2 1 fun e7 => cs tp 58 [.ptr (0, 0) 0 0, vS e7.out] [(0, 0)] [((0, 0), ⟨0, true, 76, 10, [vL Zar p0.files, vS p0.f.name, vS p0.f.space, vL Zah p0.f.imports, vL Zal p0.f.messages, vL Zag p0.f.enums, vL Zao p0.f.services, vL Zah p0.known, vL Zah p0.messages, vL Zag p0.enums]⟩)] (ZbF p0 e7.out) (fun y => .tup [vS y.1, vI y.2]) fun y8 => br (!decide (y8.2 = (0 : Int))) (vw .go <| vw .go <| vs (frt y2.length r4) <| lrt E29 (G29 p0) ((.mk y1 r4 p1.notes : Svc), y8.2)) (stp r4 v3 1 [(.str y6.1)] (fun e9 => (.mk e9.name y6.1 e9.out e9.shape e9.notes : Mth)) (fun _ => rfl) fun l10 => stp l10 v3 2 [(.str y8.1)] (fun e11 => (.mk e11.name e11.inn y8.1 e11.shape e11.notes : Mth)) (fun _ => rfl) fun l12 => vs (wa v3 1) <| vz (fl l12) <| ln (ZCj p0 p1 y1 y2) (v3 + 1, l12)))) (vz (fl r4) <| lxe (ZIM p0 p1 y1 y2) r4)
def ZsF := fun ((v3, r4) : Nat × List Mth) => (Zwm p0 p1 y1 y2 v3 r4).m
def ZDS (r13 : List Mth) : ZrE := vw .go <| vw .go <| vs (frt y2.length r13) <| lr E29 (G29 p0) ((.mk y1 r13 p1.notes : Svc), 0)
def ZBB : ZrE := vw .go <| vz (eqN y2.length) <| vz (fl y2) <| lc (ZCj p0 p1 y1 y2 (0, y2)) ((Zab (ZsF p0 p1 y1 y2) big (0, y2)).bind (Sum.elim (fun r13 => (ZDS p0 p1 y1 y2 r13).m) some))
def ZBI : ZrE := vw .go <| vz (fl y2) <| lc (mkS ZIf [((0, 0), (Zwc p0)), ((1, 3), (ZEP p1 y1 y2)), ((1, 4), Zym), ((1, 22), ⟨0, true, 59, 5, Zaa Zey y2⟩)]) ((ZBB p0 p1 y1 y2).m)
def ZDh : ZrE := vw .go <| lc (mkS [(0, .ptr (0, 0) 0 0), (3, .ptr (1, 3) 0 0), (4, .ptr (1, 4) 0 0), (21, vL Zey p1.methods)] (ZKD p0 p1 y1)) ((ZcM p1.methods).bind fun y2 => (ZBI p0 p1 y1 y2).m)
def ZCw : ZrE := vw .go <| vw .go <| cl (ZFp p0.f.space p1.name) fun y1 => vw .go <| lc (mkS ZIf (ZKD p0 p1 y1)) ((ZDh p0 p1 y1).m)
def Zba (p0 : Lnk) (p1 : Svc) : Option (Svc × Int) := (ZCw p0 p1).m
theorem ZFV (co : CO C 1) : Kl 70 C (pa [0, 0, 1, 0, 1, 1, 1] (Zac Try.f29)) [.cell 4 57, .tmp 5] 1 (ZCj p0 p1 y1 y2) (ZIM p0 p1 y1 y2) E29 (G29 p0) (ZsF p0 p1 y1 y2) := fun (v3, r4) _ m Q Post hQ L => en co (Zwm p0 p1 y1 y2 v3 r4) (lf2 [0, 3, 4, 26, 27] ZIT) (lf2 [3, 4] ZIT) hQ m L fun r g => ⟨fun e5 => ⟨fun y hy => Zbo (ZNd p0 e5.inn) hy co g [((0, 0), ⟨0, true, 76, 10, [vL Zar p0.files, vS p0.f.name, vS p0.f.space, vL Zah p0.f.imports, vL Zal p0.f.messages, vL Zag p0.f.enums, vL Zao p0.f.services, vL Zah p0.known, vL Zah p0.messages, vL Zag p0.enums]⟩)] [] (lkS []) (fun H' hg ho => trivial) (fun H => ⟨fun _ => ⟨rfl, by kernel_rfl⟩, by kernel_rfl, trivial⟩), fun y6 => ⟨id, fun e7 => ⟨fun y hy => Zbo (ZNd p0 e7.out) hy co g [((0, 0), ⟨0, true, 76, 10, [vL Zar p0.files, vS p0.f.name, vS p0.f.space, vL Zah p0.f.imports, vL Zal p0.f.messages, vL Zag p0.f.enums, vL Zao p0.f.services, vL Zah p0.known, vL Zah p0.messages, vL Zag p0.enums]⟩)] [] (lkS []) (fun H' hg ho => trivial) (fun H => ⟨fun _ => ⟨rfl, by kernel_rfl⟩, by kernel_rfl, trivial⟩), fun y8 => ⟨id, fun l10 l12 => id⟩⟩⟩⟩, id⟩
end
theorem ZOG (p0 : Lnk) (p1 : Svc) : KO tp 29 1 [.ptr (0, 0) 0 0, .agg ((Zao p1).map .d)] [⟨0, true, 76, 10, [vL Zar p0.files, vS p0.f.name, vS p0.f.space, vL Zah p0.f.imports, vL Zal p0.f.messages, vL Zag p0.f.enums, vL Zao p0.f.services, vL Zah p0.known, vL Zah p0.messages, vL Zag p0.enums]⟩] (fun _ _ _ _ => True) (Zba p0 p1) E29 (G29 p0) := ko1 Try.func29 Try.ntmps29 tok [.cell 4 57, .tmp 5] 1 (fun C co hT y m Post L => mi co 2 (ZCw p0 p1) (lf2 [0, 3, 4] [((0, 0), false), ((1, 3), false), ((1, 4), false)]) nl ii m L fun r g y1 _ m L => sq (rg (ZcD co tok 2 (ZDh p0 p1 y1) (lf2 [0, 3, 4, 21] [((0, 0), false), ((1, 3), false), ((1, 4), false)]) m L fun r g _ m L => Za0 co m 57 [vL Zey p1.methods] [(1, 22)] ([((1, 22), ⟨0, false, 0, 0, []⟩)] ++ []) (fun z => .ref (1, 22) 1 0 z.length) (fun z => [((1, 22), ⟨1, true, 59, 5, Zaa Zey z⟩)]) [] (fun z => trivial) (trivial) (fun z hz r g => Zai (ZOU p1.methods) hz co g [((1, 22), ⟨0, false, 0, 0, []⟩)] [] [((1, 22), ⟨1, true, 59, 5, Zaa Zey z⟩)] (lkS []) (fun H' hg ho => trivial) (fun H => ⟨(fun h => by cases h), by kernel_rfl, trivial⟩) (fun H => ⟨fun _ => ⟨rfl, bz⟩, by kernel_rfl, trivial⟩)) fun y2 m => Zct co tok (ZBI p0 p1 y1 y2) (lf2 [0, 3, 4] [((0, 0), false), ((1, 3), false), ((1, 4), false), ((1, 22), true)]) m L fun r g _ m L => sq (mi co 1 (ZBB p0 p1 y1 y2) (lf2 [0, 3, 4, 26, 27] [((0, 0), false), ((1, 3), false), ((1, 4), false), ((1, 22), true)]) nl ii m L fun r g _ m L => bk 0 (lo (lpF (ZFV p0 p1 y1 y2 co) ii m L (fun r13 m => fo co (ZDS p0 p1 y1 y2 r13) m L fun r g => id))))))) (hB := fun y => ⟨.inr (by kernel_rfl), rfl, trivial⟩)
section
variable {α : Type} [Rw α] [Tid α]
abbrev Zuq : List α → AV := fun y => .tup []
@[reducible] def Zuo : List α → List Blk := fun y => [⟨0, true, Tid.t α, Rw.s α, Zaa Rw.f y⟩]
def ZGR (pf3 : α → α → Option Int) : Cl := fun no l H θ => (∀ (z0 : α) (z1 : α) y, pf3 z0 z1 = some y → Zjj tp l no H (θ 3) [.agg ((Rw.f z0).map .d), .agg ((Rw.f z1).map .d)] (vI y))
section
variable (p0 : List α) (p1 p2 : Int) (pf3 : α → α → Option Int) (v1 : Int) (r2 : List α)
abbrev Zmu (α : Type) := PT 1 (Lv (Int × List α) (List α) (List α))
abbrev Zrs : List (Nat × AV) := [(0, .ref (0, 0) 0 0 p0.length), (1, vI p1), (2, vI p2), (3, .fn (.yield 3) [] []), (8, vI v1)]
def Zkr : Int × List α → St := fun (v1, r2) => mkS (Zrs p0 p1 p2 v1) [((0, 0), ⟨0, true, Tid.t α, Rw.s α, Zaa Rw.f r2⟩)]
def Zmq : List α → Nat × St := fun r11 => (0, mkS [] [((0, 0), ⟨0, true, Tid.t α, Rw.s α, Zaa Rw.f r11⟩)])
def Zj3 : Int × List α → St := fun (v3, r4) => mkS [(0, .ref (0, 0) 0 0 p0.length), (1, vI p1), (2, vI p2), (3, .fn (.yield 3) [] []), (8, vI v1), (9, vI v3)] [((0, 0), ⟨0, true, Tid.t α, Rw.s α, Zaa Rw.f r4⟩)]
def Zm9 : List α → Nat × St := fun r10 => (2, mkS (Zrs p0 p1 p2 v1) [((0, 0), ⟨0, true, Tid.t α, Rw.s α, Zaa Rw.f r10⟩)])
def ZfP (v3 : Int) (r4 : List α) : Zmu α := vg (decide (p1 < v3)) (iri v3 p0.length (Rw.s α)) <| cag (decide (p1 < v3)) r4 v3.toNat fun e5 => vg (decide (p1 < v3)) (wi (v3 - 1)) <| vg (decide (p1 < v3)) (iri (v3 - 1) p0.length (Rw.s α)) <| cag (decide (p1 < v3)) r4 (v3 - 1).toNat fun e6 => cfg (decide (p1 < v3)) tp 3 [.agg ((Rw.f e5).map .d), .agg ((Rw.f e6).map .d)] (pf3 e5 e6) (fun y => vI y) fun y7 => br (decide (p1 < v3) && decide (y7 < (0 : Int))) (vs (wi (v3 - 1)) <| vs (wi (v3 - 1)) <| vs (iri (v3 - 1) p0.length (Rw.s α)) <| ca r4 (v3 - 1).toNat fun e8 => vs (iri v3 p0.length (Rw.s α)) <| ca r4 v3.toNat fun e9 => vs (iri v3 p0.length (Rw.s α)) <| vs (st r4 v3.toNat e8) <| vwr 0 ((Rw.f (e8 : α)).map .d) (fun _ => ZfJ _) <| vs (iri (v3 - 1) p0.length (Rw.s α)) <| vs (st (r4.set v3.toNat e8) (v3 - 1).toNat e9) <| vwr 0 ((Rw.f (e9 : α)).map .d) (fun _ => ZfJ _) <| vs (wi (v3 - 1)) <| vz (fl ((r4.set v3.toNat e8).set (v3 - 1).toNat e9)) <| ln (Zj3 p0 p1 p2 v1) ((v3 - 1), (r4.set v3.toNat e8).set (v3 - 1).toNat e9)) (vz (fl r4) <| lxe (Zm9 p0 p1 p2 v1) r4)
def ZdF := fun ((v3, r4) : Int × List α) => (ZfP p0 p1 p2 pf3 v1 v3 r4).m
def Zib (r10 : List α) : Zmu α := vs (wi (v1 + 1)) <| vz (fl r10) <| ln (Zkr p0 p1 p2) ((v1 + 1), r10)
def Zh3 : Zmu α := vz (fl r2) <| lc (Zj3 p0 p1 p2 v1 (v1, r2)) ((Zab (ZdF p0 p1 p2 pf3 v1) big (v1, r2)).bind (Sum.elim (fun r10 => (Zib p0 p1 p2 v1 r10).m) (fun z => some (.rt z))))
def Zid : Zmu α := br (decide (v1 < p2)) (vz (fl r2) <| lc (mkS (Zrs p0 p1 p2 v1) [((0, 0), ⟨0, true, Tid.t α, Rw.s α, Zaa Rw.f r2⟩)]) ((Zh3 p0 p1 p2 pf3 v1 r2).m)) (vz (fl r2) <| lxe (Zmq) r2)
def Ze7 := fun ((v1, r2) : Int × List α) => (Zid p0 p1 p2 pf3 v1 r2).m
def ZjJ (r11 : List α) : PT 1 (List α) := lr Zuq (Zuo) r11
def ZjT : PT 1 (List α) := vs (wi (p1 + 1)) <| vz (fl p0) <| lc (Zkr p0 p1 p2 ((p1 + 1), p0)) ((Zab (Ze7 p0 p1 p2 pf3) big ((p1 + 1), p0)).bind (Sum.elim (fun r11 => (ZjJ r11).m) some))
def ZaB (p0 : List α) (p1 : Int) (p2 : Int) (pf3 : α → α → Option Int) : Option (List α) := (ZjT p0 p1 p2 pf3).m
end
end
section
variable {C : Cx} (co : CO C 1) (p0 : List Msg) (p1 p2 : Int) (pf3 : Msg → Msg → Option Int) (hT : (ZGR pf3) C.no C.l C.H0 C.θ)
section
include co hT
theorem ZwA (v1 : Int) : Kl 53 C (pa [0, 0, 1, 0, 0, 1, 0, 0, 1] (Zac Try.f122)) [] 1 (Zj3 p0 p1 p2 v1) (Zm9 p0 p1 p2 v1) Zuq (Zuo) (ZdF p0 p1 p2 pf3 v1) := fun (v3, r4) _ m Q Post hQ L => en co (ZfP p0 p1 p2 pf3 v1 v3 r4) (lf2 [0, 1, 2, 3, 8, 9] [((0, 0), true)]) (lf2 [0, 1, 2, 3, 8] [((0, 0), true)]) hQ m L fun r g e5 e6 => ⟨⟨fun y hy => hT _ _ y hy, by intro r; kernel_rfl, by intro r y; kernel_rfl⟩, fun y7 => ⟨fun e8 e9 => id, id⟩⟩
theorem Zve : Kl 53 C (pa [0, 0, 1] (Zac Try.f122)) [] 1 (Zkr p0 p1 p2) (Zmq) Zuq (Zuo) (Ze7 p0 p1 p2 pf3) := fun (v1, r2) _ m Q Post hQ L => mi co 1 (Zid p0 p1 p2 pf3 v1 r2) (lf2 [0, 1, 2, 3, 8] [((0, 0), true)]) (lf2 [] [((0, 0), true)]) hQ m L fun r g => ⟨fun _ m L => sq (bk 1 (mi co 1 (Zh3 p0 p1 p2 pf3 v1 r2) (lf2 [0, 1, 2, 3, 8, 9] [((0, 0), true)]) nl hQ m L fun r g _ m L => bk 2 (lo (lpL (ZwA co p0 p1 p2 pf3 hT v1) hQ m L (fun r10 m => en co (Zib p0 p1 p2 v1 r10) (lf2 [0, 1, 2, 3, 8] [((0, 0), true)]) nl hQ m L fun r g => id))))), id⟩
end
end
theorem ZIF (p0 : List Msg) (p1 : Int) (p2 : Int) (pf3 : Msg → Msg → Option Int) : KO tp 122 1 [.ref (0, 0) 0 0 p0.length, vI p1, vI p2, .fn (.yield 3) [] []] [⟨0, true, 39, 5, Zaa Zal p0⟩] (ZGR pf3) (ZaB p0 p1 p2 pf3) Zuq (Zuo) := ko1 Try.func122 Try.ntmps122 tok [] 1 (fun C co hT y m Post L => mi co 1 (ZjT p0 p1 p2 pf3) (lf2 [0, 1, 2, 3, 8] [((0, 0), true)]) nl ii m L fun r g _ m L => bk 0 (lo (lpF (Zve co p0 p1 p2 pf3 hT) ii m L (fun r11 m => Zfo (ZjJ r11) co m L (fun r g => id) r g)))) (hB := fun y => ⟨.inl (Zan _ _), rfl, trivial⟩)
section
variable {α : Type} [Rw α] [Tid α]
abbrev ZGB : List α → AV := fun y => .tup []
@[reducible] def ZEy : List α → List Blk := fun y => [⟨0, true, Tid.t α, Rw.s α, Zaa Rw.f y⟩]
section
variable (p0 : List α) (p1 p2 p3 : Int)
def ZkS : Nat × List α → St := fun (v1, r2) => mkS [(0, .ref (0, 0) 0 0 p0.length), (1, vI p1), (2, vI p2), (3, vI p3), (10, vN v1)] [((0, 0), ⟨0, true, Tid.t α, Rw.s α, Zaa Rw.f r2⟩)]
def Zmb : List α → Nat × St := fun r5 => (0, mkS [] [((0, 0), ⟨0, true, Tid.t α, Rw.s α, Zaa Rw.f r5⟩)])
def Zh4 (v1 : Nat) (r2 : List α) : PT 1 (Lv (Nat × List α) (List α) (List α)) := br (decide ((v1 : Int) < p3)) (vs (wi (p1 + (v1 : Int))) <| vs (wi (p2 + (v1 : Int))) <| vs (wi (p2 + (v1 : Int))) <| vs (iri (p2 + (v1 : Int)) p0.length (Rw.s α)) <| ca r2 (p2 + (v1 : Int)).toNat fun e3 => vs (wi (p1 + (v1 : Int))) <| vs (iri (p1 + (v1 : Int)) p0.length (Rw.s α)) <| ca r2 (p1 + (v1 : Int)).toNat fun e4 => vs (iri (p1 + (v1 : Int)) p0.length (Rw.s α)) <| vs (st r2 (p1 + (v1 : Int)).toNat e3) <| vwr 0 ((Rw.f (e3 : α)).map .d) (fun _ => ZfJ _) <| vs (iri (p2 + (v1 : Int)) p0.length (Rw.s α)) <| vs (st (r2.set (p1 + (v1 : Int)).toNat e3) (p2 + (v1 : Int)).toNat e4) <| vwr 0 ((Rw.f (e4 : α)).map .d) (fun _ => ZfJ _) <| vs (wa v1 1) <| vz (fl ((r2.set (p1 + (v1 : Int)).toNat e3).set (p2 + (v1 : Int)).toNat e4)) <| ln (ZkS p0 p1 p2 p3) (v1 + 1, (r2.set (p1 + (v1 : Int)).toNat e3).set (p2 + (v1 : Int)).toNat e4)) (vz (fl r2) <| lxe (Zmb) r2)
def ZfU := fun ((v1, r2) : Nat × List α) => (Zh4 p0 p1 p2 p3 v1 r2).m
def Zky (r5 : List α) : PT 1 (List α) := lr ZGB (ZEy) r5
def ZkX : PT 1 (List α) := vz (fl p0) <| lc (ZkS p0 p1 p2 p3 (0, p0)) ((Zab (ZfU p0 p1 p2 p3) big (0, p0)).bind (Sum.elim (fun r5 => (Zky r5).m) some))
def ZaL (p0 : List α) (p1 : Int) (p2 : Int) (p3 : Int) : Option (List α) := (ZkX p0 p1 p2 p3).m
end
end
section
variable {C : Cx}
theorem Zy4 (co : CO C 1) (p0 : List Msg) (p1 : Int) (p2 : Int) (p3 : Int) : Kl 38 C (pa [0, 0, 1] (Zac Try.f144)) [] 1 (ZkS p0 p1 p2 p3) (Zmb) ZGB (ZEy) (ZfU p0 p1 p2 p3) := fun (v1, r2) _ m Q Post hQ L => en co (Zh4 p0 p1 p2 p3 v1 r2) (lf2 [0, 1, 2, 3, 10] [((0, 0), true)]) (lf2 [] [((0, 0), true)]) hQ m L fun r g => ⟨fun e3 e4 => id, id⟩
end
theorem ZC1 (p0 : List Msg) (p1 : Int) (p2 : Int) (p3 : Int) : KO tp 144 1 [.ref (0, 0) 0 0 p0.length, vI p1, vI p2, vI p3, .fn (.yield 4) [] []] [⟨0, true, 39, 5, Zaa Zal p0⟩] (fun _ _ _ _ => True) (ZaL p0 p1 p2 p3) ZGB (ZEy) := ko1 Try.func144 Try.ntmps144 tok [] 1 (fun C co hT y m Post L => mi co 1 (ZkX p0 p1 p2 p3) (lf2 [0, 1, 2, 3, 10] [((0, 0), true)]) nl ii m L fun r g _ m L => bk 0 (lo (lpF (Zy4 co p0 p1 p2 p3) ii m L (fun r5 m => Zfo (Zky r5) co m L (fun r g => id) r g)))) (hB := fun y => ⟨.inl (Zan _ _), rfl, trivial⟩)
section
variable {α : Type} [Rw α] [Tid α]
abbrev ZEU : List α → AV := fun y => .tup []
@[reducible] def ZBQ : List α → List Blk := fun y => [⟨0, true, Tid.t α, Rw.s α, Zaa Rw.f y⟩]
section
variable (p0 : List α) (p2 v1 v2 : Int) (y4 r3 y5 y8 : List α)
abbrev ZfR (α : Type) := PT 1 (Lv (Int × Int × List α) (Int × List α) (List α))
abbrev Znz : List (Nat × AV) := [(0, .ref (0, 0) 0 0 p0.length), (2, vI p2), (4, .fn (.yield 4) [] []), (10, vI v1), (11, vI v2)]
abbrev ZsC : List (Key × Blk) := [((0, 0), ⟨0, true, Tid.t α, Rw.s α, Zaa Rw.f r3⟩)]
abbrev Zma (t : List (Nat × AV)) : List (Nat × AV) := (0, .ref (0, 0) 0 0 p0.length) :: (2, vI p2) :: (4, .fn (.yield 4) [] []) :: t
def Zic : Int × Int × List α → St := fun (v1, v2, r3) => mkS (Znz p0 p2 v1 v2) [((0, 0), ⟨0, true, Tid.t α, Rw.s α, Zaa Rw.f r3⟩)]
def Zmd : Int × List α → Nat × St := fun (v6, r7) => (0, mkS (Zma p0 p2 [(10, vI v6)]) [((0, 0), ⟨0, true, Tid.t α, Rw.s α, Zaa Rw.f r7⟩)])
def ZgO : ZfR α := vs (wi (v1 - v2)) <| vz (fl y4) <| ln (Zic p0 p2) ((v1 - v2), v2, y4)
def Zhk : ZfR α := vz (fl y4) <| lc (mkS (Znz p0 p2 v1 v2) [((0, 0), ⟨0, true, Tid.t α, Rw.s α, Zaa Rw.f y4⟩)]) ((ZgO p0 p2 v1 v2 y4).m)
def ZhA : ZfR α := vs (wi (p2 - v1)) <| vz (fl r3) <| lc (mkS (Zma p0 p2 [(10, vI v1), (11, vI v2), (24, .ref (0, 0) 0 0 p0.length), (27, vI (p2 - v1)), (28, vI p2), (29, vI v2), (30, .fn (.yield 4) [] [])]) (ZsC r3)) (if p0.length = r3.length then (ZaL r3 (p2 - v1) p2 v2).bind fun y4 => (Zhk p0 p2 v1 v2 y4).m else none)
def ZgB : ZfR α := vs (wi (v2 - v1)) <| vz (fl y5) <| ln (Zic p0 p2) (v1, (v2 - v1), y5)
def ZhD : ZfR α := vz (fl y5) <| lc (mkS (Znz p0 p2 v1 v2) [((0, 0), ⟨0, true, Tid.t α, Rw.s α, Zaa Rw.f y5⟩)]) ((ZgB p0 p2 v1 v2 y5).m)
def Zhb : ZfR α := vs (wi (p2 - v1)) <| vs (wi (p2 + v2)) <| vs (wi ((p2 + v2) - v1)) <| vz (fl r3) <| lc (mkS (Zma p0 p2 [(10, vI v1), (11, vI v2), (35, .ref (0, 0) 0 0 p0.length), (38, vI (p2 - v1)), (43, vI ((p2 + v2) - v1)), (44, vI v1), (45, .fn (.yield 4) [] [])]) (ZsC r3)) (if p0.length = r3.length then (ZaL r3 (p2 - v1) ((p2 + v2) - v1) v1).bind fun y5 => (ZhD p0 p2 v1 v2 y5).m else none)
def Zgp : ZfR α := vz (fl r3) <| lc (mkS (Zma p0 p2 [(10, vI v1), (11, vI v2), (23, vB (decide (v2 < v1)))]) (ZsC r3)) (if decide (v2 < v1) = true then (ZhA p0 p2 v1 v2 r3).m else (Zhb p0 p2 v1 v2 r3).m)
def ZgD : ZfR α := br (!decide (v1 = v2)) (vz (fl r3) <| lc (mkS (Znz p0 p2 v1 v2) [((0, 0), ⟨0, true, Tid.t α, Rw.s α, Zaa Rw.f r3⟩)]) ((Zgp p0 p2 v1 v2 r3).m)) (vz (fl r3) <| lxe (Zmd p0 p2) (v1, r3))
def Zej := fun ((v1, v2, r3) : Int × Int × List α) => (ZgD p0 p2 v1 v2 r3).m
def ZkK : PT 1 (List α) := lr ZEU (ZBQ) y8
def Zg6 : PT 1 (List α) := vz (fl y8) <| lc (mkS [] [((0, 0), ⟨0, true, Tid.t α, Rw.s α, Zaa Rw.f y8⟩)]) ((ZkK y8).m)
def Zho (v6 : Int) (r7 : List α) : PT 1 (List α) := vs (wi (p2 - v6)) <| vz (fl r7) <| lc (mkS [(50, .ref (0, 0) 0 0 p0.length), (53, vI (p2 - v6)), (54, vI p2), (55, vI v6), (56, .fn (.yield 4) [] [])] [((0, 0), ⟨0, true, Tid.t α, Rw.s α, Zaa Rw.f r7⟩)]) (if p0.length = r7.length then (ZaL r7 (p2 - v6) p2 v6).bind fun y8 => (Zg6 y8).m else none)
def Zhu (p1 : Int) (p3 : Int) : PT 1 (List α) := vs (wi (p2 - p1)) <| vs (wi (p3 - p2)) <| vz (fl p0) <| lc (Zic p0 p2 ((p2 - p1), (p3 - p2), p0)) ((Zab (Zej p0 p2) big ((p2 - p1), (p3 - p2), p0)).bind (Sum.elim (fun (v6, r7) => (Zho p0 p2 v6 r7).m) some))
def ZbM (p0 : List α) (p1 : Int) (p2 : Int) (p3 : Int) : Option (List α) := (Zhu p0 p2 p1 p3).m
end
end
section
variable {C : Cx}
theorem Zxy (co : CO C 1) (p0 : List Msg) (p2 : Int) : Kl 58 C (pa [0, 0, 0, 1, 1] (Zac Try.f137)) [] 1 (Zic p0 p2) (Zmd p0 p2) ZEU (ZBQ) (Zej p0 p2) := fun (v1, v2, r3) _ m Q Post hQ L => mi co 1 (ZgD p0 p2 v1 v2 r3) (lf2 [0, 2, 4, 10, 11] [((0, 0), true)]) (lf2 [0, 2, 4, 10] [((0, 0), true)]) hQ m L fun r g => ⟨fun _ m L => bk 1 (mi co 1 (Zgp p0 p2 v1 v2 r3) (lf2 [0, 2, 4, 10, 11, 23] [((0, 0), true)]) nl hQ m L fun r g _ m L => cd (decide (v2 < v1)) m (fun m => sq (rg (ZcD co tok 7 (ZhA p0 p2 v1 v2 r3) (lf2 [0, 2, 4, 10, 11, 24, 27, 28, 29, 30] [((0, 0), true)]) m L fun r g _ m L => ZeF m fun heq m => Za0 co m 144 [.ref (0, 0) 0 0 p0.length, vI (p2 - v1), vI p2, vI v2, .fn (.yield 4) [] []] [(0, 0)] ([((0, 0), ⟨0, true, 39, 5, Zaa Zal r3⟩)] ++ []) (fun z => .tup []) (fun z => [((0, 0), ⟨0, true, 39, 5, Zaa Zal z⟩)]) [] (fun z => ⟨co.W 0 (by decide), trivial⟩) (trivial) (fun z hz r g => Zai (ZC1 r3 (p2 - v1) p2 v2) hz co g [((0, 0), ⟨0, true, 39, 5, Zaa Zal r3⟩)] [] [((0, 0), ⟨0, true, 39, 5, Zaa Zal z⟩)] (lkS [(4, r.θ 4)]) (fun H' hg ho => trivial) (fun H => ⟨fun _ => ⟨rfl, bz⟩, by kernel_rfl, trivial⟩) (fun H => ⟨fun _ => ⟨rfl, bz⟩, by kernel_rfl, trivial⟩) (hx := by intro H; rw [heq]; kernel_rfl)) fun y4 m => Zct co tok (Zhk p0 p2 v1 v2 y4) (lf2 [0, 2, 4, 10, 11] [((0, 0), true)]) m L fun r g _ m L => en co (ZgO p0 p2 v1 v2 y4) (lf2 [0, 2, 4, 10, 11] [((0, 0), true)]) nl hQ m L fun r g => id))) (fun m => sq (rg (ZcD co tok 11 (Zhb p0 p2 v1 v2 r3) (lf2 [0, 2, 4, 10, 11, 35, 38, 43, 44, 45] [((0, 0), true)]) m L fun r g _ m L => ZeF m fun heq m => Za0 co m 144 [.ref (0, 0) 0 0 p0.length, vI (p2 - v1), vI ((p2 + v2) - v1), vI v1, .fn (.yield 4) [] []] [(0, 0)] ([((0, 0), ⟨0, true, 39, 5, Zaa Zal r3⟩)] ++ []) (fun z => .tup []) (fun z => [((0, 0), ⟨0, true, 39, 5, Zaa Zal z⟩)]) [] (fun z => ⟨co.W 0 (by decide), trivial⟩) (trivial) (fun z hz r g => Zai (ZC1 r3 (p2 - v1) ((p2 + v2) - v1) v1) hz co g [((0, 0), ⟨0, true, 39, 5, Zaa Zal r3⟩)] [] [((0, 0), ⟨0, true, 39, 5, Zaa Zal z⟩)] (lkS [(4, r.θ 4)]) (fun H' hg ho => trivial) (fun H => ⟨fun _ => ⟨rfl, bz⟩, by kernel_rfl, trivial⟩) (fun H => ⟨fun _ => ⟨rfl, bz⟩, by kernel_rfl, trivial⟩) (hx := by intro H; rw [heq]; kernel_rfl)) fun y5 m => Zct co tok (ZhD p0 p2 v1 v2 y5) (lf2 [0, 2, 4, 10, 11] [((0, 0), true)]) m L fun r g _ m L => en co (ZgB p0 p2 v1 v2 y5) (lf2 [0, 2, 4, 10, 11] [((0, 0), true)]) nl hQ m L fun r g => id)))), id⟩
end
theorem ZMh (p0 : List Msg) (p1 : Int) (p2 : Int) (p3 : Int) : KO tp 137 1 [.ref (0, 0) 0 0 p0.length, vI p1, vI p2, vI p3, .fn (.yield 4) [] []] [⟨0, true, 39, 5, Zaa Zal p0⟩] (fun _ _ _ _ => True) (ZbM p0 p1 p2 p3) ZEU (ZBQ) := ko1 Try.func137 Try.ntmps137 tok [] 1 (fun C co hT y m Post L => mi co 2 (Zhu p0 p2 p1 p3) (lf2 [0, 2, 4, 10, 11] [((0, 0), true)]) nl ii m L fun r g _ m L => sq (bk 0 (lo (lpF (Zxy co p0 p2) ii m L (fun (v6, r7) m => rg (ZcD co tok 7 (Zho p0 p2 v6 r7) (lf2 [50, 53, 54, 55, 56] [((0, 0), true)]) m L fun r g _ m L => ZeF m fun heq m => Za0 co m 144 [.ref (0, 0) 0 0 p0.length, vI (p2 - v6), vI p2, vI v6, .fn (.yield 4) [] []] [(0, 0)] ([((0, 0), ⟨0, true, 39, 5, Zaa Zal r7⟩)] ++ []) (fun z => .tup []) (fun z => [((0, 0), ⟨0, true, 39, 5, Zaa Zal z⟩)]) [] (fun z => ⟨co.W 0 (by decide), trivial⟩) (trivial) (fun z hz r g => Zai (ZC1 r7 (p2 - v6) p2 v6) hz co g [((0, 0), ⟨0, true, 39, 5, Zaa Zal r7⟩)] [] [((0, 0), ⟨0, true, 39, 5, Zaa Zal z⟩)] (lkS [(4, r.θ 4)]) (fun H' hg ho => trivial) (fun H => ⟨fun _ => ⟨rfl, bz⟩, by kernel_rfl, trivial⟩) (fun H => ⟨fun _ => ⟨rfl, bz⟩, by kernel_rfl, trivial⟩) (hx := by intro H; rw [heq]; kernel_rfl)) fun y8 m => Zct co tok (Zg6 y8) (lf2 [] [((0, 0), true)]) m L fun r g _ m L => Zfo (ZkK y8) co m L (fun r g => id) r g)))))) (hB := fun y => ⟨.inl (Zan _ _), rfl, trivial⟩)
section
variable {α : Type} [Rw α] [Tid α]
abbrev Zd6 : List α → AV := fun y => .tup []
@[reducible] def Zd5 : List α → List Blk := fun y => [⟨0, true, Tid.t α, Rw.s α, Zaa Rw.f y⟩]
def Zlw (pf4 : α → α → Option Int) : Cl := fun no l H θ => (∀ (z0 : α) (z1 : α) y, pf4 z0 z1 = some y → Zjj tp l no H (θ 4) [.agg ((Rw.f z0).map .d), .agg ((Rw.f z1).map .d)] (vI y))
section
variable (p0 : List α) (p1 p2 p3 : Int) (pf4 : α → α → Option Int) (R123 : (List α) → Int → Int → Int → (α → α → Option Int) → Option (List α)) (v6 v17 : Int) (y33 : List α) (v30 : Int) (y32 y31 y34 y36 y35 y37 : List α)
abbrev ZaJ (α : Type) := PT 1 (List α)
abbrev Zam : Int := (IntKind.i64.wrap (ZaD .u64 (IntKind.u64.wrap (p1 + p3)) 1))
abbrev Zcq : List (Key × Blk) := [((0, 0), ⟨0, true, Tid.t α, Rw.s α, Zaa Rw.f p0⟩)]
abbrev Zmv : List (Nat × AV) := [(0, .ref (0, 0) 0 0 p0.length), (3, vI p3), (4, .fn (.yield 4) [] []), (18, vI (Zam p1 p3)), (24, vI (((Zam p1 p3) + p2) - v30)), (213, vB (decide ((Zam p1 p3) < (((Zam p1 p3) + p2) - v30)) && decide ((((Zam p1 p3) + p2) - v30) < p3)))]
abbrev Zmo : List (Nat × AV) := [(214, .ref (0, 0) 0 0 p0.length), (215, vI (Zam p1 p3)), (216, vI (((Zam p1 p3) + p2) - v30)), (217, vI p3), (218, .fn (.yield 4) [] [])]
abbrev Zmy : List (Nat × AV) := [(0, .ref (0, 0) 0 0 p0.length), (3, vI p3), (4, .fn (.yield 4) [] []), (18, vI (Zam p1 p3)), (24, vI (((Zam p1 p3) + p2) - v30))]
abbrev ZAo : List (Nat × AV) := [(0, .ref (0, 0) 0 0 p0.length), (3, vI p3), (4, .fn (.yield 4) [] []), (18, vI (Zam p1 p3)), (24, vI (((Zam p1 p3) + p2) - v30)), (200, .ref (0, 0) 0 0 p0.length), (201, vI p1), (202, vI v30), (203, vI (Zam p1 p3)), (204, .fn (.yield 4) [] [])]
abbrev Zzv : List (Nat × AV) := [(0, .ref (0, 0) 0 0 p0.length), (1, vI p1), (3, vI p3), (4, .fn (.yield 4) [] []), (18, vI (Zam p1 p3)), (20, vI v30), (24, vI (((Zam p1 p3) + p2) - v30)), (199, vB (decide (p1 < v30) && decide (v30 < (Zam p1 p3))))]
abbrev ZzD : List (Nat × AV) := [(0, .ref (0, 0) 0 0 p0.length), (1, vI p1), (3, vI p3), (4, .fn (.yield 4) [] []), (18, vI (Zam p1 p3)), (20, vI v30), (24, vI (((Zam p1 p3) + p2) - v30))]
abbrev Zq1 : List (Nat × AV) := [(0, .ref (0, 0) 0 0 p0.length), (1, vI p1), (2, vI p2), (3, vI p3), (4, .fn (.yield 4) [] [])]
abbrev ZgR (t : List (Nat × AV)) : List (Nat × AV) := (0, .ref (0, 0) 0 0 p0.length) :: (1, vI p1) :: (2, vI p2) :: (3, vI p3) :: (4, .fn (.yield 4) [] []) :: t
def Zik : Int × Int → St := fun (v1, v2) => mkS [(0, .ref (0, 0) 0 0 p0.length), (1, vI p1), (4, .fn (.yield 4) [] []), (10, vI v1), (11, vI v2)] (Zcq p0)
def ZnG : Int → Nat × St := fun v6 => (0, mkS [(0, .ref (0, 0) 0 0 p0.length), (1, vI p1), (10, vI v6)] (Zcq p0))
def ZfL (v1 : Int) (v2 : Int) : PT 1 (Lv (Int × Int) (Int) (List α)) := br (decide (v1 < v2)) (vs (wi (v1 + v2)) <| vz (wk .u64 (v1 + v2)) <| shr .u64 (IntKind.u64.wrap (v1 + v2)) 1 <| vz (wk .i64 (ZaD .u64 (IntKind.u64.wrap (v1 + v2)) 1)) <| vs (iri (IntKind.i64.wrap (ZaD .u64 (IntKind.u64.wrap (v1 + v2)) 1)) p0.length (Rw.s α)) <| ca p0 (IntKind.i64.wrap (ZaD .u64 (IntKind.u64.wrap (v1 + v2)) 1)).toNat fun e3 => vs (iri p1 p0.length (Rw.s α)) <| ca p0 p1.toNat fun e4 => cf tp 4 [.agg ((Rw.f e3).map .d), .agg ((Rw.f e4).map .d)] (pf4 e3 e4) (fun y => vI y) fun y5 => br (decide (y5 < (0 : Int))) (vs (wi ((IntKind.i64.wrap (ZaD .u64 (IntKind.u64.wrap (v1 + v2)) 1)) + 1)) <| vz (fl p0) <| ln (Zik p0 p1) (((IntKind.i64.wrap (ZaD .u64 (IntKind.u64.wrap (v1 + v2)) 1)) + 1), v2)) (vz (fl p0) <| ln (Zik p0 p1) (v1, (IntKind.i64.wrap (ZaD .u64 (IntKind.u64.wrap (v1 + v2)) 1))))) (vz (fl p0) <| lxe (ZnG p0 p1) v1)
def Zel := fun ((v1, v2) : Int × Int) => (ZfL p0 p1 pf4 v1 v2).m
def ZkI : Int × List α → St := fun (v7, r8) => mkS [(0, .ref (0, 0) 0 0 p0.length), (10, vI v6), (13, vI v7)] [((0, 0), ⟨0, true, Tid.t α, Rw.s α, Zaa Rw.f r8⟩)]
def ZnN : List α → Nat × St := fun r11 => (2, mkS [] [((0, 0), ⟨0, true, Tid.t α, Rw.s α, Zaa Rw.f r11⟩)])
def Zhw (v7 : Int) (r8 : List α) : PT 1 (Lv (Int × List α) (List α) (List α)) := vs (wi (v6 - 1)) <| br (decide (v7 < (v6 - 1))) (vs (wi (v7 + 1)) <| vs (wi (v7 + 1)) <| vs (iri (v7 + 1) p0.length (Rw.s α)) <| ca r8 (v7 + 1).toNat fun e9 => vs (iri v7 p0.length (Rw.s α)) <| ca r8 v7.toNat fun e10 => vs (iri v7 p0.length (Rw.s α)) <| vs (st r8 v7.toNat e9) <| vwr 0 ((Rw.f (e9 : α)).map .d) (fun _ => ZfJ _) <| vs (iri (v7 + 1) p0.length (Rw.s α)) <| vs (st (r8.set v7.toNat e9) (v7 + 1).toNat e10) <| vwr 0 ((Rw.f (e10 : α)).map .d) (fun _ => ZfJ _) <| vs (wi (v7 + 1)) <| vz (fl ((r8.set v7.toNat e9).set (v7 + 1).toNat e10)) <| ln (ZkI p0 v6) ((v7 + 1), (r8.set v7.toNat e9).set (v7 + 1).toNat e10)) (vz (fl r8) <| lxe (ZnN) r8)
def Ze9 := fun ((v7, r8) : Int × List α) => (Zhw p0 v6 v7 r8).m
def Ziv (r11 : List α) : ZaJ α := lr Zd6 (Zd5) r11
def Zim : ZaJ α := vz (fl p0) <| lc (ZkI p0 v6 (p1, p0)) ((Zab (Ze9 p0 v6) big (p1, p0)).bind (Sum.elim (fun r11 => (Ziv r11).m) some))
def Zh7 : ZaJ α := vz (fl p0) <| lc (Zik p0 p1 (p2, p3)) ((Zab (Zel p0 p1 pf4) big (p2, p3)).bind (Sum.elim (fun v6 => (Zim p0 p1 v6).m) some))
def Zh1 : Int × Int → St := fun (v12, v13) => mkS [(0, .ref (0, 0) 0 0 p0.length), (2, vI p2), (4, .fn (.yield 4) [] []), (14, vI v12), (15, vI v13)] (Zcq p0)
def ZmY : Int → Nat × St := fun v17 => (4, mkS [(0, .ref (0, 0) 0 0 p0.length), (2, vI p2), (14, vI v17)] (Zcq p0))
def ZfM (v12 : Int) (v13 : Int) : PT 1 (Lv (Int × Int) (Int) (List α)) := br (decide (v12 < v13)) (vs (wi (v12 + v13)) <| vz (wk .u64 (v12 + v13)) <| shr .u64 (IntKind.u64.wrap (v12 + v13)) 1 <| vz (wk .i64 (ZaD .u64 (IntKind.u64.wrap (v12 + v13)) 1)) <| vs (iri p2 p0.length (Rw.s α)) <| ca p0 p2.toNat fun e14 => vs (iri (IntKind.i64.wrap (ZaD .u64 (IntKind.u64.wrap (v12 + v13)) 1)) p0.length (Rw.s α)) <| ca p0 (IntKind.i64.wrap (ZaD .u64 (IntKind.u64.wrap (v12 + v13)) 1)).toNat fun e15 => cf tp 4 [.agg ((Rw.f e14).map .d), .agg ((Rw.f e15).map .d)] (pf4 e14 e15) (fun y => vI y) fun y16 => br (!(decide (y16 < (0 : Int)))) (vs (wi ((IntKind.i64.wrap (ZaD .u64 (IntKind.u64.wrap (v12 + v13)) 1)) + 1)) <| vz (fl p0) <| ln (Zh1 p0 p2) (((IntKind.i64.wrap (ZaD .u64 (IntKind.u64.wrap (v12 + v13)) 1)) + 1), v13)) (vz (fl p0) <| ln (Zh1 p0 p2) (v12, (IntKind.i64.wrap (ZaD .u64 (IntKind.u64.wrap (v12 + v13)) 1))))) (vz (fl p0) <| lxe (ZmY p0 p2) v12)
def Zee := fun ((v12, v13) : Int × Int) => (ZfM p0 p2 pf4 v12 v13).m
def Zkg : Int × List α → St := fun (v18, r19) => mkS [(0, .ref (0, 0) 0 0 p0.length), (14, vI v17), (17, vI v18)] [((0, 0), ⟨0, true, Tid.t α, Rw.s α, Zaa Rw.f r19⟩)]
def Zn0 : List α → Nat × St := fun r22 => (6, mkS [] [((0, 0), ⟨0, true, Tid.t α, Rw.s α, Zaa Rw.f r22⟩)])
def ZfT (v18 : Int) (r19 : List α) : PT 1 (Lv (Int × List α) (List α) (List α)) := br (decide (v17 < v18)) (vs (wi (v18 - 1)) <| vs (wi (v18 - 1)) <| vs (iri (v18 - 1) p0.length (Rw.s α)) <| ca r19 (v18 - 1).toNat fun e20 => vs (iri v18 p0.length (Rw.s α)) <| ca r19 v18.toNat fun e21 => vs (iri v18 p0.length (Rw.s α)) <| vs (st r19 v18.toNat e20) <| vwr 0 ((Rw.f (e20 : α)).map .d) (fun _ => ZfJ _) <| vs (iri (v18 - 1) p0.length (Rw.s α)) <| vs (st (r19.set v18.toNat e20) (v18 - 1).toNat e21) <| vwr 0 ((Rw.f (e21 : α)).map .d) (fun _ => ZfJ _) <| vs (wi (v18 - 1)) <| vz (fl ((r19.set v18.toNat e20).set (v18 - 1).toNat e21)) <| ln (Zkg p0 v17) ((v18 - 1), (r19.set v18.toNat e20).set (v18 - 1).toNat e21)) (vz (fl r19) <| lxe (Zn0) r19)
def Zek := fun ((v18, r19) : Int × List α) => (ZfT p0 v17 v18 r19).m
def Ziu (r22 : List α) : ZaJ α := lr Zd6 (Zd5) r22
def ZhZ : ZaJ α := vz (fl p0) <| lc (Zkg p0 v17 (p2, p0)) ((Zab (Zek p0 v17) big (p2, p0)).bind (Sum.elim (fun r22 => (Ziu r22).m) some))
def ZfC : ZaJ α := vz (fl p0) <| lc (Zh1 p0 p2 (p1, p2)) ((Zab (Zee p0 p2 pf4) big (p1, p2)).bind (Sum.elim (fun v17 => (ZhZ p0 p2 v17).m) some))
def ZkJ : Int × Int → St := fun (v25, v26) => mkS (ZgR p0 p1 p2 p3 [(18, vI (Zam p1 p3)), (19, vI ((Zam p1 p3) + p2)), (20, vI v25), (21, vI v26), (22, vI (((Zam p1 p3) + p2) - 1))]) (Zcq p0)
def ZmZ : Int → Nat × St := fun v30 => (8, mkS (ZgR p0 p1 p2 p3 [(18, vI (Zam p1 p3)), (19, vI ((Zam p1 p3) + p2)), (20, vI v30)]) (Zcq p0))
def Zc7 (v25 : Int) (v26 : Int) : PT 1 (Lv (Int × Int) (Int) (List α)) := br (decide (v25 < v26)) (vs (wi (v25 + v26)) <| vz (wk .u64 (v25 + v26)) <| shr .u64 (IntKind.u64.wrap (v25 + v26)) 1 <| vz (wk .i64 (ZaD .u64 (IntKind.u64.wrap (v25 + v26)) 1)) <| vs (wi ((((Zam p1 p3) + p2) - 1) - (IntKind.i64.wrap (ZaD .u64 (IntKind.u64.wrap (v25 + v26)) 1)))) <| vs (iri ((((Zam p1 p3) + p2) - 1) - (IntKind.i64.wrap (ZaD .u64 (IntKind.u64.wrap (v25 + v26)) 1))) p0.length (Rw.s α)) <| ca p0 ((((Zam p1 p3) + p2) - 1) - (IntKind.i64.wrap (ZaD .u64 (IntKind.u64.wrap (v25 + v26)) 1))).toNat fun e27 => vs (iri (IntKind.i64.wrap (ZaD .u64 (IntKind.u64.wrap (v25 + v26)) 1)) p0.length (Rw.s α)) <| ca p0 (IntKind.i64.wrap (ZaD .u64 (IntKind.u64.wrap (v25 + v26)) 1)).toNat fun e28 => cf tp 4 [.agg ((Rw.f e27).map .d), .agg ((Rw.f e28).map .d)] (pf4 e27 e28) (fun y => vI y) fun y29 => br (!(decide (y29 < (0 : Int)))) (vs (wi ((IntKind.i64.wrap (ZaD .u64 (IntKind.u64.wrap (v25 + v26)) 1)) + 1)) <| vz (fl p0) <| ln (ZkJ p0 p1 p2 p3) (((IntKind.i64.wrap (ZaD .u64 (IntKind.u64.wrap (v25 + v26)) 1)) + 1), v26)) (vz (fl p0) <| ln (ZkJ p0 p1 p2 p3) (v25, (IntKind.i64.wrap (ZaD .u64 (IntKind.u64.wrap (v25 + v26)) 1))))) (vz (fl p0) <| lxe (ZmZ p0 p1 p2 p3) v25)
def ZcF := fun ((v25, v26) : Int × Int) => (Zc7 p0 p1 p2 p3 pf4 v25 v26).m
def ZgV : ZaJ α := lr Zd6 (Zd5) y33
def Zg1 : ZaJ α := vz (fl y33) <| lc (mkS [] [((0, 0), ⟨0, true, Tid.t α, Rw.s α, Zaa Rw.f y33⟩)]) ((ZgV y33).m)
def ZgF : ZaJ α := vz (fl y32) <| lc (mkS (Zmo p0 p1 p2 p3 v30) [((0, 0), ⟨0, true, Tid.t α, Rw.s α, Zaa Rw.f y32⟩)]) (if p0.length = y32.length then (R123 y32 (Zam p1 p3) (((Zam p1 p3) + p2) - v30) p3 pf4).bind fun y33 => (Zg1 y33).m else none)
def ZgH : ZaJ α := lr Zd6 (Zd5) y32
def Zgn : ZaJ α := vz (fl y32) <| lc (mkS (Zmv p0 p1 p2 p3 v30) [((0, 0), ⟨0, true, Tid.t α, Rw.s α, Zaa Rw.f y32⟩)]) (if (decide ((Zam p1 p3) < (((Zam p1 p3) + p2) - v30)) && decide ((((Zam p1 p3) + p2) - v30) < p3)) = true then (ZgF p0 p1 p2 p3 pf4 R123 v30 y32).m else (ZgH y32).m)
def Zgr : ZaJ α := vz (fl y32) <| lc (mkS (Zmy p0 p1 p2 p3 v30) [((0, 0), ⟨0, true, Tid.t α, Rw.s α, Zaa Rw.f y32⟩)]) ((Zgn p0 p1 p2 p3 pf4 R123 v30 y32).m)
def Zgs : ZaJ α := vz (fl y31) <| lc (mkS (ZAo p0 p1 p2 p3 v30) [((0, 0), ⟨0, true, Tid.t α, Rw.s α, Zaa Rw.f y31⟩)]) (if p0.length = y31.length then (R123 y31 p1 v30 (Zam p1 p3) pf4).bind fun y32 => (Zgr p0 p1 p2 p3 pf4 R123 v30 y32).m else none)
def Zhq : ZaJ α := lr Zd6 (Zd5) y34
def ZgY : ZaJ α := vz (fl y34) <| lc (mkS [] [((0, 0), ⟨0, true, Tid.t α, Rw.s α, Zaa Rw.f y34⟩)]) ((Zhq y34).m)
def ZgX : ZaJ α := vz (fl y31) <| lc (mkS (Zmo p0 p1 p2 p3 v30) [((0, 0), ⟨0, true, Tid.t α, Rw.s α, Zaa Rw.f y31⟩)]) (if p0.length = y31.length then (R123 y31 (Zam p1 p3) (((Zam p1 p3) + p2) - v30) p3 pf4).bind fun y34 => (ZgY y34).m else none)
def ZhC : ZaJ α := lr Zd6 (Zd5) y31
def Zgl : ZaJ α := vz (fl y31) <| lc (mkS (Zmv p0 p1 p2 p3 v30) [((0, 0), ⟨0, true, Tid.t α, Rw.s α, Zaa Rw.f y31⟩)]) (if (decide ((Zam p1 p3) < (((Zam p1 p3) + p2) - v30)) && decide ((((Zam p1 p3) + p2) - v30) < p3)) = true then (ZgX p0 p1 p2 p3 pf4 R123 v30 y31).m else (ZhC y31).m)
def Zgx : ZaJ α := vz (fl y31) <| lc (mkS (Zmy p0 p1 p2 p3 v30) [((0, 0), ⟨0, true, Tid.t α, Rw.s α, Zaa Rw.f y31⟩)]) ((Zgl p0 p1 p2 p3 pf4 R123 v30 y31).m)
def ZgK : ZaJ α := vz (fl y31) <| lc (mkS (Zzv p0 p1 p2 p3 v30) [((0, 0), ⟨0, true, Tid.t α, Rw.s α, Zaa Rw.f y31⟩)]) (if (decide (p1 < v30) && decide (v30 < (Zam p1 p3))) = true then (Zgs p0 p1 p2 p3 pf4 R123 v30 y31).m else (Zgx p0 p1 p2 p3 pf4 R123 v30 y31).m)
def ZgT : ZaJ α := vz (fl y31) <| lc (mkS (ZzD p0 p1 p2 p3 v30) [((0, 0), ⟨0, true, Tid.t α, Rw.s α, Zaa Rw.f y31⟩)]) ((ZgK p0 p1 p2 p3 pf4 R123 v30 y31).m)
def Zha : ZaJ α := vz (fl p0) <| lc (mkS [(0, .ref (0, 0) 0 0 p0.length), (1, vI p1), (3, vI p3), (4, .fn (.yield 4) [] []), (18, vI (Zam p1 p3)), (20, vI v30), (24, vI (((Zam p1 p3) + p2) - v30)), (186, .ref (0, 0) 0 0 p0.length), (187, vI v30), (188, vI p2), (189, vI (((Zam p1 p3) + p2) - v30)), (190, .fn (.yield 4) [] [])] (Zcq p0)) ((ZbM p0 v30 p2 (((Zam p1 p3) + p2) - v30)).bind fun y31 => (ZgT p0 p1 p2 p3 pf4 R123 v30 y31).m)
def ZgC : ZaJ α := lr Zd6 (Zd5) y36
def Zg4 : ZaJ α := vz (fl y36) <| lc (mkS [] [((0, 0), ⟨0, true, Tid.t α, Rw.s α, Zaa Rw.f y36⟩)]) ((ZgC y36).m)
def Zhx : ZaJ α := vz (fl y35) <| lc (mkS (Zmo p0 p1 p2 p3 v30) [((0, 0), ⟨0, true, Tid.t α, Rw.s α, Zaa Rw.f y35⟩)]) (if p0.length = y35.length then (R123 y35 (Zam p1 p3) (((Zam p1 p3) + p2) - v30) p3 pf4).bind fun y36 => (Zg4 y36).m else none)
def ZhB : ZaJ α := lr Zd6 (Zd5) y35
def ZgA : ZaJ α := vz (fl y35) <| lc (mkS (Zmv p0 p1 p2 p3 v30) [((0, 0), ⟨0, true, Tid.t α, Rw.s α, Zaa Rw.f y35⟩)]) (if (decide ((Zam p1 p3) < (((Zam p1 p3) + p2) - v30)) && decide ((((Zam p1 p3) + p2) - v30) < p3)) = true then (Zhx p0 p1 p2 p3 pf4 R123 v30 y35).m else (ZhB y35).m)
def Zhm : ZaJ α := vz (fl y35) <| lc (mkS (Zmy p0 p1 p2 p3 v30) [((0, 0), ⟨0, true, Tid.t α, Rw.s α, Zaa Rw.f y35⟩)]) ((ZgA p0 p1 p2 p3 pf4 R123 v30 y35).m)
def Zhy : ZaJ α := vz (fl p0) <| lc (mkS (ZAo p0 p1 p2 p3 v30) (Zcq p0)) ((R123 p0 p1 v30 (Zam p1 p3) pf4).bind fun y35 => (Zhm p0 p1 p2 p3 pf4 R123 v30 y35).m)
def Zhp : ZaJ α := lr Zd6 (Zd5) y37
def Zhl : ZaJ α := vz (fl y37) <| lc (mkS [] [((0, 0), ⟨0, true, Tid.t α, Rw.s α, Zaa Rw.f y37⟩)]) ((Zhp y37).m)
def Zg9 : ZaJ α := vz (fl p0) <| lc (mkS (Zmo p0 p1 p2 p3 v30) (Zcq p0)) ((R123 p0 (Zam p1 p3) (((Zam p1 p3) + p2) - v30) p3 pf4).bind fun y37 => (Zhl y37).m)
def Zgq : ZaJ α := lr Zd6 (Zd5) p0
def ZgS : ZaJ α := vz (fl p0) <| lc (mkS (Zmv p0 p1 p2 p3 v30) (Zcq p0)) (if (decide ((Zam p1 p3) < (((Zam p1 p3) + p2) - v30)) && decide ((((Zam p1 p3) + p2) - v30) < p3)) = true then (Zg9 p0 p1 p2 p3 pf4 R123 v30).m else (Zgq p0).m)
def Zhc : ZaJ α := vz (fl p0) <| lc (mkS (Zmy p0 p1 p2 p3 v30) (Zcq p0)) ((ZgS p0 p1 p2 p3 pf4 R123 v30).m)
def Zgo : ZaJ α := vz (fl p0) <| lc (mkS (Zzv p0 p1 p2 p3 v30) (Zcq p0)) (if (decide (p1 < v30) && decide (v30 < (Zam p1 p3))) = true then (Zhy p0 p1 p2 p3 pf4 R123 v30).m else (Zhc p0 p1 p2 p3 pf4 R123 v30).m)
def ZgJ : ZaJ α := vz (fl p0) <| lc (mkS (ZzD p0 p1 p2 p3 v30) (Zcq p0)) ((Zgo p0 p1 p2 p3 pf4 R123 v30).m)
def ZgP : ZaJ α := vz (fl p0) <| lc (mkS (ZgR p0 p1 p2 p3 [(18, vI (Zam p1 p3)), (20, vI v30), (24, vI (((Zam p1 p3) + p2) - v30)), (185, vB (decide (v30 < p2) && decide (p2 < (((Zam p1 p3) + p2) - v30))))]) (Zcq p0)) (if (decide (v30 < p2) && decide (p2 < (((Zam p1 p3) + p2) - v30))) = true then (Zha p0 p1 p2 p3 pf4 R123 v30).m else (ZgJ p0 p1 p2 p3 pf4 R123 v30).m)
def Zfm : ZaJ α := vs (wi (((Zam p1 p3) + p2) - v30)) <| vz (fl p0) <| lc (mkS (ZgR p0 p1 p2 p3 [(18, vI (Zam p1 p3)), (20, vI v30), (24, vI (((Zam p1 p3) + p2) - v30))]) (Zcq p0)) ((ZgP p0 p1 p2 p3 pf4 R123 v30).m)
def Zff : Int × Int → St := fun (v23, v24) => mkS (ZgR p0 p1 p2 p3 [(18, vI (Zam p1 p3)), (19, vI ((Zam p1 p3) + p2)), (20, vI v23), (21, vI v24), (22, vI (((Zam p1 p3) + p2) - 1))]) (Zcq p0)
def ZcS : Int × Int → Option (List α) := fun (v23, v24) => (Zab (ZcF p0 p1 p2 p3 pf4) big (v23, v24)).bind (Sum.elim (fun v30 => (Zfm p0 p1 p2 p3 pf4 R123 v30).m) some)
def ZeV : ZaJ α := vs (wi (p1 + p3)) <| vz (wk .u64 (p1 + p3)) <| shr .u64 (IntKind.u64.wrap (p1 + p3)) 1 <| vz (wk .i64 (ZaD .u64 (IntKind.u64.wrap (p1 + p3)) 1)) <| vs (wi ((Zam p1 p3) + p2)) <| br (decide ((Zam p1 p3) < p2)) (vs (wi (((Zam p1 p3) + p2) - p3)) <| vs (wi (((Zam p1 p3) + p2) - 1)) <| vz (fl p0) <| lc (Zff p0 p1 p2 p3 ((((Zam p1 p3) + p2) - p3), (Zam p1 p3))) (ZcS p0 p1 p2 p3 pf4 R123 ((((Zam p1 p3) + p2) - p3), (Zam p1 p3)))) (vs (wi (((Zam p1 p3) + p2) - 1)) <| vz (fl p0) <| lc (Zff p0 p1 p2 p3 (p1, p2)) (ZcS p0 p1 p2 p3 pf4 R123 (p1, p2)))
def ZeN : ZaJ α := vz (fl p0) <| lc (mkS (Zq1 p0 p1 p2 p3) (Zcq p0)) ((ZeV p0 p1 p2 p3 pf4 R123).m)
def Zd9 : ZaJ α := vs (wi (p3 - p2)) <| vz (fl p0) <| lc (mkS (ZgR p0 p1 p2 p3 [(80, vB (decide ((p3 - p2) = (1 : Int))))]) (Zcq p0)) (if decide ((p3 - p2) = (1 : Int)) = true then (ZfC p0 p1 p2 pf4).m else (ZeN p0 p1 p2 p3 pf4 R123).m)
def Zd7 : ZaJ α := vz (fl p0) <| lc (mkS (Zq1 p0 p1 p2 p3) (Zcq p0)) ((Zd9 p0 p1 p2 p3 pf4 R123).m)
def Zdx : ZaJ α := vs (wi (p2 - p1)) <| vz (fl p0) <| lc (mkS (ZgR p0 p1 p2 p3 [(28, vB (decide ((p2 - p1) = (1 : Int))))]) (Zcq p0)) (if decide ((p2 - p1) = (1 : Int)) = true then (Zh7 p0 p1 p2 p3 pf4).m else (Zd7 p0 p1 p2 p3 pf4 R123).m)
end
def Zy7 (R123 : (List α) → Int → Int → Int → (α → α → Option Int) → Option (List α)) (p0 : List α) (p1 : Int) (p2 : Int) (p3 : Int) (pf4 : α → α → Option Int) : Option (List α) := (Zdx p0 p1 p2 p3 pf4 R123).m
end
section
variable {C : Cx} (co : CO C 1) (p0 : List Msg) (p1 p2 : Int) (pf4 : Msg → Msg → Option Int) (R123 : (List Msg) → Int → Int → Int → (Msg → Msg → Option Int) → Option (List Msg)) (hR : ∀ (p0 : List Msg) (p1 : Int) (p2 : Int) (p3 : Int) (pf4 : Msg → Msg → Option Int), KO tp 123 1 [.ref (0, 0) 0 0 p0.length, vI p1, vI p2, vI p3, .fn (.yield 4) [] []] [⟨0, true, 39, 5, Zaa Zal p0⟩] (Zlw pf4) (R123 p0 p1 p2 p3 pf4) Zd6 (Zd5)) (hT : (Zlw pf4) C.no C.l C.H0 C.θ)
section
include co hR hT
theorem ZvF : Kl 220 C (pa [0, 0, 0, 1, 1, 0, 1, 0] (Zac Try.f123)) [] 1 (Zik p0 p1) (ZnG p0 p1) Zd6 (Zd5) (Zel p0 p1 pf4) := fun (v1, v2) _ m Q Post hQ L => en co (ZfL p0 p1 pf4 v1 v2) (lf2 [0, 1, 4, 10, 11] [((0, 0), true)]) (lf2 [0, 1, 10] [((0, 0), true)]) hQ m L fun r g => ⟨fun e3 e4 => ⟨⟨fun y hy => hT _ _ y hy, by intro r; kernel_rfl, by intro r y; kernel_rfl⟩, fun y5 => ⟨id, id⟩⟩, id⟩
theorem ZxU (v6 : Int) : Kl 220 C (pa [0, 0, 1, 0, 1, 1, 1, 0, 1, 0] (Zac Try.f123)) [] 1 (ZkI p0 v6) (ZnN) Zd6 (Zd5) (Ze9 p0 v6) := fun (v7, r8) _ m Q Post hQ L => en co (Zhw p0 v6 v7 r8) (lf2 [0, 10, 13] [((0, 0), true)]) (lf2 [] [((0, 0), true)]) hQ m L fun r g => ⟨fun e9 e10 => id, id⟩
theorem ZvV : Kl 220 C (pa [0, 0, 0, 1, 1, 0, 1, 0, 1] (Zac Try.f123)) [] 1 (Zh1 p0 p2) (ZmY p0 p2) Zd6 (Zd5) (Zee p0 p2 pf4) := fun (v12, v13) _ m Q Post hQ L => en co (ZfM p0 p2 pf4 v12 v13) (lf2 [0, 2, 4, 14, 15] [((0, 0), true)]) (lf2 [0, 2, 14] [((0, 0), true)]) hQ m L fun r g => ⟨fun e14 e15 => ⟨⟨fun y hy => hT _ _ y hy, by intro r; kernel_rfl, by intro r y; kernel_rfl⟩, fun y16 => ⟨id, id⟩⟩, id⟩
theorem ZuW (v17 : Int) : Kl 220 C (pa [0, 0, 1, 0, 1, 1, 1, 0, 1, 0, 1] (Zac Try.f123)) [] 1 (Zkg p0 v17) (Zn0) Zd6 (Zd5) (Zek p0 v17) := fun (v18, r19) _ m Q Post hQ L => en co (ZfT p0 v17 v18 r19) (lf2 [0, 14, 17] [((0, 0), true)]) (lf2 [] [((0, 0), true)]) hQ m L fun r g => ⟨fun e20 e21 => id, id⟩
theorem ZwK (p3 : Int) : Kl 220 C (pa [0, 0, 0, 1, 1, 1, 1, 1, 1, 1] (Zac Try.f123)) [] 1 (ZkJ p0 p1 p2 p3) (ZmZ p0 p1 p2 p3) Zd6 (Zd5) (ZcF p0 p1 p2 p3 pf4) := fun (v25, v26) _ m Q Post hQ L => en co (Zc7 p0 p1 p2 p3 pf4 v25 v26) (lf2 [0, 1, 2, 3, 4, 18, 19, 20, 21, 22] [((0, 0), true)]) (lf2 [0, 1, 2, 3, 4, 18, 19, 20] [((0, 0), true)]) hQ m L fun r g => ⟨fun e27 e28 => ⟨⟨fun y hy => hT _ _ y hy, by intro r; kernel_rfl, by intro r y; kernel_rfl⟩, fun y29 => ⟨id, id⟩⟩, id⟩
end
end
theorem ZH5 (R123 : (List Msg) → Int → Int → Int → (Msg → Msg → Option Int) → Option (List Msg)) (hR : ∀ (p0 : List Msg) (p1 : Int) (p2 : Int) (p3 : Int) (pf4 : Msg → Msg → Option Int), KO tp 123 1 [.ref (0, 0) 0 0 p0.length, vI p1, vI p2, vI p3, .fn (.yield 4) [] []] [⟨0, true, 39, 5, Zaa Zal p0⟩] (Zlw pf4) (R123 p0 p1 p2 p3 pf4) Zd6 (Zd5)) (p0 : List Msg) (p1 : Int) (p2 : Int) (p3 : Int) (pf4 : Msg → Msg → Option Int) : KO tp 123 1 [.ref (0, 0) 0 0 p0.length, vI p1, vI p2, vI p3, .fn (.yield 4) [] []] [⟨0, true, 39, 5, Zaa Zal p0⟩] (Zlw pf4) (Zy7 R123 p0 p1 p2 p3 pf4) Zd6 (Zd5) := ko1 Try.func123 Try.ntmps123 tok [] 1 (fun C co hT y m Post L => sq (mi co 1 (Zdx p0 p1 p2 p3 pf4 R123) (lf2 [0, 1, 2, 3, 4, 28] [((0, 0), true)]) nl ii m L fun r g _ m L => cd (decide ((p2 - p1) = (1 : Int))) m (fun m => mi co 2 (Zh7 p0 p1 p2 p3 pf4) (lf2 [0, 1, 4, 10, 11] [((0, 0), true)]) nl ii m L fun r g _ m L => sq (bk 0 (lo (lpF (ZvF co p0 p1 pf4 R123 hR hT) ii m L (fun v6 m => sq (mi co 1 (Zim p0 p1 v6) (lf2 [0, 10, 13] [((0, 0), true)]) nl ii m L fun r g _ m L => bk 2 (lo (lpF (ZxU co p0 pf4 R123 hR hT v6) ii m L (fun r11 m => en co (Ziv r11) nl nl ii m L fun r g => id))))))))) (fun m => en co (Zd7 p0 p1 p2 p3 pf4 R123) (lf2 [0, 1, 2, 3, 4] [((0, 0), true)]) nl ii m L fun r g _ m L => sq (mi co 1 (Zd9 p0 p1 p2 p3 pf4 R123) (lf2 [0, 1, 2, 3, 4, 80] [((0, 0), true)]) nl ii m L fun r g _ m L => cd (decide ((p3 - p2) = (1 : Int))) m (fun m => mi co 2 (ZfC p0 p1 p2 pf4) (lf2 [0, 2, 4, 14, 15] [((0, 0), true)]) nl ii m L fun r g _ m L => sq (bk 4 (lo (lpF (ZvV co p0 p2 pf4 R123 hR hT) ii m L (fun v17 m => sq (mi co 1 (ZhZ p0 p2 v17) (lf2 [0, 14, 17] [((0, 0), true)]) nl ii m L fun r g _ m L => bk 6 (lo (lpF (ZuW co p0 pf4 R123 hR hT v17) ii m L (fun r22 m => en co (Ziu r22) nl nl ii m L fun r g => id))))))))) (fun m => en co (ZeN p0 p1 p2 p3 pf4 R123) (lf2 [0, 1, 2, 3, 4] [((0, 0), true)]) nl ii m L fun r g _ m L => ZwU co tok tmo 5 (ZeV p0 p1 p2 p3 pf4 R123) (lf2 [0, 1, 2, 3, 4, 18, 19, 20, 21, 22] [((0, 0), true)]) nl ii m L (Zff p0 p1 p2 p3) (ZcS p0 p1 p2 p3 pf4 R123) (fun (v23, v24) _ m L => sq (bk 8 (lo (lpF (ZwK co p0 p1 p2 pf4 R123 hR hT p3) ii m L (fun v30 m => mi co 1 (Zfm p0 p1 p2 p3 pf4 R123 v30) (lf2 [0, 1, 2, 3, 4, 18, 20, 24] [((0, 0), true)]) nl ii m L fun r g _ m L => sq (mi co 1 (ZgP p0 p1 p2 p3 pf4 R123 v30) (lf2 [0, 1, 2, 3, 4, 18, 20, 24, 185] [((0, 0), true)]) nl ii m L fun r g _ m L => cd (decide (v30 < p2) && decide (p2 < (((IntKind.i64.wrap (ZaD .u64 (IntKind.u64.wrap (p1 + p3)) 1)) + p2) - v30))) m (fun m => rg (ZcD co tok 5 (Zha p0 p1 p2 p3 pf4 R123 v30) (lf2 [0, 1, 3, 4, 18, 20, 24, 186, 187, 188, 189, 190] [((0, 0), true)]) m L fun r g _ m L => Za0 co m 137 [.ref (0, 0) 0 0 p0.length, vI v30, vI p2, vI (((IntKind.i64.wrap (ZaD .u64 (IntKind.u64.wrap (p1 + p3)) 1)) + p2) - v30), .fn (.yield 4) [] []] [(0, 0)] ([((0, 0), ⟨0, true, 39, 5, Zaa Zal p0⟩)] ++ []) (fun z => .tup []) (fun z => [((0, 0), ⟨0, true, 39, 5, Zaa Zal z⟩)]) [] (fun z => ⟨co.W 0 (by decide), trivial⟩) (trivial) (fun z hz r g => Zai (ZMh p0 v30 p2 (((IntKind.i64.wrap (ZaD .u64 (IntKind.u64.wrap (p1 + p3)) 1)) + p2) - v30)) hz co g [((0, 0), ⟨0, true, 39, 5, Zaa Zal p0⟩)] [] [((0, 0), ⟨0, true, 39, 5, Zaa Zal z⟩)] (lkS [(4, r.θ 4)]) (fun H' hg ho => trivial) (fun H => ⟨fun _ => ⟨rfl, bz⟩, by kernel_rfl, trivial⟩) (fun H => ⟨fun _ => ⟨rfl, bz⟩, by kernel_rfl, trivial⟩)) fun y31 m => Zct co tok (ZgT p0 p1 p2 p3 pf4 R123 v30 y31) (lf2 [0, 1, 3, 4, 18, 20, 24] [((0, 0), true)]) m L fun r g _ m L => sq (mi co 1 (ZgK p0 p1 p2 p3 pf4 R123 v30 y31) (lf2 [0, 1, 3, 4, 18, 20, 24, 199] [((0, 0), true)]) nl ii m L fun r g _ m L => cd (decide (p1 < v30) && decide (v30 < (IntKind.i64.wrap (ZaD .u64 (IntKind.u64.wrap (p1 + p3)) 1)))) m (fun m => rg (ZcD co tok 5 (Zgs p0 p1 p2 p3 pf4 R123 v30 y31) (lf2 [0, 3, 4, 18, 24, 200, 201, 202, 203, 204] [((0, 0), true)]) m L fun r g _ m L => ZeF m fun heq m => Za0 co m 123 [.ref (0, 0) 0 0 p0.length, vI p1, vI v30, vI (IntKind.i64.wrap (ZaD .u64 (IntKind.u64.wrap (p1 + p3)) 1)), .fn (.yield 4) [] []] [(0, 0)] ([((0, 0), ⟨0, true, 39, 5, Zaa Zal y31⟩)] ++ []) (fun z => .tup []) (fun z => [((0, 0), ⟨0, true, 39, 5, Zaa Zal z⟩)]) [] (fun z => ⟨co.W 0 (by decide), trivial⟩) (trivial) (fun z hz r g => Zai (hR y31 p1 v30 (IntKind.i64.wrap (ZaD .u64 (IntKind.u64.wrap (p1 + p3)) 1)) pf4) hz co g [((0, 0), ⟨0, true, 39, 5, Zaa Zal y31⟩)] [] [((0, 0), ⟨0, true, 39, 5, Zaa Zal z⟩)] (lkS [(4, r.θ 4)]) (fun H' hg ho => (fun z0 z1 y hz => Za8 co g [((0, 0), ⟨0, true, 39, 5, Zaa Zal y31⟩)] ho (hT z0 z1 y hz))) (fun H => ⟨fun _ => ⟨rfl, bz⟩, by kernel_rfl, trivial⟩) (fun H => ⟨fun _ => ⟨rfl, bz⟩, by kernel_rfl, trivial⟩) (hx := by intro H; rw [heq]; kernel_rfl)) fun y32 m => Zct co tok (Zgr p0 p1 p2 p3 pf4 R123 v30 y32) (lf2 [0, 3, 4, 18, 24] [((0, 0), true)]) m L fun r g _ m L => mi co 1 (Zgn p0 p1 p2 p3 pf4 R123 v30 y32) (lf2 [0, 3, 4, 18, 24, 213] [((0, 0), true)]) nl ii m L fun r g _ m L => cd (decide ((IntKind.i64.wrap (ZaD .u64 (IntKind.u64.wrap (p1 + p3)) 1)) < (((IntKind.i64.wrap (ZaD .u64 (IntKind.u64.wrap (p1 + p3)) 1)) + p2) - v30)) && decide ((((IntKind.i64.wrap (ZaD .u64 (IntKind.u64.wrap (p1 + p3)) 1)) + p2) - v30) < p3)) m (fun m => rg (ZcD co tok 5 (ZgF p0 p1 p2 p3 pf4 R123 v30 y32) (lf2 [214, 215, 216, 217, 218] [((0, 0), true)]) m L fun r g _ m L => ZeF m fun heq m => Za0 co m 123 [.ref (0, 0) 0 0 p0.length, vI (IntKind.i64.wrap (ZaD .u64 (IntKind.u64.wrap (p1 + p3)) 1)), vI (((IntKind.i64.wrap (ZaD .u64 (IntKind.u64.wrap (p1 + p3)) 1)) + p2) - v30), vI p3, .fn (.yield 4) [] []] [(0, 0)] ([((0, 0), ⟨0, true, 39, 5, Zaa Zal y32⟩)] ++ []) (fun z => .tup []) (fun z => [((0, 0), ⟨0, true, 39, 5, Zaa Zal z⟩)]) [] (fun z => ⟨co.W 0 (by decide), trivial⟩) (trivial) (fun z hz r g => Zai (hR y32 (IntKind.i64.wrap (ZaD .u64 (IntKind.u64.wrap (p1 + p3)) 1)) (((IntKind.i64.wrap (ZaD .u64 (IntKind.u64.wrap (p1 + p3)) 1)) + p2) - v30) p3 pf4) hz co g [((0, 0), ⟨0, true, 39, 5, Zaa Zal y32⟩)] [] [((0, 0), ⟨0, true, 39, 5, Zaa Zal z⟩)] (lkS [(4, r.θ 4)]) (fun H' hg ho => (fun z0 z1 y hz => Za8 co g [((0, 0), ⟨0, true, 39, 5, Zaa Zal y32⟩)] ho (hT z0 z1 y hz))) (fun H => ⟨fun _ => ⟨rfl, bz⟩, by kernel_rfl, trivial⟩) (fun H => ⟨fun _ => ⟨rfl, bz⟩, by kernel_rfl, trivial⟩) (hx := by intro H; rw [heq]; kernel_rfl)) fun y33 m => Zct co tok (Zg1 y33) (lf2 [] [((0, 0), true)]) m L fun r g _ m L => Zfo (ZgV y33) co m L (fun r g => id) r g)) (fun m => fo co (ZgH y32) m L fun r g => id))) (fun m => en co (Zgx p0 p1 p2 p3 pf4 R123 v30 y31) (lf2 [0, 3, 4, 18, 24] [((0, 0), true)]) nl ii m L fun r g _ m L => mi co 1 (Zgl p0 p1 p2 p3 pf4 R123 v30 y31) (lf2 [0, 3, 4, 18, 24, 213] [((0, 0), true)]) nl ii m L fun r g _ m L => cd (decide ((IntKind.i64.wrap (ZaD .u64 (IntKind.u64.wrap (p1 + p3)) 1)) < (((IntKind.i64.wrap (ZaD .u64 (IntKind.u64.wrap (p1 + p3)) 1)) + p2) - v30)) && decide ((((IntKind.i64.wrap (ZaD .u64 (IntKind.u64.wrap (p1 + p3)) 1)) + p2) - v30) < p3)) m (fun m => rg (ZcD co tok 5 (ZgX p0 p1 p2 p3 pf4 R123 v30 y31) (lf2 [214, 215, 216, 217, 218] [((0, 0), true)]) m L fun r g _ m L => ZeF m fun heq m => Za0 co m 123 [.ref (0, 0) 0 0 p0.length, vI (IntKind.i64.wrap (ZaD .u64 (IntKind.u64.wrap (p1 + p3)) 1)), vI (((IntKind.i64.wrap (ZaD .u64 (IntKind.u64.wrap (p1 + p3)) 1)) + p2) - v30), vI p3, .fn (.yield 4) [] []] [(0, 0)] ([((0, 0), ⟨0, true, 39, 5, Zaa Zal y31⟩)] ++ []) (fun z => .tup []) (fun z => [((0, 0), ⟨0, true, 39, 5, Zaa Zal z⟩)]) [] (fun z => ⟨co.W 0 (by decide), trivial⟩) (trivial) (fun z hz r g => Zai (hR y31 (IntKind.i64.wrap (ZaD .u64 (IntKind.u64.wrap (p1 + p3)) 1)) (((IntKind.i64.wrap (ZaD .u64 (IntKind.u64.wrap (p1 + p3)) 1)) + p2) - v30) p3 pf4) hz co g [((0, 0), ⟨0, true, 39, 5, Zaa Zal y31⟩)] [] [((0, 0), ⟨0, true, 39, 5, Zaa Zal z⟩)] (lkS [(4, r.θ 4)]) (fun H' hg ho => (fun z0 z1 y hz => Za8 co g [((0, 0), ⟨0, true, 39, 5, Zaa Zal y31⟩)] ho (hT z0 z1 y hz))) (fun H => ⟨fun _ => ⟨rfl, bz⟩, by kernel_rfl, trivial⟩) (fun H => ⟨fun _ => ⟨rfl, bz⟩, by kernel_rfl, trivial⟩) (hx := by intro H; rw [heq]; kernel_rfl)) fun y34 m => Zct co tok (ZgY y34) (lf2 [] [((0, 0), true)]) m L fun r g _ m L => Zfo (Zhq y34) co m L (fun r g => id) r g)) (fun m => fo co (ZhC y31) m L fun r g => id))))) (fun m => en co (ZgJ p0 p1 p2 p3 pf4 R123 v30) (lf2 [0, 1, 3, 4, 18, 20, 24] [((0, 0), true)]) nl ii m L fun r g _ m L => sq (mi co 1 (Zgo p0 p1 p2 p3 pf4 R123 v30) (lf2 [0, 1, 3, 4, 18, 20, 24, 199] [((0, 0), true)]) nl ii m L fun r g _ m L => cd (decide (p1 < v30) && decide (v30 < (IntKind.i64.wrap (ZaD .u64 (IntKind.u64.wrap (p1 + p3)) 1)))) m (fun m => rg (ZcD co tok 5 (Zhy p0 p1 p2 p3 pf4 R123 v30) (lf2 [0, 3, 4, 18, 24, 200, 201, 202, 203, 204] [((0, 0), true)]) m L fun r g _ m L => Za0 co m 123 [.ref (0, 0) 0 0 p0.length, vI p1, vI v30, vI (IntKind.i64.wrap (ZaD .u64 (IntKind.u64.wrap (p1 + p3)) 1)), .fn (.yield 4) [] []] [(0, 0)] ([((0, 0), ⟨0, true, 39, 5, Zaa Zal p0⟩)] ++ []) (fun z => .tup []) (fun z => [((0, 0), ⟨0, true, 39, 5, Zaa Zal z⟩)]) [] (fun z => ⟨co.W 0 (by decide), trivial⟩) (trivial) (fun z hz r g => Zai (hR p0 p1 v30 (IntKind.i64.wrap (ZaD .u64 (IntKind.u64.wrap (p1 + p3)) 1)) pf4) hz co g [((0, 0), ⟨0, true, 39, 5, Zaa Zal p0⟩)] [] [((0, 0), ⟨0, true, 39, 5, Zaa Zal z⟩)] (lkS [(4, r.θ 4)]) (fun H' hg ho => (fun z0 z1 y hz => Za8 co g [((0, 0), ⟨0, true, 39, 5, Zaa Zal p0⟩)] ho (hT z0 z1 y hz))) (fun H => ⟨fun _ => ⟨rfl, bz⟩, by kernel_rfl, trivial⟩) (fun H => ⟨fun _ => ⟨rfl, bz⟩, by kernel_rfl, trivial⟩)) fun y35 m => Zct co tok (Zhm p0 p1 p2 p3 pf4 R123 v30 y35) (lf2 [0, 3, 4, 18, 24] [((0, 0), true)]) m L fun r g _ m L => mi co 1 (ZgA p0 p1 p2 p3 pf4 R123 v30 y35) (lf2 [0, 3, 4, 18, 24, 213] [((0, 0), true)]) nl ii m L fun r g _ m L => cd (decide ((IntKind.i64.wrap (ZaD .u64 (IntKind.u64.wrap (p1 + p3)) 1)) < (((IntKind.i64.wrap (ZaD .u64 (IntKind.u64.wrap (p1 + p3)) 1)) + p2) - v30)) && decide ((((IntKind.i64.wrap (ZaD .u64 (IntKind.u64.wrap (p1 + p3)) 1)) + p2) - v30) < p3)) m (fun m => rg (ZcD co tok 5 (Zhx p0 p1 p2 p3 pf4 R123 v30 y35) (lf2 [214, 215, 216, 217, 218] [((0, 0), true)]) m L fun r g _ m L => ZeF m fun heq m => Za0 co m 123 [.ref (0, 0) 0 0 p0.length, vI (IntKind.i64.wrap (ZaD .u64 (IntKind.u64.wrap (p1 + p3)) 1)), vI (((IntKind.i64.wrap (ZaD .u64 (IntKind.u64.wrap (p1 + p3)) 1)) + p2) - v30), vI p3, .fn (.yield 4) [] []] [(0, 0)] ([((0, 0), ⟨0, true, 39, 5, Zaa Zal y35⟩)] ++ []) (fun z => .tup []) (fun z => [((0, 0), ⟨0, true, 39, 5, Zaa Zal z⟩)]) [] (fun z => ⟨co.W 0 (by decide), trivial⟩) (trivial) (fun z hz r g => Zai (hR y35 (IntKind.i64.wrap (ZaD .u64 (IntKind.u64.wrap (p1 + p3)) 1)) (((IntKind.i64.wrap (ZaD .u64 (IntKind.u64.wrap (p1 + p3)) 1)) + p2) - v30) p3 pf4) hz co g [((0, 0), ⟨0, true, 39, 5, Zaa Zal y35⟩)] [] [((0, 0), ⟨0, true, 39, 5, Zaa Zal z⟩)] (lkS [(4, r.θ 4)]) (fun H' hg ho => (fun z0 z1 y hz => Za8 co g [((0, 0), ⟨0, true, 39, 5, Zaa Zal y35⟩)] ho (hT z0 z1 y hz))) (fun H => ⟨fun _ => ⟨rfl, bz⟩, by kernel_rfl, trivial⟩) (fun H => ⟨fun _ => ⟨rfl, bz⟩, by kernel_rfl, trivial⟩) (hx := by intro H; rw [heq]; kernel_rfl)) fun y36 m => Zct co tok (Zg4 y36) (lf2 [] [((0, 0), true)]) m L fun r g _ m L => Zfo (ZgC y36) co m L (fun r g => id) r g)) (fun m => fo co (ZhB y35) m L fun r g => id))) (fun m => en co (Zhc p0 p1 p2 p3 pf4 R123 v30) (lf2 [0, 3, 4, 18, 24] [((0, 0), true)]) nl ii m L fun r g _ m L => mi co 1 (ZgS p0 p1 p2 p3 pf4 R123 v30) (lf2 [0, 3, 4, 18, 24, 213] [((0, 0), true)]) nl ii m L fun r g _ m L => cd (decide ((IntKind.i64.wrap (ZaD .u64 (IntKind.u64.wrap (p1 + p3)) 1)) < (((IntKind.i64.wrap (ZaD .u64 (IntKind.u64.wrap (p1 + p3)) 1)) + p2) - v30)) && decide ((((IntKind.i64.wrap (ZaD .u64 (IntKind.u64.wrap (p1 + p3)) 1)) + p2) - v30) < p3)) m (fun m => rg (ZcD co tok 5 (Zg9 p0 p1 p2 p3 pf4 R123 v30) (lf2 [214, 215, 216, 217, 218] [((0, 0), true)]) m L fun r g _ m L => Za0 co m 123 [.ref (0, 0) 0 0 p0.length, vI (IntKind.i64.wrap (ZaD .u64 (IntKind.u64.wrap (p1 + p3)) 1)), vI (((IntKind.i64.wrap (ZaD .u64 (IntKind.u64.wrap (p1 + p3)) 1)) + p2) - v30), vI p3, .fn (.yield 4) [] []] [(0, 0)] ([((0, 0), ⟨0, true, 39, 5, Zaa Zal p0⟩)] ++ []) (fun z => .tup []) (fun z => [((0, 0), ⟨0, true, 39, 5, Zaa Zal z⟩)]) [] (fun z => ⟨co.W 0 (by decide), trivial⟩) (trivial) (fun z hz r g => Zai (hR p0 (IntKind.i64.wrap (ZaD .u64 (IntKind.u64.wrap (p1 + p3)) 1)) (((IntKind.i64.wrap (ZaD .u64 (IntKind.u64.wrap (p1 + p3)) 1)) + p2) - v30) p3 pf4) hz co g [((0, 0), ⟨0, true, 39, 5, Zaa Zal p0⟩)] [] [((0, 0), ⟨0, true, 39, 5, Zaa Zal z⟩)] (lkS [(4, r.θ 4)]) (fun H' hg ho => (fun z0 z1 y hz => Za8 co g [((0, 0), ⟨0, true, 39, 5, Zaa Zal p0⟩)] ho (hT z0 z1 y hz))) (fun H => ⟨fun _ => ⟨rfl, bz⟩, by kernel_rfl, trivial⟩) (fun H => ⟨fun _ => ⟨rfl, bz⟩, by kernel_rfl, trivial⟩)) fun y37 m => Zct co tok (Zhl y37) (lf2 [] [((0, 0), true)]) m L fun r g _ m L => Zfo (Zhp y37) co m L (fun r g => id) r g)) (fun m => fo co (Zgq p0) m L fun r g => id)))))))))) fun J45 r g => ⟨J45 ((((IntKind.i64.wrap (ZaD .u64 (IntKind.u64.wrap (p1 + p3)) 1)) + p2) - p3), (IntKind.i64.wrap (ZaD .u64 (IntKind.u64.wrap (p1 + p3)) 1))), J45 (p1, p2)⟩))))) (hB := fun y => ⟨.inl (Zan _ _), rfl, trivial⟩)
section
variable {α : Type} [Rw α] [Tid α]
def Zau : Nat → (List α) → Int → Int → Int → (α → α → Option Int) → Option (List α)
 | 0 => fun _ _ _ _ _ => none
 | fu + 1 => Zy7 (Zau fu)
end
theorem ZA8 : ∀ (fu : Nat) (p0 : List Msg) (p1 : Int) (p2 : Int) (p3 : Int) (pf4 : Msg → Msg → Option Int), KO tp 123 1 [.ref (0, 0) 0 0 p0.length, vI p1, vI p2, vI p3, .fn (.yield 4) [] []] [⟨0, true, 39, 5, Zaa Zal p0⟩] (Zlw pf4) (Zau fu p0 p1 p2 p3 pf4) Zd6 (Zd5)
 | 0, p0, p1, p2, p3, pf4 => ⟨fun _ _ _ _ _ _ _ _ _ _ _ h => by cases h⟩
 | fu + 1, p0, p1, p2, p3, pf4 => ZH5 (Zau fu) (ZA8 fu) p0 p1 p2 p3 pf4
section
variable {α : Type} [Rw α] [Tid α]
abbrev E95 : List α → AV := fun y => .tup []
@[reducible] def G95 : List α → List Blk := fun y => [⟨0, true, Tid.t α, Rw.s α, Zaa Rw.f y⟩]
def H95 (pf2 : α → α → Option Int) : Cl := fun no l H θ => (∀ (z0 : α) (z1 : α) y, pf2 z0 z1 = some y → Zjj tp l no H (θ 2) [.agg ((Rw.f z0).map .d), .agg ((Rw.f z1).map .d)] (vI y))
section
variable (p0 : List α) (p1 : Int) (pf2 : α → α → Option Int) (v2 : Nat) (y4 : List α) (v1 : Nat) (r3 : List α) (v8 v11 : Nat) (y13 : List α) (v10 : Nat) (r12 y16 : List α) (v14 : Nat) (r15 r9 : List α)
abbrev ZjW (α : Type) := PT 1 (Lv (Nat × Nat × List α) (Nat × List α) (List α))
abbrev Zjo (α : Type) := PT 1 (Lv (Nat × List α) (List α) (List α))
abbrev Zw1 : List (Nat × AV) := [(0, .ref (0, 0) 0 0 p0.length), (1, vI p1), (2, .fn (.yield 2) [] []), (6, vN v8)]
abbrev ZEm : List (Key × Blk) := [((0, 0), ⟨0, true, Tid.t α, Rw.s α, Zaa Rw.f r3⟩)]
abbrev ZBz : List (Key × Blk) := [((0, 0), ⟨0, true, Tid.t α, Rw.s α, Zaa Rw.f r12⟩)]
abbrev ZEW : List (Key × Blk) := [((0, 0), ⟨0, true, Tid.t α, Rw.s α, Zaa Rw.f r15⟩)]
abbrev ZIr : List (Nat × AV) := [(0, .ref (0, 0) 0 0 p0.length), (1, vI p1), (2, .fn (.yield 2) [] []), (6, vI 20), (7, vN v1), (8, vN v2)]
abbrev ZHr : List (Nat × AV) := [(0, .ref (0, 0) 0 0 p0.length), (1, vI p1), (2, .fn (.yield 2) [] []), (6, vN v8), (7, vN v10), (8, vN v11)]
abbrev ZiM (t : List (Nat × AV)) : List (Nat × AV) := (0, .ref (0, 0) 0 0 p0.length) :: (1, vI p1) :: (2, .fn (.yield 2) [] []) :: t
def Zss : Nat × Nat × List α → St := fun (v1, v2, r3) => mkS (ZIr p0 p1 v2 v1) (ZEm r3)
def ZvI : Nat × List α → Nat × St := fun (v5, r6) => (0, mkS (ZiM p0 p1 [(6, vI 20), (7, vN v5)]) [((0, 0), ⟨0, true, Tid.t α, Rw.s α, Zaa Rw.f r6⟩)])
def Zoz : ZjW α := vs (wa v2 20) <| vz (fl y4) <| ln (Zss p0 p1) (v2, v2 + 20, y4)
def Zpa : ZjW α := vz (fl y4) <| lc (mkS (ZiM p0 p1 [(6, vI 20), (8, vN v2)]) [((0, 0), ⟨0, true, Tid.t α, Rw.s α, Zaa Rw.f y4⟩)]) ((Zoz p0 p1 v2 y4).m)
def Zp3 : ZjW α := vz (fl r3) <| lc (mkS (ZiM p0 p1 [(6, vI 20), (8, vN v2), (14, .ref (0, 0) 0 0 p0.length), (15, vN v1), (16, vN v2), (17, .fn (.yield 2) [] [])]) (ZEm r3)) (if p0.length = r3.length then (ZaB r3 (v1 : Int) (v2 : Int) pf2).bind fun y4 => (Zpa p0 p1 v2 y4).m else none)
def ZoP : ZjW α := br (decide ((v2 : Int) ≤ p1)) (vz (fl r3) <| lc (mkS (ZIr p0 p1 v2 v1) (ZEm r3)) ((Zp3 p0 p1 pf2 v2 v1 r3).m)) (vz (fl r3) <| lxe (ZvI p0 p1) (v1, r3))
def Zi8 := fun ((v1, v2, r3) : Nat × Nat × List α) => (ZoP p0 p1 pf2 v2 v1 r3).m
def Zom : Nat × List α → St := fun (v8, r9) => mkS (Zw1 p0 p1 v8) [((0, 0), ⟨0, true, Tid.t α, Rw.s α, Zaa Rw.f r9⟩)]
def ZxY : List α → Nat × St := fun r17 => (2, mkS [] [((0, 0), ⟨0, true, Tid.t α, Rw.s α, Zaa Rw.f r17⟩)])
def Zsk : Nat × Nat × List α → St := fun (v10, v11, r12) => mkS (ZHr p0 p1 v8 v11 v10) (ZBz r12)
def Zwt : Nat × List α → Nat × St := fun (v14, r15) => (4, mkS (ZiM p0 p1 [(6, vN v8), (7, vN v14)]) (ZEW r15))
def ZpC : ZjW α := vs (wm 2 v8) <| vs (wa v11 (2 * v8)) <| vz (fl y13) <| ln (Zsk p0 p1 v8) (v11, v11 + (2 * v8), y13)
def Zon : ZjW α := vz (fl y13) <| lc (mkS (ZiM p0 p1 [(6, vN v8), (8, vN v11)]) [((0, 0), ⟨0, true, Tid.t α, Rw.s α, Zaa Rw.f y13⟩)]) ((ZpC p0 p1 v8 v11 y13).m)
def Zo0 : ZjW α := vs (wa v10 v8) <| vz (fl r12) <| lc (mkS (ZiM p0 p1 [(6, vN v8), (8, vN v11), (36, .ref (0, 0) 0 0 p0.length), (37, vN v10), (40, vN (v10 + v8)), (41, vN v11), (42, .fn (.yield 2) [] [])]) (ZBz r12)) (if p0.length = r12.length then (Zau ((v11 : Int) - (v10 : Int) + 1).toNat r12 (v10 : Int) ((v10 + v8 : Nat) : Int) (v11 : Int) pf2).bind fun y13 => (Zon p0 p1 v8 v11 y13).m else none)
def Zo2 : ZjW α := br (decide ((v11 : Int) ≤ p1)) (vz (fl r12) <| lc (mkS (ZHr p0 p1 v8 v11 v10) (ZBz r12)) ((Zo0 p0 p1 pf2 v8 v11 v10 r12).m)) (vz (fl r12) <| lxe (Zwt p0 p1 v8) (v10, r12))
def Zje := fun ((v10, v11, r12) : Nat × Nat × List α) => (Zo2 p0 p1 pf2 v8 v11 v10 r12).m
def Zlt : Zjo α := vs (wm v8 2) <| vz (fl y16) <| ln (Zom p0 p1) (v8 * 2, y16)
def Zhv : Zjo α := vz (fl y16) <| lc (mkS (Zw1 p0 p1 v8) [((0, 0), ⟨0, true, Tid.t α, Rw.s α, Zaa Rw.f y16⟩)]) ((Zlt p0 p1 v8 y16).m)
def ZgN : Zjo α := vz (fl r15) <| lc (mkS (ZiM p0 p1 [(6, vN v8), (55, .ref (0, 0) 0 0 p0.length), (56, vN v14), (57, vN (v14 + v8)), (58, vI p1), (59, .fn (.yield 2) [] [])]) (ZEW r15)) (if p0.length = r15.length then (Zau (p1 - (v14 : Int) + 1).toNat r15 (v14 : Int) ((v14 + v8 : Nat) : Int) p1 pf2).bind fun y16 => (Zhv p0 p1 v8 y16).m else none)
def ZgE : Zjo α := vs (wm v8 2) <| vz (fl r15) <| ln (Zom p0 p1) (v8 * 2, r15)
def ZgI : Zjo α := vz (fl r15) <| lc (mkS (Zw1 p0 p1 v8) [((0, 0), ⟨0, true, Tid.t α, Rw.s α, Zaa Rw.f r15⟩)]) ((ZgE p0 p1 v8 r15).m)
def Zg5 : Zjo α := vs (wa v14 v8) <| vz (fl r15) <| lc (mkS (ZiM p0 p1 [(6, vN v8), (7, vN v14), (9, vN (v14 + v8)), (54, vB (decide (((v14 + v8 : Nat) : Int) < p1)))]) (ZEW r15)) (if decide (((v14 + v8 : Nat) : Int) < p1) = true then (ZgN p0 p1 pf2 v8 v14 r15).m else (ZgI p0 p1 v8 r15).m)
def Zg3 : Zjo α := vs (wm 2 v8) <| vz (fl r9) <| lc (Zsk p0 p1 v8 (0, 2 * v8, r9)) ((Zab (Zje p0 p1 pf2 v8) big (0, 2 * v8, r9)).bind (Sum.elim (fun (v14, r15) => (Zg5 p0 p1 pf2 v8 v14 r15).m) (fun z => some (.rt z))))
def ZgL : Zjo α := br (decide ((v8 : Int) < p1)) (vz (fl r9) <| lc (mkS (Zw1 p0 p1 v8) [((0, 0), ⟨0, true, Tid.t α, Rw.s α, Zaa Rw.f r9⟩)]) ((Zg3 p0 p1 pf2 v8 r9).m)) (vz (fl r9) <| lxe (ZxY) r9)
def ZgU := fun ((v8, r9) : Nat × List α) => (ZgL p0 p1 pf2 v8 r9).m
def Zkw (r17 : List α) : PT 1 (List α) := lr E95 (G95) r17
def Zjr (y7 : List α) : PT 1 (List α) := vz (fl y7) <| lc (Zom p0 p1 (20, y7)) ((Zab (ZgU p0 p1 pf2) big (20, y7)).bind (Sum.elim (fun r17 => (Zkw r17).m) some))
def ZkE (v5 : Nat) (r6 : List α) : PT 1 (List α) := vz (fl r6) <| lc (mkS (ZiM p0 p1 [(6, vI 20), (23, .ref (0, 0) 0 0 p0.length), (24, vN v5), (25, vI p1), (26, .fn (.yield 2) [] [])]) [((0, 0), ⟨0, true, Tid.t α, Rw.s α, Zaa Rw.f r6⟩)]) (if p0.length = r6.length then (ZaB r6 (v5 : Int) p1 pf2).bind fun y7 => (Zjr p0 p1 pf2 y7).m else none)
def ZjI : PT 1 (List α) := vz (fl p0) <| lc (Zss p0 p1 (0, 20, p0)) ((Zab (Zi8 p0 p1 pf2) big (0, 20, p0)).bind (Sum.elim (fun (v5, r6) => (ZkE p0 p1 pf2 v5 r6).m) some))
def Zce (p0 : List α) (p1 : Int) (pf2 : α → α → Option Int) : Option (List α) := (ZjI p0 p1 pf2).m
end
end
section
variable {C : Cx} (co : CO C 1) (p0 : List Msg) (p1 : Int) (pf2 : Msg → Msg → Option Int) (hT : (H95 pf2) C.no C.l C.H0 C.θ)
section
include co hT
theorem ZEn : Kl 63 C (pa [0, 0, 0, 1, 1] (Zac Try.f95)) [] 1 (Zss p0 p1) (ZvI p0 p1) E95 (G95) (Zi8 p0 p1 pf2) := fun (v1, v2, r3) _ m Q Post hQ L => mi co 1 (ZoP p0 p1 pf2 v2 v1 r3) (lf2 [0, 1, 2, 6, 7, 8] [((0, 0), true)]) (lf2 [0, 1, 2, 6, 7] [((0, 0), true)]) hQ m L fun r g => ⟨fun _ m L => bk 1 (sq (rg (ZcD co tok 4 (Zp3 p0 p1 pf2 v2 v1 r3) (lf2 [0, 1, 2, 6, 8, 14, 15, 16, 17] [((0, 0), true)]) m L fun r g _ m L => ZeF m fun heq m => Za0 co m 122 [.ref (0, 0) 0 0 p0.length, vN v1, vN v2, .fn (.yield 2) [] []] [(0, 0)] ([((0, 0), ⟨0, true, 39, 5, Zaa Zal r3⟩)] ++ []) (fun z => .tup []) (fun z => [((0, 0), ⟨0, true, 39, 5, Zaa Zal z⟩)]) [] (fun z => ⟨co.W 0 (by decide), trivial⟩) (trivial) (fun z hz r g => Zai (ZIF r3 (v1 : Int) (v2 : Int) pf2) hz co g [((0, 0), ⟨0, true, 39, 5, Zaa Zal r3⟩)] [] [((0, 0), ⟨0, true, 39, 5, Zaa Zal z⟩)] (lkS [(3, r.θ 2)]) (fun H' hg ho => (fun z0 z1 y hz => Za8 co g [((0, 0), ⟨0, true, 39, 5, Zaa Zal r3⟩)] ho (hT z0 z1 y hz))) (fun H => ⟨fun _ => ⟨rfl, bz⟩, by kernel_rfl, trivial⟩) (fun H => ⟨fun _ => ⟨rfl, bz⟩, by kernel_rfl, trivial⟩) (hx := by intro H; rw [heq]; kernel_rfl)) fun y4 m => Zct co tok (Zpa p0 p1 v2 y4) (lf2 [0, 1, 2, 6, 8] [((0, 0), true)]) m L fun r g _ m L => en co (Zoz p0 p1 v2 y4) (lf2 [0, 1, 2, 6, 7, 8] [((0, 0), true)]) nl hQ m L fun r g => id))), id⟩
theorem ZER (v8 : Nat) : Kl 63 C (pa [0, 0, 0, 1, 0, 1, 0, 0, 1, 1, 1, 1] (Zac Try.f95)) [] 1 (Zsk p0 p1 v8) (Zwt p0 p1 v8) E95 (G95) (Zje p0 p1 pf2 v8) := fun (v10, v11, r12) _ m Q Post hQ L => mi co 1 (Zo2 p0 p1 pf2 v8 v11 v10 r12) (lf2 [0, 1, 2, 6, 7, 8] [((0, 0), true)]) (lf2 [0, 1, 2, 6, 7] [((0, 0), true)]) hQ m L fun r g => ⟨fun _ m L => bk 5 (sq (rg (ZcD co tok 7 (Zo0 p0 p1 pf2 v8 v11 v10 r12) (lf2 [0, 1, 2, 6, 8, 36, 37, 40, 41, 42] [((0, 0), true)]) m L fun r g _ m L => ZeF m fun heq m => Za0 co m 123 [.ref (0, 0) 0 0 p0.length, vN v10, vN (v10 + v8), vN v11, .fn (.yield 2) [] []] [(0, 0)] ([((0, 0), ⟨0, true, 39, 5, Zaa Zal r12⟩)] ++ []) (fun z => .tup []) (fun z => [((0, 0), ⟨0, true, 39, 5, Zaa Zal z⟩)]) [] (fun z => ⟨co.W 0 (by decide), trivial⟩) (trivial) (fun z hz r g => Zai (ZA8 ((v11 : Int) - (v10 : Int) + 1).toNat r12 (v10 : Int) ((v10 + v8 : Nat) : Int) (v11 : Int) pf2) hz co g [((0, 0), ⟨0, true, 39, 5, Zaa Zal r12⟩)] [] [((0, 0), ⟨0, true, 39, 5, Zaa Zal z⟩)] (lkS [(4, r.θ 2)]) (fun H' hg ho => (fun z0 z1 y hz => Za8 co g [((0, 0), ⟨0, true, 39, 5, Zaa Zal r12⟩)] ho (hT z0 z1 y hz))) (fun H => ⟨fun _ => ⟨rfl, bz⟩, by kernel_rfl, trivial⟩) (fun H => ⟨fun _ => ⟨rfl, bz⟩, by kernel_rfl, trivial⟩) (hx := by intro H; rw [heq]; kernel_rfl)) fun y13 m => Zct co tok (Zon p0 p1 v8 v11 y13) (lf2 [0, 1, 2, 6, 8] [((0, 0), true)]) m L fun r g _ m L => en co (ZpC p0 p1 v8 v11 y13) (lf2 [0, 1, 2, 6, 7, 8] [((0, 0), true)]) nl hQ m L fun r g => id))), id⟩
theorem ZDj : Kl 63 C (pa [0, 0, 1, 1, 1, 1] (Zac Try.f95)) [] 1 (Zom p0 p1) (ZxY) E95 (G95) (ZgU p0 p1 pf2) := fun (v8, r9) _ m Q Post hQ L => mi co 1 (ZgL p0 p1 pf2 v8 r9) (lf2 [0, 1, 2, 6] [((0, 0), true)]) (lf2 [] [((0, 0), true)]) hQ m L fun r g => ⟨fun _ m L => bk 3 (mi co 1 (Zg3 p0 p1 pf2 v8 r9) (lf2 [0, 1, 2, 6, 7, 8] [((0, 0), true)]) nl hQ m L fun r g _ m L => sq (bk 4 (lo (lpL (ZER co p0 p1 pf2 hT v8) hQ m L (fun (v14, r15) m => sq (mi co 2 (Zg5 p0 p1 pf2 v8 v14 r15) (lf2 [0, 1, 2, 6, 7, 9, 54] [((0, 0), true)]) nl hQ m L fun r g _ m L => cd (decide (((v14 + v8 : Nat) : Int) < p1)) m (fun m => rg (ZcD co tok 5 (ZgN p0 p1 pf2 v8 v14 r15) (lf2 [0, 1, 2, 6, 55, 56, 57, 58, 59] [((0, 0), true)]) m L fun r g _ m L => ZeF m fun heq m => Za0 co m 123 [.ref (0, 0) 0 0 p0.length, vN v14, vN (v14 + v8), vI p1, .fn (.yield 2) [] []] [(0, 0)] ([((0, 0), ⟨0, true, 39, 5, Zaa Zal r15⟩)] ++ []) (fun z => .tup []) (fun z => [((0, 0), ⟨0, true, 39, 5, Zaa Zal z⟩)]) [] (fun z => ⟨co.W 0 (by decide), trivial⟩) (trivial) (fun z hz r g => Zai (ZA8 (p1 - (v14 : Int) + 1).toNat r15 (v14 : Int) ((v14 + v8 : Nat) : Int) p1 pf2) hz co g [((0, 0), ⟨0, true, 39, 5, Zaa Zal r15⟩)] [] [((0, 0), ⟨0, true, 39, 5, Zaa Zal z⟩)] (lkS [(4, r.θ 2)]) (fun H' hg ho => (fun z0 z1 y hz => Za8 co g [((0, 0), ⟨0, true, 39, 5, Zaa Zal r15⟩)] ho (hT z0 z1 y hz))) (fun H => ⟨fun _ => ⟨rfl, bz⟩, by kernel_rfl, trivial⟩) (fun H => ⟨fun _ => ⟨rfl, bz⟩, by kernel_rfl, trivial⟩) (hx := by intro H; rw [heq]; kernel_rfl)) fun y16 m => Zct co tok (Zhv p0 p1 v8 y16) (lf2 [0, 1, 2, 6] [((0, 0), true)]) m L fun r g _ m L => en co (Zlt p0 p1 v8 y16) (lf2 [0, 1, 2, 6] [((0, 0), true)]) nl hQ m L fun r g => id)) (fun m => en co (ZgI p0 p1 v8 r15) (lf2 [0, 1, 2, 6] [((0, 0), true)]) nl hQ m L fun r g _ m L => en co (ZgE p0 p1 v8 r15) (lf2 [0, 1, 2, 6] [((0, 0), true)]) nl hQ m L fun r g => id))))))), id⟩
end
end
theorem ZOL (p0 : List Msg) (p1 : Int) (pf2 : Msg → Msg → Option Int) : KO tp 95 1 [.ref (0, 0) 0 0 p0.length, vI p1, .fn (.yield 2) [] []] [⟨0, true, 39, 5, Zaa Zal p0⟩] (H95 pf2) (Zce p0 p1 pf2) E95 (G95) := ko1 Try.func95 Try.ntmps95 tok [] 1 (fun C co hT y m Post L => mi co 2 (ZjI p0 p1 pf2) (lf2 [0, 1, 2, 6, 7, 8] [((0, 0), true)]) nl ii m L fun r g _ m L => sq (bk 0 (lo (lpF (ZEn co p0 p1 pf2 hT) ii m L (fun (v5, r6) m => sq (rg (ZcD co tok 4 (ZkE p0 p1 pf2 v5 r6) (lf2 [0, 1, 2, 6, 23, 24, 25, 26] [((0, 0), true)]) m L fun r g _ m L => ZeF m fun heq m => Za0 co m 122 [.ref (0, 0) 0 0 p0.length, vN v5, vI p1, .fn (.yield 2) [] []] [(0, 0)] ([((0, 0), ⟨0, true, 39, 5, Zaa Zal r6⟩)] ++ []) (fun z => .tup []) (fun z => [((0, 0), ⟨0, true, 39, 5, Zaa Zal z⟩)]) [] (fun z => ⟨co.W 0 (by decide), trivial⟩) (trivial) (fun z hz r g => Zai (ZIF r6 (v5 : Int) p1 pf2) hz co g [((0, 0), ⟨0, true, 39, 5, Zaa Zal r6⟩)] [] [((0, 0), ⟨0, true, 39, 5, Zaa Zal z⟩)] (lkS [(3, r.θ 2)]) (fun H' hg ho => (fun z0 z1 y hz => Za8 co g [((0, 0), ⟨0, true, 39, 5, Zaa Zal r6⟩)] ho (hT z0 z1 y hz))) (fun H => ⟨fun _ => ⟨rfl, bz⟩, by kernel_rfl, trivial⟩) (fun H => ⟨fun _ => ⟨rfl, bz⟩, by kernel_rfl, trivial⟩) (hx := by intro H; rw [heq]; kernel_rfl)) fun y7 m => Zct co tok (Zjr p0 p1 pf2 y7) (lf2 [0, 1, 2, 6] [((0, 0), true)]) m L fun r g _ m L => bk 2 (lo (lpF (ZDj co p0 p1 pf2 hT) ii m L (fun r17 m => Zfo (Zkw r17) co m L (fun r g => id) r g)))))))))) (hB := fun y => ⟨.inl (Zan _ _), rfl, trivial⟩)
section
variable {α : Type} [Rw α] [Tid α]
abbrev E59 : List α → AV := fun y => .tup []
@[reducible] def G59 : List α → List Blk := fun y => [⟨0, true, Tid.t α, Rw.s α, Zaa Rw.f y⟩]
def H59 (pf1 : α → α → Option Int) : Cl := fun no l H θ => (∀ (z0 : α) (z1 : α) y, pf1 z0 z1 = some y → Zjj tp l no H (θ 1) [.agg ((Rw.f z0).map .d), .agg ((Rw.f z1).map .d)] (vI y))
section
variable (y1 : List α)
def Ztr : PT 1 (List α) := lr E59 (G59) y1
def Zqt : PT 1 (List α) := vz (fl y1) <| lc (mkS [] [((0, 0), ⟨0, true, Tid.t α, Rw.s α, Zaa Rw.f y1⟩)]) ((Ztr y1).m)
def ZqK (p0 : List α) (pf1 : α → α → Option Int) : PT 1 (List α) := vz (eqN p0.length) <| vz (fl p0) <| lc (mkS [(4, .ref (0, 0) 0 0 p0.length), (6, vN p0.length), (7, .fn (.yield 1) [] [])] [((0, 0), ⟨0, true, Tid.t α, Rw.s α, Zaa Rw.f p0⟩)]) ((Zce p0 (p0.length : Int) pf1).bind fun y1 => (Zqt y1).m)
def ZaY (p0 : List α) (pf1 : α → α → Option Int) : Option (List α) := (ZqK p0 pf1).m
end
end
theorem ZO8 (p0 : List Msg) (pf1 : Msg → Msg → Option Int) : KO tp 59 1 [.ref (0, 0) 0 0 p0.length, .fn (.yield 1) [] []] [⟨0, true, 39, 5, Zaa Zal p0⟩] (H59 pf1) (ZaY p0 pf1) E59 (G59) := ko1 Try.func59 Try.ntmps59 tok [] 1 (fun C co hT y m Post L => rg (ZcD co tok 4 (ZqK p0 pf1) (lf2 [4, 6, 7] [((0, 0), true)]) m L fun r g _ m L => Za0 co m 95 [.ref (0, 0) 0 0 p0.length, vN p0.length, .fn (.yield 1) [] []] [(0, 0)] ([((0, 0), ⟨0, true, 39, 5, Zaa Zal p0⟩)] ++ []) (fun z => .tup []) (fun z => [((0, 0), ⟨0, true, 39, 5, Zaa Zal z⟩)]) [] (fun z => ⟨co.W 0 (by decide), trivial⟩) (trivial) (fun z hz r g => Zai (ZOL p0 (p0.length : Int) pf1) hz co g [((0, 0), ⟨0, true, 39, 5, Zaa Zal p0⟩)] [] [((0, 0), ⟨0, true, 39, 5, Zaa Zal z⟩)] (lkS [(2, r.θ 1)]) (fun H' hg ho => (fun z0 z1 y hz => Za8 co g [((0, 0), ⟨0, true, 39, 5, Zaa Zal p0⟩)] ho (hT z0 z1 y hz))) (fun H => ⟨fun _ => ⟨rfl, bz⟩, by kernel_rfl, trivial⟩) (fun H => ⟨fun _ => ⟨rfl, bz⟩, by kernel_rfl, trivial⟩)) fun y1 m => Zct co tok (Zqt y1) (lf2 [] [((0, 0), true)]) m L fun r g _ m L => Zfo (Ztr y1) co m L (fun r g => id) r g)) (hB := fun y => ⟨.inl (Zan _ _), rfl, trivial⟩)
abbrev E96 : Bool → AV := fun y => vB y
def ZA7 (p0 : Bt) : PT 0 (Bool) := lr E96 (fun _ => []) (!decide (p0 = p0))
def Zdl (p0 : Bt) : Option (Bool) := (ZA7 p0).m
theorem ZNl (p0 : Bt) : KC tp 96 [vS p0] (Zdl p0) E96 := kc1 Try.func96 Try.ntmps96 tok [.tmp 2] fun C co y m Post L => fo co (ZA7 p0) m L fun r g => id
abbrev E61 : Int → AV := fun y => vI y
def ZA0 (p0 : Bt) (p1 : Bt) : PT 0 (Int) := cl (ZNl p0) fun y1 => cl (ZNl p1) fun y2 => br y1 (br y2 (lr E61 (fun _ => []) 0) (lr E61 (fun _ => []) (-1))) (br y2 (lr E61 (fun _ => []) 1) (br (sLt p0 p1) (lr E61 (fun _ => []) (-1)) (br (!(sLt p0 p1 || decide (p0 = p1))) (lr E61 (fun _ => []) 1) (lr E61 (fun _ => []) 0))))
def Zch (p0 : Bt) (p1 : Bt) : Option (Int) := (ZA0 p0 p1).m
theorem ZLW (p0 : Bt) (p1 : Bt) : KC tp 61 [vS p0, vS p1] (Zch p0 p1) E61 := kc1 Try.func61 Try.ntmps61 tok [.tmp 4] fun C co y m Post L => fo co (ZA0 p0 p1) m L fun r g y1 y2 => ⟨⟨id, id⟩, ⟨id, ⟨id, ⟨id, id⟩⟩⟩⟩
abbrev E60 : Int → AV := fun y => vI y
def ZCL (p0 : Msg) (p1 : Msg) : PT 0 (Int) := vw .go <| vw .go <| cl (ZLW p0.name p1.name) fun y1 => lr E60 (fun _ => []) y1
def Zbw (p0 : Msg) (p1 : Msg) : Option (Int) := (ZCL p0 p1).m
theorem ZOB (p0 : Msg) (p1 : Msg) : KC tp 60 [.agg ((Zal p0).map .d), .agg ((Zal p1).map .d)] (Zbw p0 p1) E60 := kc1 Try.func60 Try.ntmps60 tok [.tmp 4] fun C co y m Post L => fo co (ZCL p0 p1) m L fun r g y1 => id
end
end Go.Proofs.Ythagpbkmakocjaa
