import Derived.Test.YthagpbkmakocjaaCn13
namespace Go.Proofs.Ythagpbkmakocjaa
set_option linter.all false
set_option maxRecDepth 100000
open Go Go.Eng
noncomputable section
@[reducible] noncomputable def tp : Program := Try.prog
abbrev Bt := ByteArray
section
variable {n os : Nat} {C : Cx} {τ : St} {Q : Exit → St → Prop} {p : List Nat} {b c : Code} {β : Type} {Post : AV → List Blk → Prop} {rs : List ResultVar} {L : β → Prop} {y : β}
theorem mi (co : CO C os) (m : Nat) (v : PT os β) (lf lx : Lf) (hQ : ∀ τ, FQ (lkT tl) rs os Post .ret τ → Q .ret τ) (hv : v.m = some y) (hL : HL L y)
 (hn : ∀ r (g : Gd C r), v.n ⟨⟨C.l, r, fun e τ' => match e with | .normal => LW tp n C (pa (up m p) b) τ' Q | e => Q e τ', Post⟩, L, C, co, g, rfl⟩)
 (hq : ∀ l r Q Post, ZBM tp (lkT tl) l n os r m (pa p b) v.a τ (KB (lkT tl) rs os (ZjG os) r Post lf lx Q) = v.q ⟨l, r, Q, Post⟩ := by intro l r Q P; kernel_rfl) (hl : lng m (pa p b) = true := by kernel_rfl) : LW tp n C (pa p b) τ Q := ZG0 co tok tmo m v lf lx hQ hv hL hn hq hl
theorem en (co : CO C os) (v : PT os β) (lf lx : Lf) (hQ : ∀ τ, FQ (lkT tl) rs os Post .ret τ → Q .ret τ) (h : v.m = some y) (hL : HL L y)
 (hn : ∀ r (g : Gd C r), v.n ⟨⟨C.l, r, Q, Post⟩, L, C, co, g, rfl⟩) (hq : ∀ l r Q Post, Zc2 tp (lkT tl) l n os r c v.a τ (KB (lkT tl) rs os (ZjG os) r Post lf lx Q) = v.q ⟨l, r, Q, Post⟩ := by intro l r Q P; kernel_rfl) : LW tp n C c τ Q := ZG3 co tok tmo v lf lx hQ h hL hn hq
theorem fo (co : CO C os) (v : PT os β) (h : v.m = some y) (hL : HL L y) (hn : ∀ r (g : Gd C r), v.n ⟨⟨C.l, r, fun _ _ => False, Post⟩, L, C, co, g, rfl⟩)
 (hq : ∀ l r Q Post, Zc2 tp (lkT tl) l n os r c v.a τ (KF (lkT tl) rs os Post) = v.q ⟨l, r, Q, Post⟩ := by intro l r Q P; kernel_rfl) : LW tp n C c τ (FQ (lkT tl) rs os Post) := ZH0 co tok tmo v h hL hn hq
abbrev Kl {σ ξ ρ : Type} (n : Nat) (C : Cx) (c : Code) (rs : List ResultVar) (os : Nat) (S : σ → St) (X : ξ → Nat × St) (er : ρ → AV) (bs : ρ → List Blk) (B : σ → Option (Lv σ ξ ρ)) : Prop := KL tp (lkT tl) n C c rs os S X er bs B
end
theorem ii {α : Type} {P : α → Prop} : ∀ x, P x → P x := fun _ h => h
theorem bz {r r' : Ren} {k k' : Key} {g g' : Nat} {e : TypeId} {sz : Nat} {α : Type} {en : α → List D} {xs : List α} (h : r.γ k + g = r'.γ k' + g' := by kernel_rfl) : ZbQ r k ⟨g, true, e, sz, Zaa en xs⟩ = ZbQ r' k' ⟨g', true, e, sz, Zaa en xs⟩ := ZyC (Zaj _ _) h
class Tid (α : Type) where
 t : Nat
instance : Tid Msg := ⟨39⟩
instance : Tid Enm := ⟨42⟩
instance : Tid Svc := ⟨57⟩
abbrev E85 : Int → AV := fun y => vI y
def H85 (pf1 : Fil → Option Bool) : Cl := fun no l H θ => (∀ (z0 : Fil) y, pf1 z0 = some y → ZiH tp l no H (θ 1) [.agg ((Zas z0).map .d)] (vB y))
section
variable {C : Cx} (p0 : List Fil) (pf1 : Fil → Option Bool)
def ZAy : Nat → St := fun v1 => mkS [(0, vL Zas p0), (1, .fn (.yield 1) [] []), (7, vN p0.length), (8, vN v1)] []
def ZCN : Unit → Nat × St := fun _ => (0, mkS [] [])
def ZrJ (v1 : Nat) : PT 0 (Lv (Nat) (Unit) (Int)) := br (decide ((v1 : Int) < (p0.length : Int))) (ix p0 v1 fun e2 => cf tp 1 [.agg ((Zas e2).map .d)] (pf1 e2) (fun y => vB y) fun y3 => br y3 (lrt E85 (fun _ => []) (v1 : Int)) (vs (wa v1 1) <| ln (ZAy p0) (v1 + 1))) (lxe (ZCN) ())
def Zu3 := fun (v1 : Nat) => (ZrJ p0 pf1 v1).m
def Zzg : PT 0 (Int) := lr E85 (fun _ => []) (-1)
def ZxQ : PT 0 (Int) := vz (eqL p0) <| lc (ZAy p0 0) ((Zad (Zu3 p0 pf1) big 0).bind (Sum.elim (fun _ => (Zzg).m) some))
def Zwp : PT 0 (Int) := lc (mkS [(0, vL Zas p0), (1, .fn (.yield 1) [] [])] []) ((ZxQ p0 pf1).m)
def ZbE (p0 : List Fil) (pf1 : Fil → Option Bool) : Option (Int) := (Zwp p0 pf1).m
theorem Zxq (co : CO C 0) (hT : (H85 pf1) C.no C.l C.H0 C.θ) : Kl 19 C (pa [0, 0, 1, 0, 1] (Zai Try.f85)) [.tmp 4] 0 (ZAy p0) (ZCN) E85 (fun _ => []) (Zu3 p0 pf1) := fun v1 _ m Q Post hQ L => en co (ZrJ p0 pf1 v1) (lf1 [0, 1, 7, 8]) nl hQ m L fun r g => ⟨fun e2 => ⟨⟨fun y hy => hT _ y hy, by intro r; kernel_rfl, by intro r y; kernel_rfl⟩, fun y3 => ⟨id, id⟩⟩, id⟩
end
theorem ZGK (p0 : List Fil) (pf1 : Fil → Option Bool) : KO tp 85 0 [vL Zas p0, .fn (.yield 1) [] []] [] (H85 pf1) (ZbE p0 pf1) E85 (fun _ => []) := ko1 Try.func85 Try.ntmps85 tok [.tmp 4] 0 (fun C co hT y m Post L => mi co 1 (Zwp p0 pf1) (lf1 [0, 1]) nl ii m L fun r g _ m L => sq (mi co 1 (ZxQ p0 pf1) (lf1 [0, 1, 7, 8]) nl ii m L fun r g _ m L => bk 0 (lo (lpF (Zxq p0 pf1 co hT) ii m L (fun _ m => fo co (Zzg) m L fun r g => id)))))
abbrev E86 : Bool → AV := fun y => vB y
@[reducible] def G86 (w0 : Bt) : Bool → List Blk := fun y => [⟨0, true, 9, 1, [vS w0]⟩]
def ZAk (p0 : Fil) (w0 : Bt) : PT 1 (Bool) := vw .go <| vw .go <| lr E86 (G86 w0) (decide (p0.name = w0))
def ZbK (p0 : Fil) (w0 : Bt) : Option (Bool) := (ZAk p0 w0).m
theorem ZH2 (p0 : Fil) (w0 : Bt) : KO tp 86 1 [.agg ((Zas p0).map .d), .ptr (0, 0) 0 0] [⟨0, true, 9, 1, [vS w0]⟩] (fun _ _ _ _ => True) (ZbK p0 w0) E86 (G86 w0) := ko1 Try.func86 Try.ntmps86 tok [.tmp 3] 1 (fun C co hT y m Post L => fo co (ZAk p0 w0) m L fun r g => id) (hB := fun y => ⟨.inr (by kernel_rfl), rfl, trivial⟩)
abbrev E51 : Int → AV := fun y => vI y
def ZxX (p0 : List Fil) (p1 : Bt) : PT 0 (Int) := cs tp 85 [vL Zas p0, .fn (.func 86) [] [.ptr (1, 3) 1 0]] [(1, 3)] [((1, 3), ⟨1, true, 9, 1, [vS p1]⟩)] (ZbE p0 (fun (z0 : Fil) => ZbK z0 p1)) (fun y => vI y) fun y1 => lr E51 (fun _ => []) y1
def Zde (p0 : List Fil) (p1 : Bt) : Option (Int) := (ZxX p0 p1).m
theorem Zy2 (p0 : List Fil) (p1 : Bt) : KC tp 51 [vL Zas p0, vS p1] (Zde p0 p1) E51 := kc1 Try.func51 Try.ntmps51 tok [.tmp 4] fun C co y m Post L => fo co (ZxX p0 p1) m L fun r g => ⟨fun y hy => Zbh (ZGK p0 (fun (z0 : Fil) => ZbK z0 p1)) hy co g [] [((1, 3), ⟨1, true, 9, 1, [vS p1]⟩)] (lkS [(1, .fn (.func 86) [] [.ptr (r.κ (1, 3)) (r.γ (1, 3) + 1) 0])]) (fun H' hg ho => (fun z0 y hz => ZlF (ZH2 z0 p1) hz co g [((1, 3), ⟨1, true, 9, 1, [vS p1]⟩)] [] hg (by simp) (fun _ => .top) (fun _ _ => trivial) (fun l H => ⟨fun _ => ⟨rfl, by kernel_rfl⟩, by kernel_rfl, trivial⟩))) (fun H => trivial), fun y1 => id⟩
abbrev ZEg : Int → AV := fun y => vI y
section
variable {C : Cx} (p0 : List Int) (p1 : Int)
def ZoM : Nat → St := fun v1 => mkS [(0, vL Zdt p0), (1, vI p1), (7, vN p0.length), (8, vN v1)] []
def Zwb : Unit → Nat × St := fun _ => (0, mkS [] [])
def Zmt (v1 : Nat) : PT 0 (Lv (Nat) (Unit) (Int)) := br (decide ((v1 : Int) < (p0.length : Int))) (ix p0 v1 fun e2 => br (decide (p1 = e2)) (lrt ZEg (fun _ => []) (v1 : Int)) (vs (wa v1 1) <| ln (ZoM p0 p1) (v1 + 1))) (lxe (Zwb) ())
def ZmH := fun (v1 : Nat) => (Zmt p0 p1 v1).m
def Zox : PT 0 (Int) := lr ZEg (fun _ => []) (-1)
def Zpx : PT 0 (Int) := vz (eqL p0) <| lc (ZoM p0 p1 0) ((Zad (ZmH p0 p1) big 0).bind (Sum.elim (fun _ => (Zox).m) some))
def Zrt : PT 0 (Int) := lc (mkS [(0, vL Zdt p0), (1, vI p1)] []) ((Zpx p0 p1).m)
def Zef (p0 : List Int) (p1 : Int) : Option (Int) := (Zrt p0 p1).m
theorem Ztg (co : CO C 0) : Kl 19 C (pa [0, 0, 1, 0, 1] (Zai Try.f116)) [.tmp 4] 0 (ZoM p0 p1) (Zwb) ZEg (fun _ => []) (ZmH p0 p1) := fun v1 _ m Q Post hQ L => en co (Zmt p0 p1 v1) (lf1 [0, 1, 7, 8]) nl hQ m L fun r g => ⟨fun e2 => ⟨id, id⟩, id⟩
end
theorem ZFh (p0 : List Int) (p1 : Int) : KC tp 116 [vL Zdt p0, vI p1] (Zef p0 p1) ZEg := kc1 Try.func116 Try.ntmps116 tok [.tmp 4] fun C co y m Post L => mi co 1 (Zrt p0 p1) (lf1 [0, 1]) nl ii m L fun r g _ m L => sq (mi co 1 (Zpx p0 p1) (lf1 [0, 1, 7, 8]) nl ii m L fun r g _ m L => bk 0 (lo (lpF (Ztg p0 p1 co) ii m L (fun _ m => fo co (Zox) m L fun r g => id))))
abbrev E88 : Bool → AV := fun y => vB y
def ZwX (p0 : List Int) (p1 : Int) : PT 0 (Bool) := cl (ZFh p0 p1) fun y1 => lr E88 (fun _ => []) (decide ((0 : Int) ≤ y1))
def Zcm (p0 : List Int) (p1 : Int) : Option (Bool) := (ZwX p0 p1).m
theorem ZH9 (p0 : List Int) (p1 : Int) : KC tp 88 [vL Zdt p0, vI p1] (Zcm p0 p1) E88 := kc1 Try.func88 Try.ntmps88 tok [.tmp 4] fun C co y m Post L => fo co (ZwX p0 p1) m L fun r g y1 => id
abbrev ZEj : Int → AV := fun y => vI y
def ZGA (pf1 : Bt → Option Bool) : Cl := fun no l H θ => (∀ (z0 : Bt) y, pf1 z0 = some y → ZiH tp l no H (θ 1) [vS z0] (vB y))
section
variable {C : Cx} (p0 : List Bt) (pf1 : Bt → Option Bool)
def Zor : Nat → St := fun v1 => mkS [(0, vL Zag p0), (1, .fn (.yield 1) [] []), (7, vN p0.length), (8, vN v1)] []
def Zvm : Unit → Nat × St := fun _ => (0, mkS [] [])
def ZlB (v1 : Nat) : PT 0 (Lv (Nat) (Unit) (Int)) := br (decide ((v1 : Int) < (p0.length : Int))) (ix p0 v1 fun e2 => cf tp 1 [vS e2] (pf1 e2) (fun y => vB y) fun y3 => br y3 (lrt ZEj (fun _ => []) (v1 : Int)) (vs (wa v1 1) <| ln (Zor p0) (v1 + 1))) (lxe (Zvm) ())
def ZmG := fun (v1 : Nat) => (ZlB p0 pf1 v1).m
def ZpJ : PT 0 (Int) := lr ZEj (fun _ => []) (-1)
def ZqX : PT 0 (Int) := vz (eqL p0) <| lc (Zor p0 0) ((Zad (ZmG p0 pf1) big 0).bind (Sum.elim (fun _ => (ZpJ).m) some))
def Zpo : PT 0 (Int) := lc (mkS [(0, vL Zag p0), (1, .fn (.yield 1) [] [])] []) ((ZqX p0 pf1).m)
def ZbI (p0 : List Bt) (pf1 : Bt → Option Bool) : Option (Int) := (Zpo p0 pf1).m
theorem Zuz (co : CO C 0) (hT : (ZGA pf1) C.no C.l C.H0 C.θ) : Kl 19 C (pa [0, 0, 1, 0, 1] (Zai Try.f117)) [.tmp 4] 0 (Zor p0) (Zvm) ZEj (fun _ => []) (ZmG p0 pf1) := fun v1 _ m Q Post hQ L => en co (ZlB p0 pf1 v1) (lf1 [0, 1, 7, 8]) nl hQ m L fun r g => ⟨fun e2 => ⟨⟨fun y hy => hT _ y hy, by intro r; kernel_rfl, by intro r y; kernel_rfl⟩, fun y3 => ⟨id, id⟩⟩, id⟩
end
theorem ZFN (p0 : List Bt) (pf1 : Bt → Option Bool) : KO tp 117 0 [vL Zag p0, .fn (.yield 1) [] []] [] (ZGA pf1) (ZbI p0 pf1) ZEj (fun _ => []) := ko1 Try.func117 Try.ntmps117 tok [.tmp 4] 0 (fun C co hT y m Post L => mi co 1 (Zpo p0 pf1) (lf1 [0, 1]) nl ii m L fun r g _ m L => sq (mi co 1 (ZqX p0 pf1) (lf1 [0, 1, 7, 8]) nl ii m L fun r g _ m L => bk 0 (lo (lpF (Zuz p0 pf1 co hT) ii m L (fun _ m => fo co (ZpJ) m L fun r g => id)))))
abbrev E89 : Bool → AV := fun y => vB y
def H89 (pf1 : Bt → Option Bool) : Cl := fun no l H θ => (∀ (z0 : Bt) y, pf1 z0 = some y → ZiH tp l no H (θ 1) [vS z0] (vB y))
def ZAJ (p0 : List Bt) (pf1 : Bt → Option Bool) : PT 0 (Bool) := cs tp 117 [vL Zag p0, .fn (.yield 1) [] []] [] [] (ZbI p0 pf1) (fun y => vI y) fun y1 => lr E89 (fun _ => []) (decide ((0 : Int) ≤ y1))
def Zbn (p0 : List Bt) (pf1 : Bt → Option Bool) : Option (Bool) := (ZAJ p0 pf1).m
theorem ZHe (p0 : List Bt) (pf1 : Bt → Option Bool) : KO tp 89 0 [vL Zag p0, .fn (.yield 1) [] []] [] (H89 pf1) (Zbn p0 pf1) E89 (fun _ => []) := ko1 Try.func89 Try.ntmps89 tok [.tmp 4] 0 (fun C co hT y m Post L => fo co (ZAJ p0 pf1) m L fun r g => ⟨fun y hy => Zbh (ZFN p0 pf1) hy co g [] [] (lkS [(1, r.θ 1)]) (fun H' hg ho => (fun z0 y hz => Za4 co g [] ho (hT z0 y hz))) (fun H => trivial), fun y1 => id⟩)
abbrev E90 : Bool → AV := fun y => vB y
@[reducible] def G90 (w0 : List Int) (w1 : List Fil) : Bool → List Blk := fun y => [⟨0, true, 62, 1, [vL Zdt w0]⟩, ⟨0, true, 22, 1, [vL Zas w1]⟩]
def ZDk (p0 : Bt) (w0 : List Int) (w1 : List Fil) : PT 2 (Bool) := vw .go <| vw .go <| cl (Zy2 w1 p0) fun y1 => cl (ZH9 w0 y1) fun y2 => lr E90 (G90 w0 w1) (!y2)
def Zch (p0 : Bt) (w0 : List Int) (w1 : List Fil) : Option (Bool) := (ZDk p0 w0 w1).m
abbrev ZlI : Int → AV := fun y => vI y
@[reducible] def Zmz (p0 : List Int) : Int → List Blk := fun y => [⟨0, true, 3, 1, Zaa Zdt p0⟩]
def Zl9 (p0 : List Int) (p1 : Int) : Nat → St := fun v1 => mkS [(0, .ref (0, 0) 0 0 p0.length), (1, vI p1), (7, vN p0.length), (8, vN v1)] [((0, 0), ⟨0, true, 3, 1, Zaa Zdt p0⟩)]
def Zlk (p0 : List Int) : Unit → Nat × St := fun _ => (0, mkS [] [((0, 0), ⟨0, true, 3, 1, Zaa Zdt p0⟩)])
def Zfx (p0 : List Int) (p1 : Int) (v1 : Nat) : PT 1 (Lv (Nat) (Unit) (Int)) := br (decide ((v1 : Int) < (p0.length : Int))) (vs (ir v1 p0.length 1) <| ca p0 v1 fun e2 => br (decide (p1 = e2)) (lrt ZlI (Zmz p0) (v1 : Int)) (vs (wa v1 1) <| vz (fl p0) <| ln (Zl9 p0 p1) (v1 + 1))) (vz (fl p0) <| lxe (Zlk p0) ())
def ZfF (p0 : List Int) (p1 : Int) := fun (v1 : Nat) => (Zfx p0 p1 v1).m
def Ziv (p0 : List Int) : PT 1 (Int) := lr ZlI (Zmz p0) (-1)
def Ziu (p0 : List Int) (p1 : Int) : PT 1 (Int) := vz (eqN p0.length) <| vz (fl p0) <| lc (mkS [(0, .ref (0, 0) 0 0 p0.length), (1, vI p1), (7, vN p0.length), (8, vI 0)] [((0, 0), ⟨0, true, 3, 1, Zaa Zdt p0⟩)]) ((Zad (ZfF p0 p1) big 0).bind (Sum.elim (fun _ => (Ziv p0).m) some))
def ZhT (p0 : List Int) (p1 : Int) : PT 1 (Int) := vz (fl p0) <| lc (mkS [(0, .ref (0, 0) 0 0 p0.length), (1, vI p1)] [((0, 0), ⟨0, true, 3, 1, Zaa Zdt p0⟩)]) ((Ziu p0 p1).m)
def ZcD (p0 : List Int) (p1 : Int) : Option (Int) := (ZhT p0 p1).m
theorem Znt {C : Cx} (co : CO C 1) (p0 : List Int) (p1 : Int) : Kl 19 C (pa [0, 0, 1, 0, 1] (Zai Try.f116)) [.tmp 4] 1 (Zl9 p0 p1) (Zlk p0) ZlI (Zmz p0) (ZfF p0 p1) := fun v1 _ m Q Post hQ L => en co (Zfx p0 p1 v1) (lf2 [0, 1, 7, 8] [((0, 0), true)]) (lf2 [] [((0, 0), true)]) hQ m L fun r g => ⟨fun e2 => ⟨id, id⟩, id⟩
theorem ZwP (p0 : List Int) (p1 : Int) : KO tp 116 1 [.ref (0, 0) 0 0 p0.length, vI p1] [⟨0, true, 3, 1, Zaa Zdt p0⟩] (fun _ _ _ _ => True) (ZcD p0 p1) ZlI (Zmz p0) := ko1 Try.func116 Try.ntmps116 tok [.tmp 4] 1 (fun C co hT y m Post L => mi co 1 (ZhT p0 p1) (lf2 [0, 1] [((0, 0), true)]) nl ii m L fun r g _ m L => sq (mi co 1 (Ziu p0 p1) (lf2 [0, 1, 7, 8] [((0, 0), true)]) nl ii m L fun r g _ m L => bk 0 (lo (lpF (Znt co p0 p1) ii m L (fun _ m => fo co (Ziv p0) m L fun r g => id))))) (hB := fun y => ⟨.inl (Zaj _ _), rfl, trivial⟩)
abbrev ZDT : Bool → AV := fun y => vB y
@[reducible] def ZB2 (p0 : List Int) : Bool → List Blk := fun y => [⟨0, true, 3, 1, Zaa Zdt p0⟩]
def Zkx (p0 : List Int) (p1 : Int) : PT 1 (Bool) := cs tp 116 [.ref (0, 0) 0 0 p0.length, vI p1] [(0, 0)] [((0, 0), ⟨0, true, 3, 1, Zaa Zdt p0⟩)] (ZcD p0 p1) (fun y => vI y) fun y1 => lr ZDT (ZB2 p0) (decide ((0 : Int) ≤ y1))
def Zbb (p0 : List Int) (p1 : Int) : Option (Bool) := (Zkx p0 p1).m
theorem Zvn (p0 : List Int) (p1 : Int) : KO tp 88 1 [.ref (0, 0) 0 0 p0.length, vI p1] [⟨0, true, 3, 1, Zaa Zdt p0⟩] (fun _ _ _ _ => True) (Zbb p0 p1) ZDT (ZB2 p0) := ko1 Try.func88 Try.ntmps88 tok [.tmp 4] 1 (fun C co hT y m Post L => fo co (Zkx p0 p1) m L fun r g => ⟨fun y hy => Zbh (ZwP p0 p1) hy co g [((0, 0), ⟨0, true, 3, 1, Zaa Zdt p0⟩)] [] (lkS []) (fun H' hg ho => trivial) (fun H => ⟨fun _ => ⟨rfl, bz⟩, by kernel_rfl, trivial⟩), fun y1 => id⟩) (hB := fun y => ⟨.inl (Zaj _ _), rfl, trivial⟩)
abbrev ZCP : Bool → AV := fun y => vB y
@[reducible] def ZBw (w0 : List Int) (w1 : List Fil) : Bool → List Blk := fun y => [⟨0, true, 62, 1, [.ref (0, 2) 0 0 w0.length]⟩, ⟨0, true, 22, 1, [vL Zas w1]⟩, ⟨0, true, 3, 1, Zaa Zdt w0⟩]
def Zk8 (p0 : Bt) (w0 : List Int) (w1 : List Fil) : PT 3 (Bool) := vw .go <| vw .go <| cl (Zy2 w1 p0) fun y1 => cs tp 88 [.ref (0, 2) 0 0 w0.length, vI y1] [(0, 2)] [((0, 2), ⟨0, true, 3, 1, Zaa Zdt w0⟩)] (Zbb w0 y1) (fun y => vB y) fun y2 => lr ZCP (ZBw w0 w1) (!y2)
def ZaV (p0 : Bt) (w0 : List Int) (w1 : List Fil) : Option (Bool) := (Zk8 p0 w0 w1).m
theorem ZDq (p0 : Bt) (w0 : List Int) (w1 : List Fil) : KO tp 90 3 [vS p0, .ptr (0, 0) 0 0, .ptr (0, 1) 0 0] [⟨0, true, 62, 1, [.ref (0, 2) 0 0 w0.length]⟩, ⟨0, true, 22, 1, [vL Zas w1]⟩, ⟨0, true, 3, 1, Zaa Zdt w0⟩] (fun _ _ _ _ => True) (ZaV p0 w0 w1) ZCP (ZBw w0 w1) := ko1 Try.func90 Try.ntmps90 tok [.tmp 4] 3 (fun C co hT y m Post L => fo co (Zk8 p0 w0 w1) m L fun r g y1 => ⟨fun y hy => Zbh (Zvn w0 y1) hy co g [((0, 2), ⟨0, true, 3, 1, Zaa Zdt w0⟩)] [] (lkS []) (fun H' hg ho => trivial) (fun H => ⟨fun _ => ⟨rfl, bz⟩, by kernel_rfl, trivial⟩), fun y2 => id⟩) (hB := fun y => ⟨.inr (by kernel_rfl), rfl, ⟨.inr (by kernel_rfl), rfl, ⟨.inl (Zaj _ _), rfl, trivial⟩⟩⟩)
abbrev Zy6 : Bool → AV := fun y => vB y
@[reducible] def ZyH (w0 : List Int) (w1 : List Fil) : Bool → List Blk := fun y => [⟨0, true, 62, 1, [.ref (0, 2) 0 0 w0.length]⟩, ⟨0, true, 22, 1, [vL Zas w1]⟩, ⟨0, true, 3, 1, Zaa Zdt w0⟩]
def Zky (p0 : Fil) (w0 : List Int) (w1 : List Fil) : PT 3 (Bool) := vw .go <| vw .go <| vw .go <| cl (Zy2 w1 p0.name) fun y1 => cs tp 88 [.ref (0, 2) 0 0 w0.length, vI y1] [(0, 2)] [((0, 2), ⟨0, true, 3, 1, Zaa Zdt w0⟩)] (Zbb w0 y1) (fun y => vB y) fun y2 => br y2 (lr Zy6 (ZyH w0 w1) false) (vw .go <| cs tp 89 [vL Zag p0.imports, .fn (.func 90) [] [.ptr (0, 0) 0 0, .ptr (0, 1) 0 0]] [(0, 0), (0, 1), (0, 2)] [((0, 0), ⟨0, true, 62, 1, [.ref (0, 2) 0 0 w0.length]⟩), ((0, 1), ⟨0, true, 22, 1, [vL Zas w1]⟩), ((0, 2), ⟨0, true, 3, 1, Zaa Zdt w0⟩)] (Zbn p0.imports (fun (z0 : Bt) => ZaV z0 w0 w1)) (fun y => vB y) fun y3 => lr Zy6 (ZyH w0 w1) (!y3))
def Zbe (p0 : Fil) (w0 : List Int) (w1 : List Fil) : Option (Bool) := (Zky p0 w0 w1).m
theorem ZBE (p0 : Fil) (w0 : List Int) (w1 : List Fil) : KO tp 87 3 [.agg ((Zas p0).map .d), .ptr (0, 0) 0 0, .ptr (0, 1) 0 0] [⟨0, true, 62, 1, [.ref (0, 2) 0 0 w0.length]⟩, ⟨0, true, 22, 1, [vL Zas w1]⟩, ⟨0, true, 3, 1, Zaa Zdt w0⟩] (fun _ _ _ _ => True) (Zbe p0 w0 w1) Zy6 (ZyH w0 w1) := ko1 Try.func87 Try.ntmps87 tok [.tmp 4] 3 (fun C co hT y m Post L => fo co (Zky p0 w0 w1) m L fun r g y1 => ⟨fun y hy => Zbh (Zvn w0 y1) hy co g [((0, 2), ⟨0, true, 3, 1, Zaa Zdt w0⟩)] [] (lkS []) (fun H' hg ho => trivial) (fun H => ⟨fun _ => ⟨rfl, bz⟩, by kernel_rfl, trivial⟩), fun y2 => ⟨id, ⟨fun y hy => Zbh (ZHe p0.imports (fun (z0 : Bt) => ZaV z0 w0 w1)) hy co g [] [((0, 0), ⟨0, true, 62, 1, [.ref (0, 2) 0 0 w0.length]⟩), ((0, 1), ⟨0, true, 22, 1, [vL Zas w1]⟩), ((0, 2), ⟨0, true, 3, 1, Zaa Zdt w0⟩)] (lkS [(1, .fn (.func 90) [] [.ptr (r.κ (0, 0)) (r.γ (0, 0) + 0) 0, .ptr (r.κ (0, 1)) (r.γ (0, 1) + 0) 0])]) (fun H' hg ho => (fun z0 y hz => ZlF (ZDq z0 w0 w1) hz co g [((0, 0), ⟨0, true, 62, 1, [.ref (0, 2) 0 0 w0.length]⟩), ((0, 1), ⟨0, true, 22, 1, [vL Zas w1]⟩), ((0, 2), ⟨0, true, 3, 1, Zaa Zdt w0⟩)] [] hg (by simp) (fun _ => .top) (fun _ _ => trivial) (fun l H => ⟨fun _ => ⟨rfl, by kernel_rfl⟩, by kernel_rfl, ⟨fun _ => ⟨rfl, by kernel_rfl⟩, by kernel_rfl, ⟨fun _ => ⟨rfl, bz⟩, by kernel_rfl, trivial⟩⟩⟩))) (fun H => trivial), fun y3 => id⟩⟩⟩) (hB := fun y => ⟨.inr (by kernel_rfl), rfl, ⟨.inr (by kernel_rfl), rfl, ⟨.inl (Zaj _ _), rfl, trivial⟩⟩⟩)
abbrev E52 : List Int → AV := fun y => vL Zdt y
section
variable {C : Cx} (p0 : List Fil)
def Zyk : List Int → St := fun r1 => mkS [(1, .ptr (1, 1) 0 0), (3, .ptr (1, 3) 0 0)] [((1, 1), ⟨0, true, 22, 1, [vL Zas p0]⟩), ((1, 3), ⟨0, true, 62, 1, [.ref (1, 1030) 0 0 r1.length]⟩), ((1, 1030), ⟨0, true, 3, 1, Zaa Zdt r1⟩)]
def ZCR : List Int → Nat × St := fun r3 => (0, mkS [(3, .ptr (1, 3) 0 0)] [((1, 3), ⟨0, true, 62, 1, [.ref (1, 1030) 0 0 r3.length]⟩), ((1, 1030), ⟨0, true, 3, 1, Zaa Zdt r3⟩)])
def ZqH (r1 : List Int) : PT 0 (Lv (List Int) (List Int) (List Int)) := vw .go <| vz (eqN r1.length) <| vw .go <| vz (eqL p0) <| br (decide ((r1.length : Int) < (p0.length : Int))) (vw .go <| cs tp 85 [vL Zas p0, .fn (.func 87) [] [.ptr (1, 3) 0 0, .ptr (1, 1) 0 0]] [(1, 3), (1, 1), (1, 1030)] [((1, 3), ⟨0, true, 62, 1, [.ref (1, 1030) 0 0 r1.length]⟩), ((1, 1), ⟨0, true, 22, 1, [vL Zas p0]⟩), ((1, 1030), ⟨0, true, 3, 1, Zaa Zdt r1⟩)] (ZbE p0 (fun (z0 : Fil) => Zbe z0 r1 p0)) (fun y => vI y) fun y2 => br (decide (y2 < (0 : Int))) (vw .go <| vz (fr r1) <| lrt E52 (fun _ => []) r1) (vw .go <| vw .sep <| ap r1 (y2 : Int) <| vw .go <| vz (fl (r1 ++ [y2])) <| ln (Zyk p0) (r1 ++ [y2]))) (vz (fl r1) <| lxe (ZCR) r1)
def ZnP := fun (r1 : List Int) => (ZqH p0 r1).m
def Zwg (r3 : List Int) : PT 0 (List Int) := vw .go <| vz (fr r3) <| lr E52 (fun _ => []) r3
def ZyX : PT 0 (List Int) := vw (.adc (1, 3) 0 1030 3 1) <| vz (fl ([] : List Int)) <| lc (Zyk p0 ([] : List Int)) ((Zad (ZnP p0) big ([] : List Int)).bind (Sum.elim (fun r3 => (Zwg r3).m) some))
def ZAR : PT 0 (List Int) := lc (mkS [(1, .ptr (1, 1) 0 0), (3, .ptr (1, 3) 0 0)] [((1, 1), ⟨0, true, 22, 1, [vL Zas p0]⟩), ((1, 3), ⟨0, true, 62, 1, [.e0]⟩)]) ((ZyX p0).m)
def Zdd (p0 : List Fil) : Option (List Int) := (ZAR p0).m
theorem Zy4 (co : CO C 0) : Kl 21 C (pa [0, 0, 0, 1, 1] (Zai Try.f52)) [.tmp 2] 0 (Zyk p0) (ZCR) E52 (fun _ => []) (ZnP p0) := fun r1 _ m Q Post hQ L => en co (ZqH p0 r1) (lf2 [1, 3] [((1, 1), false), ((1, 3), false), ((1, 1030), true)]) (lf2 [3] [((1, 3), false), ((1, 1030), true)]) hQ m L fun r g => ⟨⟨fun y hy => Zbh (ZGK p0 (fun (z0 : Fil) => Zbe z0 r1 p0)) hy co g [] [((1, 3), ⟨0, true, 62, 1, [.ref (1, 1030) 0 0 r1.length]⟩), ((1, 1), ⟨0, true, 22, 1, [vL Zas p0]⟩), ((1, 1030), ⟨0, true, 3, 1, Zaa Zdt r1⟩)] (lkS [(1, .fn (.func 87) [] [.ptr (r.κ (1, 3)) (r.γ (1, 3) + 0) 0, .ptr (r.κ (1, 1)) (r.γ (1, 1) + 0) 0])]) (fun H' hg ho => (fun z0 y hz => ZlF (ZBE z0 r1 p0) hz co g [((1, 3), ⟨0, true, 62, 1, [.ref (1, 1030) 0 0 r1.length]⟩), ((1, 1), ⟨0, true, 22, 1, [vL Zas p0]⟩), ((1, 1030), ⟨0, true, 3, 1, Zaa Zdt r1⟩)] [] hg (by simp) (fun _ => .top) (fun _ _ => trivial) (fun l H => ⟨fun _ => ⟨rfl, by kernel_rfl⟩, by kernel_rfl, ⟨fun _ => ⟨rfl, by kernel_rfl⟩, by kernel_rfl, ⟨fun _ => ⟨rfl, bz⟩, by kernel_rfl, trivial⟩⟩⟩))) (fun H => trivial), fun y2 => ⟨id, id⟩⟩, id⟩
end
theorem ZHD (p0 : List Fil) : KC tp 52 [vL Zas p0] (Zdd p0) E52 := kc1 Try.func52 Try.ntmps52 tok [.tmp 2] fun C co y m Post L => mi co 2 (ZAR p0) (lf2 [1, 3] [((1, 1), false), ((1, 3), false)]) nl ii m L fun r g _ m L => sq (bk 0 (Zn7 co (ZyX p0) (lf2 [1, 3] [((1, 1), false), ((1, 3), false), ((1, 1030), true)]) m L fun r g _ m L => lo (lpF (Zy4 p0 co) ii m L (fun r3 m => fo co (Zwg r3) m L fun r g => id))))
abbrev E53 : Bool → AV := fun y => vB y
section
variable {C : Cx} (co : CO C 0) (p0 : List Fil) (p1 : Int) (e4 : Fil) (r1 : List Int) (r2 : List Bool)
abbrev ZDx := PT 0 (Lv (List Int × List Bool) (Unit) (Bool))
abbrev Zr0 : List (Key × Bool) := [((1, 13), true), ((1, 15), true)]
abbrev ZC2 : List (Key × Blk) := [((1, 13), ⟨0, true, 4, 1, Zaa ZCg r2⟩), ((1, 15), ⟨0, true, 3, 1, Zaa Zdt r1⟩)]
abbrev ZCs : List (Nat × AV) := [(0, vL Zas p0), (1, vI p1), (5, .ref (1, 13) 0 0 r2.length), (6, .ref (1, 15) 0 0 r1.length)]
def ZCB : List Int × List Bool → St := fun (r1, r2) => mkS (ZCs p0 p1 r1 r2) (ZC2 r1 r2)
def ZBt : Unit → Nat × St := fun _ => (0, mkS [] [])
def Zt1 : List Int × Nat × List Bool → St := fun (r5, v6, r7) => mkS [(0, vL Zas p0), (1, vI p1), (5, .ref (1, 13) 0 0 r7.length), (6, .ref (1, 15) 0 0 r5.length), (28, vL Zag e4.imports), (29, vN e4.imports.length), (30, vN v6)] [((1, 13), ⟨0, true, 4, 1, Zaa ZCg r7⟩), ((1, 15), ⟨0, true, 3, 1, Zaa Zdt r5⟩)]
def ZDV : List Bool × List Int → Nat × St := fun (r11, r12) => (2, mkS [(0, vL Zas p0), (1, vI p1), (5, .ref (1, 13) 0 0 r11.length), (6, .ref (1, 15) 0 0 r12.length)] [((1, 13), ⟨0, true, 4, 1, Zaa ZCg r11⟩), ((1, 15), ⟨0, true, 3, 1, Zaa Zdt r12⟩)])
def Zvc (r5 : List Int) (v6 : Nat) (r7 : List Bool) : PT 0 (Lv (List Int × Nat × List Bool) (List Bool × List Int) (Bool)) := br (decide ((v6 : Int) < (e4.imports.length : Int))) (ix e4.imports v6 fun e8 => cl (Zy2 p0 e8) fun y9 => br (decide (y9 = p1)) (lrt E53 (fun _ => []) true) (vs (iri y9 r7.length 1) <| ca r7 y9.toNat fun e10 => br (!e10) (vs (iri y9 r7.length 1) <| vs (st r7 y9.toNat true) <| rn 5 13 r7.length (r7.set y9.toNat true) <| vw .sep <| vw .sep <| ap r5 (y9 : Int) <| vs (wa v6 1) <| vz (fl (r7.set y9.toNat true)) <| vz (fl (r5 ++ [y9])) <| ln (Zt1 p0 p1 e4) (r5 ++ [y9], v6 + 1, r7.set y9.toNat true)) (vs (wa v6 1) <| vz (fl r7) <| vz (fl r5) <| ln (Zt1 p0 p1 e4) (r5, v6 + 1, r7)))) (vz (fl r7) <| vz (fl r5) <| lxe (ZDV p0 p1) (r7, r5))
def Zk9 := fun ((r5, v6, r7) : List Int × Nat × List Bool) => (Zvc p0 p1 e4 r5 v6 r7).m
def Ztk : ZDx := vs (ir 0 r1.length 1) <| ca r1 0 fun e3 => ixi p0 e3 fun e4 => vw .go <| sR r1.length 0 (.nt 1) .no <| rb 6 15 (r1.length - 1) r1 (0 + 1) <| vw .sep <| vw .go <| vz (eqL e4.imports) <| vz (fl r2) <| vz (fl (r1.drop (0 + 1))) <| lc (Zt1 p0 p1 e4 (r1.drop (0 + 1), 0, r2)) ((Zad (Zk9 p0 p1 e4) big (r1.drop (0 + 1), 0, r2)).bind (Sum.elim (fun (r11, r12) => some (.nx (r12, r11))) (fun z => some (.rt z))))
def Zva : ZDx := vz (eqN r1.length) <| br (decide ((0 : Int) < (r1.length : Int))) (vz (fl r2) <| vz (fl r1) <| lc (mkS (ZCs p0 p1 r1 r2) (ZC2 r1 r2)) ((Ztk p0 p1 r1 r2).m)) (lxe (ZBt) ())
def Zna := fun ((r1, r2) : List Int × List Bool) => (Zva p0 p1 r1 r2).m
def Zxs : PT 0 (Bool) := lr E53 (fun _ => []) false
def ZAO : PT 0 (Bool) := vz (eqL p0) <| ms p0.length false [vB false] (by first | rfl | kernel_rfl) <| vw .go <| vz (fl (List.replicate p0.length false)) <| vz (fl ([p1] : List Int)) <| lc (ZCB p0 p1 (([p1] : List Int), List.replicate p0.length false)) ((Zad (Zna p0 p1) big (([p1] : List Int), List.replicate p0.length false)).bind (Sum.elim (fun _ => (Zxs).m) some))
def Zcp (p0 : List Fil) (p1 : Int) : Option (Bool) := (ZAO p0 p1).m
section
include co
theorem Zzl : Kl 53 C (pa [0, 0, 1, 1, 1, 0, 1, 0, 0, 0, 1, 1, 1] (Zai Try.f53)) [.tmp 4] 0 (Zt1 p0 p1 e4) (ZDV p0 p1) E53 (fun _ => []) (Zk9 p0 p1 e4) := fun (r5, v6, r7) _ m Q Post hQ L => en co (Zvc p0 p1 e4 r5 v6 r7) (lf2 [0, 1, 5, 6, 28, 29, 30] Zr0) (lf2 [0, 1, 5, 6] Zr0) hQ m L fun r g => ⟨fun e8 y9 => ⟨id, fun e10 => ⟨id, id⟩⟩, id⟩
theorem ZAq : Kl 53 C (pa [0, 0, 0, 1, 1, 1] (Zai Try.f53)) [.tmp 4] 0 (ZCB p0 p1) (ZBt) E53 (fun _ => []) (Zna p0 p1) := fun (r1, r2) _ m Q Post hQ L => mi co 1 (Zva p0 p1 r1 r2) (lf2 [0, 1, 5, 6] Zr0) nl hQ m L fun r g => ⟨fun _ m L => bk 1 (mi co 3 (Ztk p0 p1 r1 r2) (lf2 [0, 1, 5, 6, 28, 29, 30] Zr0) nl hQ m L fun r g e3 e4 _ m L => bk 2 (lo (lpL (Zzl co p0 p1 e4) hQ m L (fun (r11, r12) m => by cases m; exact L)))), id⟩
end
end
theorem ZHO (p0 : List Fil) (p1 : Int) : KC tp 53 [vL Zas p0, vI p1] (Zcp p0 p1) E53 := kc1 Try.func53 Try.ntmps53 tok [.tmp 4] fun C co y m Post L => mi co 3 (ZAO p0 p1) (lf2 [0, 1, 5, 6] [((1, 13), true), ((1, 15), true)]) nl ii m L fun r g _ m L => sq (bk 0 (lo (lpF (ZAq co p0 p1) ii m L (fun _ m => fo co (Zxs) m L fun r g => id))))
abbrev E22 : List Int × Bt × Int → AV := fun y => .tup [vL Zdt y.1, vS y.2.1, vI y.2.2]
section
variable {C : Cx} (co : CO C 0) (p0 : List Fil) (v4 : Nat) (e5 : Fil)
abbrev Zn1 := PT 0 (Lv (Nat) (Unit) (List Int × Bt × Int))
abbrev Zm0 := PT 0 (List Int × Bt × Int)
abbrev Zx4 : List (Nat × AV) := [(0, vL Zas p0), (38, vL Zas p0), (39, vN p0.length), (40, vN v4)]
def ZwO : Nat → St := fun v1 => mkS [(0, vL Zas p0), (22, vL Zas p0), (23, vN p0.length), (24, vN v1)] []
def ZDh : Unit → Nat × St := fun _ => (0, mkS [(0, vL Zas p0)] [])
def Zth (v1 : Nat) : Zn1 := br (decide ((v1 : Int) < (p0.length : Int))) (ix p0 v1 fun e2 => vw .go <| vw .go <| cl (Zy2 p0 e2.name) fun y3 => br (decide (y3 < (v1 : Int))) (vw .go <| lrt E22 (fun _ => []) ([], e2.name, 9)) (vs (wa v1 1) <| ln (ZwO p0) (v1 + 1))) (lxe (ZDh p0) ())
def Zns := fun (v1 : Nat) => (Zth p0 v1).m
def ZzY : Nat → St := fun v4 => mkS (Zx4 p0 v4) []
def ZB0 : Unit → Nat × St := fun _ => (2, mkS [(0, vL Zas p0)] [])
def ZAc : Nat → St := fun v6 => mkS [(0, vL Zas p0), (8, .ptr (1, 8) 0 0), (38, vL Zas p0), (39, vN p0.length), (40, vN v4), (45, vL Zag e5.imports), (46, vN e5.imports.length), (47, vN v6)] [((1, 8), ⟨0, true, 61, 6, [vS e5.name, vS e5.space, vL Zag e5.imports, vL Zap e5.messages, vL Zam e5.enums, vL Zaq e5.services]⟩)]
def ZBG : Unit → Nat × St := fun _ => (4, mkS (Zx4 p0 v4) [])
def Zsi (v6 : Nat) : Zn1 := br (decide ((v6 : Int) < (e5.imports.length : Int))) (ix e5.imports v6 fun e7 => cl (Zy2 p0 e7) fun y8 => br (decide (y8 < (0 : Int))) (vw .go <| lrt E22 (fun _ => []) ([], e5.name, 10)) (vs (wa v6 1) <| ln (ZAc p0 v4 e5) (v6 + 1))) (lxe (ZBG p0 v4) ())
def ZpP := fun (v6 : Nat) => (Zsi p0 v4 e5 v6).m
def Zr8 : Zn1 := vs (wa v4 1) <| ln (ZzY p0) (v4 + 1)
def ZuT : Zn1 := ix p0 v4 fun e5 => vw .go <| vw .go <| vz (eqL e5.imports) <| lc (ZAc p0 v4 e5 0) ((Zad (ZpP p0 v4 e5) big 0).bind (Sum.elim (fun _ => (Zr8 p0 v4).m) (fun z => some (.rt z))))
def Zuh : Zn1 := br (decide ((v4 : Int) < (p0.length : Int))) (lc (mkS (Zx4 p0 v4) []) ((ZuT p0 v4).m)) (lxe (ZB0 p0) ())
def ZnZ := fun (v4 : Nat) => (Zuh p0 v4).m
def ZyP : Nat → St := fun v10 => mkS [(0, vL Zas p0), (67, vL Zas p0), (68, vN p0.length), (69, vN v10)] []
def ZD0 : Unit → Nat × St := fun _ => (6, mkS [] [])
def ZsF (v10 : Nat) : Zn1 := br (decide ((v10 : Int) < (p0.length : Int))) (ix p0 v10 fun e11 => vw .go <| cl (ZHO p0 (v10 : Int)) fun y12 => br y12 (vw .go <| lrt E22 (fun _ => []) ([], e11.name, 19)) (vs (wa v10 1) <| ln (ZyP p0) (v10 + 1))) (lxe (ZD0) ())
def ZnB := fun (v10 : Nat) => (ZsF p0 v10).m
def ZtO : Zm0 := lr E22 (fun _ => []) ([], ⟨#[]⟩, 19)
def ZuP : Zm0 := vz (eqL p0) <| lc (ZyP p0 0) ((Zad (ZnB p0) big 0).bind (Sum.elim (fun _ => (ZtO).m) some))
def ZrO : Zm0 := cl (ZHD p0) fun y9 => vz (eqL y9) <| vz (eqL p0) <| br (decide ((y9.length : Int) = (p0.length : Int))) (lr E22 (fun _ => []) (y9, ⟨#[]⟩, 0)) (lc (mkS [(0, vL Zas p0)] []) ((ZuP p0).m))
def Zmu : Zm0 := vz (eqL p0) <| lc (ZzY p0 0) ((Zad (ZnZ p0) big 0).bind (Sum.elim (fun _ => (ZrO p0).m) some))
def ZmC : Zm0 := vz (eqL p0) <| lc (ZwO p0 0) ((Zad (Zns p0) big 0).bind (Sum.elim (fun _ => (Zmu p0).m) some))
def ZmF : Zm0 := vz (eqL p0) <| vy (!(decide ((p0.length : Int) < (1 : Int)))) (eqL p0) <| br (decide ((p0.length : Int) < (1 : Int)) || decide ((16 : Int) < (p0.length : Int))) (lr E22 (fun _ => []) ([], ⟨#[]⟩, 3)) (lc (mkS [(0, vL Zas p0)] []) ((ZmC p0).m))
def ZdG (p0 : List Fil) : Option (List Int × Bt × Int) := (ZmF p0).m
section
include co
theorem Zxc : Kl 80 C (pa [0, 0, 1, 0, 1, 1] (Zai Try.f22)) [.tmp 2, .tmp 3, .tmp 4] 0 (ZwO p0) (ZDh p0) E22 (fun _ => []) (Zns p0) := fun v1 _ m Q Post hQ L => en co (Zth p0 v1) (lf1 [0, 22, 23, 24]) (lf1 [0]) hQ m L fun r g => ⟨fun e2 y3 => ⟨id, id⟩, id⟩
theorem ZwW : Kl 80 C (pa [0, 0, 1, 1, 0, 0, 1, 1, 0, 0, 1, 0, 1, 1, 1] (Zai Try.f22)) [.tmp 2, .tmp 3, .tmp 4] 0 (ZAc p0 v4 e5) (ZBG p0 v4) E22 (fun _ => []) (ZpP p0 v4 e5) := fun v6 _ m Q Post hQ L => en co (Zsi p0 v4 e5 v6) (lf2 [0, 8, 38, 39, 40, 45, 46, 47] [((1, 8), false)]) (lf1 [0, 38, 39, 40]) hQ m L fun r g => ⟨fun e7 y8 => ⟨id, id⟩, id⟩
theorem Zz7 : Kl 80 C (pa [0, 0, 1, 0, 1, 1, 1] (Zai Try.f22)) [.tmp 2, .tmp 3, .tmp 4] 0 (ZzY p0) (ZB0 p0) E22 (fun _ => []) (ZnZ p0) := fun v4 _ m Q Post hQ L => mi co 2 (Zuh p0 v4) (lf1 [0, 38, 39, 40]) (lf1 [0]) hQ m L fun r g => ⟨fun _ m L => sq (bk 3 (mi co 2 (ZuT p0 v4) (lf2 [0, 8, 38, 39, 40, 45, 46, 47] [((1, 8), false)]) nl hQ m L fun r g e5 _ m L => bk 4 (lo (lpL (ZwW co p0 v4 e5) hQ m L (fun _ m => en co (Zr8 p0 v4) (lf1 [0, 38, 39, 40]) nl hQ m L fun r g => id))))), id⟩
theorem ZwY : Kl 80 C (pa [0, 0, 1, 0, 1, 1, 1, 1, 1, 1] (Zai Try.f22)) [.tmp 2, .tmp 3, .tmp 4] 0 (ZyP p0) (ZD0) E22 (fun _ => []) (ZnB p0) := fun v10 _ m Q Post hQ L => en co (ZsF p0 v10) (lf1 [0, 67, 68, 69]) nl hQ m L fun r g => ⟨fun e11 y12 => ⟨id, id⟩, id⟩
end
end
theorem ZIk (p0 : List Fil) : KC tp 22 [vL Zas p0] (ZdG p0) E22 := kc1 Try.func22 Try.ntmps22 tok [.tmp 2, .tmp 3, .tmp 4] fun C co y m Post L => mi co 2 (ZmF p0) (lf1 [0]) nl ii m L fun r g => ⟨id, fun _ m L => sq (mi co 1 (ZmC p0) (lf1 [0, 22, 23, 24]) nl ii m L fun r g _ m L => bk 0 (lo (lpF (Zxc co p0) ii m L (fun _ m => sq (mi co 1 (Zmu p0) (lf1 [0, 38, 39, 40]) nl ii m L fun r g _ m L => bk 2 (lo (lpF (Zz7 co p0) ii m L (fun _ m => mi co 2 (ZrO p0) (lf1 [0]) nl ii m L fun r g y9 => ⟨id, fun _ m L => sq (mi co 1 (ZuP p0) (lf1 [0, 67, 68, 69]) nl ii m L fun r g _ m L => bk 6 (lo (lpF (ZwY co p0) ii m L (fun _ m => fo co (ZtO) m L fun r g => id))))⟩))))))))⟩
abbrev E25 : Bt → AV := fun y => vS y
def ZzJ (p0 : Bt) (p1 : Bt) : PT 0 (Bt) := br (decide (p0 = (⟨#[]⟩ : Bt))) (lr E25 (fun _ => []) p1) (ad p0 (⟨#[46]⟩ : Bt) fun s1 => ad s1 p1 fun s2 => lr E25 (fun _ => []) s2)
def ZdD (p0 : Bt) (p1 : Bt) : Option (Bt) := (ZzJ p0 p1).m
theorem Zzd (p0 : Bt) (p1 : Bt) : KC tp 25 [vS p0, vS p1] (ZdD p0 p1) E25 := kc1 Try.func25 Try.ntmps25 tok [.tmp 4] fun C co y m Post L => fo co (ZzJ p0 p1) m L fun r g => ⟨id, fun s1 s2 => id⟩
abbrev E24 : List Bt × List Bt × List Bt → AV := fun y => .tup [vL Zag y.1, vL Zag y.2.1, vL Zag y.2.2]
section
variable {C : Cx} (co : CO C 0) (p0 : Fil) (r5 r10 : List Bt)
abbrev ZjA := PT 0 (List Bt × List Bt × List Bt)
abbrev Zif : Blk := ⟨0, true, 61, 6, [vS p0.name, vS p0.space, vL Zag p0.imports, vL Zap p0.messages, vL Zam p0.enums, vL Zaq p0.services]⟩
abbrev Zk6 : Blk := ⟨0, true, 9, 1, Zaa Zag r5⟩
abbrev Zsg : Blk := ⟨0, true, 9, 1, Zaa Zag r10⟩
abbrev Zn0 (t : List (Nat × AV)) : List (Nat × AV) := (1, .ptr (1, 1) 0 0) :: (2, .ref (1, 2) 0 0 r5.length) :: t
def Zyg : List Bt × Nat → St := fun (r1, v2) => mkS [(1, .ptr (1, 1) 0 0), (2, .ref (1, 2) 0 0 r1.length), (3, .e0), (4, .e0), (12, vL Zap p0.messages), (13, vN p0.messages.length), (14, vN v2)] [((1, 1), (Zif p0)), ((1, 2), ⟨0, true, 9, 1, Zaa Zag r1⟩)]
def ZCy : List Bt → Nat × St := fun r5 => (0, mkS (Zn0 r5 [(3, .e0), (4, .e0)]) [((1, 1), (Zif p0)), ((1, 2), (Zk6 r5))])
def Ztl (r1 : List Bt) (v2 : Nat) : PT 0 (Lv (List Bt × Nat) (List Bt) (List Bt × List Bt × List Bt)) := br (decide ((v2 : Int) < (p0.messages.length : Int))) (ix p0.messages v2 fun e3 => vw .go <| vw .go <| vw .go <| cl (Zzd p0.space e3.name) fun y4 => vw .sep <| ap r1 (y4 : Bt) <| vs (wa v2 1) <| vz (fl (r1 ++ [y4])) <| ln (Zyg p0) (r1 ++ [y4], v2 + 1)) (vz (fl r1) <| lxe (ZCy p0) r1)
def ZpI := fun ((r1, v2) : List Bt × Nat) => (Ztl p0 r1 v2).m
def Zyu : List Bt × Nat → St := fun (r6, v7) => mkS (Zn0 r5 [(3, .ref (1, 3) 0 0 r6.length), (4, .e0), (28, vL Zam p0.enums), (29, vN p0.enums.length), (30, vN v7)]) [((1, 1), (Zif p0)), ((1, 2), (Zk6 r5)), ((1, 3), ⟨0, true, 9, 1, Zaa Zag r6⟩)]
def ZCX : List Bt → Nat × St := fun r10 => (2, mkS (Zn0 r5 [(3, .ref (1, 3) 0 0 r10.length), (4, .e0)]) [((1, 1), (Zif p0)), ((1, 2), (Zk6 r5)), ((1, 3), (Zsg r10))])
def ZtR (r6 : List Bt) (v7 : Nat) : PT 0 (Lv (List Bt × Nat) (List Bt) (List Bt × List Bt × List Bt)) := br (decide ((v7 : Int) < (p0.enums.length : Int))) (ix p0.enums v7 fun e8 => vw .go <| vw .go <| vw .go <| cl (Zzd p0.space e8.name) fun y9 => vw .sep <| ap r6 (y9 : Bt) <| vs (wa v7 1) <| vz (fl r5) <| vz (fl (r6 ++ [y9])) <| ln (Zyu p0 r5) (r6 ++ [y9], v7 + 1)) (vz (fl r5) <| vz (fl r6) <| lxe (ZCX p0 r5) r6)
def ZoA := fun ((r6, v7) : List Bt × Nat) => (ZtR p0 r5 r6 v7).m
def ZAN : List Bt × Nat → St := fun (r11, v12) => mkS (Zn0 r5 [(3, .ref (1, 3) 0 0 r10.length), (4, .ref (1, 4) 0 0 r11.length), (44, vL Zaq p0.services), (45, vN p0.services.length), (46, vN v12)]) [((1, 1), (Zif p0)), ((1, 2), (Zk6 r5)), ((1, 3), (Zsg r10)), ((1, 4), ⟨0, true, 9, 1, Zaa Zag r11⟩)]
def ZDa : List Bt → Nat × St := fun r15 => (4, mkS [(2, .ref (1, 2) 0 0 r5.length), (3, .ref (1, 3) 0 0 r10.length), (4, .ref (1, 4) 0 0 r15.length)] [((1, 2), (Zk6 r5)), ((1, 3), (Zsg r10)), ((1, 4), ⟨0, true, 9, 1, Zaa Zag r15⟩)])
def ZrR (r11 : List Bt) (v12 : Nat) : PT 0 (Lv (List Bt × Nat) (List Bt) (List Bt × List Bt × List Bt)) := br (decide ((v12 : Int) < (p0.services.length : Int))) (ix p0.services v12 fun e13 => vw .go <| vw .go <| vw .go <| cl (Zzd p0.space e13.name) fun y14 => vw .sep <| ap r11 (y14 : Bt) <| vs (wa v12 1) <| vz (fl r5) <| vz (fl r10) <| vz (fl (r11 ++ [y14])) <| ln (ZAN p0 r5 r10) (r11 ++ [y14], v12 + 1)) (vz (fl r5) <| vz (fl r10) <| vz (fl r11) <| lxe (ZDa r5 r10) r11)
def Zq9 := fun ((r11, v12) : List Bt × Nat) => (ZrR p0 r5 r10 r11 v12).m
def Zyl (r15 : List Bt) : ZjA := vz (fr r5) <| vz (fr r10) <| vz (fr r15) <| lr E24 (fun _ => []) (r5, r10, r15)
def ZzD : ZjA := vw (.ads 4 4 9 1) <| vz (fl r5) <| vz (fl r10) <| vz (fl ([] : List Bt)) <| lc (ZAN p0 r5 r10 (([] : List Bt), 0)) ((Zad (Zq9 p0 r5 r10) big (([] : List Bt), 0)).bind (Sum.elim (fun r15 => (Zyl r5 r10 r15).m) some))
def Zx6 : ZjA := vw .go <| vz (eqL p0.services) <| vz (fl r5) <| vz (fl r10) <| lc (mkS (Zn0 r5 [(3, .ref (1, 3) 0 0 r10.length), (4, .e0), (44, vL Zaq p0.services), (45, vN p0.services.length), (46, vI 0)]) [((1, 1), (Zif p0)), ((1, 2), (Zk6 r5)), ((1, 3), (Zsg r10))]) ((ZzD p0 r5 r10).m)
def ZzF : ZjA := vw (.ads 3 3 9 1) <| vz (fl r5) <| vz (fl ([] : List Bt)) <| lc (Zyu p0 r5 (([] : List Bt), 0)) ((Zad (ZoA p0 r5) big (([] : List Bt), 0)).bind (Sum.elim (fun r10 => (Zx6 p0 r5 r10).m) some))
def Zxe : ZjA := vw .go <| vz (eqL p0.enums) <| vz (fl r5) <| lc (mkS (Zn0 r5 [(3, .e0), (4, .e0), (28, vL Zam p0.enums), (29, vN p0.enums.length), (30, vI 0)]) [((1, 1), (Zif p0)), ((1, 2), (Zk6 r5))]) ((ZzF p0 r5).m)
def Zw4 : ZjA := vw (.ads 2 2 9 1) <| vz (fl ([] : List Bt)) <| lc (Zyg p0 (([] : List Bt), 0)) ((Zad (ZpI p0) big (([] : List Bt), 0)).bind (Sum.elim (fun r5 => (Zxe p0 r5).m) some))
def Zqb : ZjA := vw .go <| vz (eqL p0.messages) <| lc (mkS [(1, .ptr (1, 1) 0 0), (2, .e0), (3, .e0), (4, .e0), (12, vL Zap p0.messages), (13, vN p0.messages.length), (14, vI 0)] [((1, 1), (Zif p0))]) ((Zw4 p0).m)
def Zry : ZjA := lc (mkS [(1, .ptr (1, 1) 0 0), (2, .e0), (3, .e0), (4, .e0)] [((1, 1), (Zif p0))]) ((Zqb p0).m)
def ZeS (p0 : Fil) : Option (List Bt × List Bt × List Bt) := (Zry p0).m
section
include co
theorem Zze : Kl 62 C (pa [0, 0, 1, 0, 1] (Zai Try.f24)) [.tmp 2, .tmp 3, .tmp 4] 0 (Zyg p0) (ZCy p0) E24 (fun _ => []) (ZpI p0) := fun (r1, v2) _ m Q Post hQ L => en co (Ztl p0 r1 v2) (lf2 [1, 2, 3, 4, 12, 13, 14] [((1, 1), false), ((1, 2), true)]) (lf2 [1, 2, 3, 4] [((1, 1), false), ((1, 2), true)]) hQ m L fun r g => ⟨fun e3 y4 => id, id⟩
theorem Zxw : Kl 62 C (pa [0, 0, 1, 0, 1, 1] (Zai Try.f24)) [.tmp 2, .tmp 3, .tmp 4] 0 (Zyu p0 r5) (ZCX p0 r5) E24 (fun _ => []) (ZoA p0 r5) := fun (r6, v7) _ m Q Post hQ L => en co (ZtR p0 r5 r6 v7) (lf2 [1, 2, 3, 4, 28, 29, 30] [((1, 1), false), ((1, 2), true), ((1, 3), true)]) (lf2 [1, 2, 3, 4] [((1, 1), false), ((1, 2), true), ((1, 3), true)]) hQ m L fun r g => ⟨fun e8 y9 => id, id⟩
theorem ZAb : Kl 62 C (pa [0, 0, 1, 0, 1, 1, 1] (Zai Try.f24)) [.tmp 2, .tmp 3, .tmp 4] 0 (ZAN p0 r5 r10) (ZDa r5 r10) E24 (fun _ => []) (Zq9 p0 r5 r10) := fun (r11, v12) _ m Q Post hQ L => en co (ZrR p0 r5 r10 r11 v12) (lf2 [1, 2, 3, 4, 44, 45, 46] [((1, 1), false), ((1, 2), true), ((1, 3), true), ((1, 4), true)]) (lf2 [2, 3, 4] [((1, 2), true), ((1, 3), true), ((1, 4), true)]) hQ m L fun r g => ⟨fun e13 y14 => id, id⟩
end
end
theorem ZCp (p0 : Fil) : KC tp 24 [.agg ((Zas p0).map .d)] (ZeS p0) E24 := kc1 Try.func24 Try.ntmps24 tok [.tmp 2, .tmp 3, .tmp 4] fun C co y m Post L => mi co 1 (Zry p0) (lf2 [1, 2, 3, 4] [((1, 1), false)]) nl ii m L fun r g _ m L => sq (mi co 1 (Zqb p0) (lf2 [1, 2, 3, 4, 12, 13, 14] [((1, 1), false)]) nl ii m L fun r g _ m L => bk 0 (Zn7 co (Zw4 p0) (lf2 [1, 2, 3, 4, 12, 13, 14] [((1, 1), false), ((1, 2), true)]) m L fun r g _ m L => lo (lpF (Zze co p0) ii m L (fun r5 m => sq (mi co 1 (Zxe p0 r5) (lf2 [1, 2, 3, 4, 28, 29, 30] [((1, 1), false), ((1, 2), true)]) nl ii m L fun r g _ m L => bk 2 (Zn7 co (ZzF p0 r5) (lf2 [1, 2, 3, 4, 28, 29, 30] [((1, 1), false), ((1, 2), true), ((1, 3), true)]) m L fun r g _ m L => lo (lpF (Zxw co p0 r5) ii m L (fun r10 m => sq (mi co 1 (Zx6 p0 r5 r10) (lf2 [1, 2, 3, 4, 44, 45, 46] [((1, 1), false), ((1, 2), true), ((1, 3), true)]) nl ii m L fun r g _ m L => bk 4 (Zn7 co (ZzD p0 r5 r10) (lf2 [1, 2, 3, 4, 44, 45, 46] [((1, 1), false), ((1, 2), true), ((1, 3), true), ((1, 4), true)]) m L fun r g _ m L => lo (lpF (ZAb co p0 r5 r10) ii m L (fun r15 m => fo co (Zyl r5 r10 r15) m L fun r g => id))))))))))))
def ZCF : Go.Shelf.Ren := ⟨fun | 4 => 82 | n => n, fun | 22 => 34 | 25 => 9 | n => n, fun n => n⟩
theorem ZzS : Go.Proofs.Lays8.n4 tp ZCF := {
 mixed := by kernel_rfl,
 f4 := ⟨Try.f82.name, by decide +kernel, Try.func82.trans (congrArg some (by kernel_rfl))⟩,
 t0 := Try.underlying0,
 a0 := Try.isAgg0,
 z0 := Try.sizeOf0,
 v0 := Try.zeroValue0,
 t3 := Try.underlying3,
 a3 := Try.isAgg3,
 z3 := Try.sizeOf3,
 v3 := Try.zeroValue3,
 t4 := Try.underlying4,
 a4 := Try.isAgg4,
 z4 := Try.sizeOf4,
 v4 := Try.zeroValue4,
 t9 := Try.underlying9,
 a9 := Try.isAgg9,
 z9 := Try.sizeOf9,
 v9 := Try.zeroValue9,
 t20 := Try.underlying20,
 a20 := Try.isAgg20,
 z20 := Try.sizeOf20,
 v20 := Try.zeroValue20,
 t22 := Try.underlying34,
 a22 := Try.isAgg34,
 z22 := Try.sizeOf34,
 v22 := Try.zeroValue34 }
abbrev E82 : List Bt → AV := fun y => .ref (0, 0) 1 0 y.length
@[reducible] def G82 : List Bt → List Blk := fun y => [⟨1, true, 9, 1, Zaa Zag y⟩]
def ZeT (n : Nat) : Option (List Bt) := if n < 549755813888 then some [] else none
theorem ZIc (n : Nat) : KO tp 82 1 [.e0, vN n] [⟨0, false, 0, 0, []⟩] (fun _ _ _ _ => True) (ZeT n) E82 G82 := ⟨fun l H ks gs θ hks hlow hnd hH _ y hy => by
 obtain ⟨h0, hy⟩ := ZaC hy
 cases hy
 match ks, hks with
 | [k0], _ =>
  have hi : ∃ i0 z, (Try.prog).info? 9 = some i0 ∧ i0.zero = some z ∧ i0.size = 1 ∧ z.cells.size = i0.size ∧ i0.bytes ≤ 256 := ⟨_, _, rfl, rfl, rfl, by decide +kernel, by decide +kernel⟩
  obtain ⟨i0, z, h1, h2, h3, h4, h5⟩ := hi
  exact Zno ZzS i0 z h1 h2 (by rw [h3]; decide) h4 h5 ⟨_, Zai Try.f82, Try.func82, by kernel_rfl, by kernel_rfl⟩ hlow.1 hH.1.1 n h0 (by rw [h3]; exact ⟨rfl, rfl⟩)⟩
abbrev E47 : List Bt → AV := fun y => .ref (0, 0) 1 0 y.length
@[reducible] def G47 : List Bt → List Blk := fun y => [⟨1, true, 9, 1, Zaa Zag y⟩]
section
variable {C : Cx} (co : CO C 1) (p0 : List (List Bt)) (y5 : List Bt)
abbrev Zm6 := PT 1 (List Bt)
def Zz8 : Nat × Nat → St := fun (v1, v2) => mkS [(0, vL ZbR p0), (3, vN v1), (9, vL ZbR p0), (10, vN p0.length), (11, vN v2)] []
def ZBi : Nat → Nat × St := fun v4 => (0, mkS [(0, vL ZbR p0), (3, vN v4)] [])
def Zsj (v1 : Nat) (v2 : Nat) : PT 1 (Lv (Nat × Nat) (Nat) (List Bt)) := br (decide ((v2 : Int) < (p0.length : Int))) (ix p0 v2 fun e3 => vz (eqL e3) <| vs (wa v1 e3.length) <| br (decide (((v1 + e3.length : Nat) : Int) < (0 : Int))) (dd) (vs (wa v2 1) <| ln (Zz8 p0) (v1 + e3.length, v2 + 1))) (lxe (ZBi p0) v1)
def Zrc := fun ((v1, v2) : Nat × Nat) => (Zsj p0 v1 v2).m
def Zxu : List Bt × Nat → St := fun (r6, v7) => mkS [(6, .ref (1, 24) 0 0 r6.length), (25, vL ZbR p0), (26, vN p0.length), (27, vN v7)] [((1, 24), ⟨0, true, 9, 1, Zaa Zag r6⟩)]
def ZDD : List Bt → Nat × St := fun r9 => (2, mkS [(6, .ref (1, 24) 0 0 r9.length)] [((1, 24), ⟨0, true, 9, 1, Zaa Zag r9⟩)])
def Zsx (r6 : List Bt) (v7 : Nat) : PT 1 (Lv (List Bt × Nat) (List Bt) (List Bt)) := br (decide ((v7 : Int) < (p0.length : Int))) (ix p0 v7 fun e8 => aq r6 e8 <| vs (wa v7 1) <| vz (fl (r6 ++ e8)) <| ln (Zxu p0) (r6 ++ e8, v7 + 1)) (vz (fl r6) <| lxe (ZDD) r6)
def Zrd := fun ((r6, v7) : List Bt × Nat) => (Zsx p0 r6 v7).m
def ZyK (r9 : List Bt) : Zm6 := vw .sep <| mv 24 0 r9 <| lr E47 (G47) r9
def Zww : Zm6 := vz (eqL p0) <| vz (fl y5) <| lc (Zxu p0 (y5, 0)) ((Zad (Zrd p0) big (y5, 0)).bind (Sum.elim (fun r9 => (ZyK r9).m) some))
def Zyw : Zm6 := vz (fl y5) <| lc (mkS [(0, vL ZbR p0), (6, .ref (1, 24) 0 0 y5.length)] [((1, 24), ⟨0, true, 9, 1, Zaa Zag y5⟩)]) ((Zww p0 y5).m)
def ZyD (v4 : Nat) : Zm6 := lc (mkS [(0, vL ZbR p0), (23, vN v4)] []) ((ZeT v4).bind fun y5 => (Zyw p0 y5).m)
def ZAl : Zm6 := vz (eqL p0) <| lc (Zz8 p0 (0, 0)) ((Zad (Zrc p0) big (0, 0)).bind (Sum.elim (fun v4 => (ZyD p0 v4).m) some))
def ZAf : Zm6 := lc (mkS [(0, vL ZbR p0), (3, vI 0)] []) ((ZAl p0).m)
def Zay (p0 : List (List Bt)) : Option (List Bt) := (ZAf p0).m
section
include co
theorem Zzp : Kl 36 C (pa [0, 0, 1, 0, 1, 1] (Zai Try.f47)) [.tmp 2] 1 (Zz8 p0) (ZBi p0) E47 (G47) (Zrc p0) := fun (v1, v2) _ m Q Post hQ L => en co (Zsj p0 v1 v2) (lf1 [0, 3, 9, 10, 11]) (lf1 [0, 3]) hQ m L fun r g => ⟨fun e3 => ⟨trivial, id⟩, id⟩
theorem Zwm : Kl 36 C (pa [0, 0, 1, 0, 1, 1, 1, 1] (Zai Try.f47)) [.tmp 2] 1 (Zxu p0) (ZDD) E47 (G47) (Zrd p0) := fun (r6, v7) _ m Q Post hQ L => en co (Zsx p0 r6 v7) (lf2 [6, 25, 26, 27] [((1, 24), true)]) (lf2 [6] [((1, 24), true)]) hQ m L fun r g => ⟨fun e8 => id, id⟩
end
end
theorem ZEq (p0 : List (List Bt)) : KO tp 47 1 [vL ZbR p0] [⟨0, false, 0, 0, []⟩] (fun _ _ _ _ => True) (Zay p0) E47 (G47) := ko1 Try.func47 Try.ntmps47 tok [.tmp 2] 1 (fun C co hT y m Post L => mi co 2 (ZAf p0) (lf1 [0, 3]) nl ii m L fun r g _ m L => sq (mi co 1 (ZAl p0) (lf1 [0, 3, 9, 10, 11]) nl ii m L fun r g _ m L => bk 0 (lo (lpF (Zzp co p0) ii m L (fun v4 m => sq (rg (Zb8 co tok 1 (ZyD p0 v4) (lf1 [0, 23]) m L fun r g _ m L => ZaS co m 82 [.e0, vN v4] [(1, 24)] ([((1, 24), ⟨0, false, 0, 0, []⟩)] ++ []) (fun z => .ref (1, 24) 1 0 z.length) (fun z => [((1, 24), ⟨1, true, 9, 1, Zaa Zag z⟩)]) [] (fun z => trivial) (trivial) (fun z hz r g => Zae (ZIc v4) hz co g [((1, 24), ⟨0, false, 0, 0, []⟩)] [] [((1, 24), ⟨1, true, 9, 1, Zaa Zag z⟩)] (lkS []) (fun H' hg ho => trivial) (fun H => ⟨(fun h => by cases h), by kernel_rfl, trivial⟩) (fun H => ⟨fun _ => ⟨rfl, bz⟩, by kernel_rfl, trivial⟩)) fun y5 m => Zb4 co tok (Zyw p0 y5) (lf2 [0, 6] [((1, 24), true)]) m L fun r g _ m L => sq (mi co 1 (Zww p0 y5) (lf2 [6, 25, 26, 27] [((1, 24), true)]) nl ii m L fun r g _ m L => bk 2 (lo (lpF (Zwm co p0) ii m L (fun r9 m => fo co (ZyK r9) m L fun r g => id))))))))))) (hB := fun y => ⟨.inl (Zaj _ _), rfl, trivial⟩)
abbrev E91 : Int → AV := fun y => vI y
section
variable {C : Cx} (p0 : List Bt) (p1 : Bt)
def ZyO : Nat → St := fun v1 => mkS [(0, vL Zag p0), (1, vS p1), (7, vN p0.length), (8, vN v1)] []
def ZCE : Unit → Nat × St := fun _ => (0, mkS [] [])
def ZuD (v1 : Nat) : PT 0 (Lv (Nat) (Unit) (Int)) := br (decide ((v1 : Int) < (p0.length : Int))) (ix p0 v1 fun e2 => br (decide (p1 = e2)) (lrt E91 (fun _ => []) (v1 : Int)) (vs (wa v1 1) <| ln (ZyO p0 p1) (v1 + 1))) (lxe (ZCE) ())
def Zuf := fun (v1 : Nat) => (ZuD p0 p1 v1).m
def ZwE : PT 0 (Int) := lr E91 (fun _ => []) (-1)
def Zxv : PT 0 (Int) := vz (eqL p0) <| lc (ZyO p0 p1 0) ((Zad (Zuf p0 p1) big 0).bind (Sum.elim (fun _ => (ZwE).m) some))
def ZzL : PT 0 (Int) := lc (mkS [(0, vL Zag p0), (1, vS p1)] []) ((Zxv p0 p1).m)
def Zc4 (p0 : List Bt) (p1 : Bt) : Option (Int) := (ZzL p0 p1).m
theorem Zzc (co : CO C 0) : Kl 19 C (pa [0, 0, 1, 0, 1] (Zai Try.f91)) [.tmp 4] 0 (ZyO p0 p1) (ZCE) E91 (fun _ => []) (Zuf p0 p1) := fun v1 _ m Q Post hQ L => en co (ZuD p0 p1 v1) (lf1 [0, 1, 7, 8]) nl hQ m L fun r g => ⟨fun e2 => ⟨id, id⟩, id⟩
end
theorem ZHK (p0 : List Bt) (p1 : Bt) : KC tp 91 [vL Zag p0, vS p1] (Zc4 p0 p1) E91 := kc1 Try.func91 Try.ntmps91 tok [.tmp 4] fun C co y m Post L => mi co 1 (ZzL p0 p1) (lf1 [0, 1]) nl ii m L fun r g _ m L => sq (mi co 1 (Zxv p0 p1) (lf1 [0, 1, 7, 8]) nl ii m L fun r g _ m L => bk 0 (lo (lpF (Zzc p0 p1 co) ii m L (fun _ m => fo co (ZwE) m L fun r g => id))))
abbrev E54 : Bool → AV := fun y => vB y
def ZzH (p0 : List Bt) (p1 : Bt) : PT 0 (Bool) := cl (ZHK p0 p1) fun y1 => lr E54 (fun _ => []) (decide ((0 : Int) ≤ y1))
def ZaW (p0 : List Bt) (p1 : Bt) : Option (Bool) := (ZzH p0 p1).m
theorem ZCM (p0 : List Bt) (p1 : Bt) : KC tp 54 [vL Zag p0, vS p1] (ZaW p0 p1) E54 := kc1 Try.func54 Try.ntmps54 tok [.tmp 4] fun C co y m Post L => fo co (ZzH p0 p1) m L fun r g y1 => id
abbrev E23 : Bt × Int → AV := fun y => .tup [vS y.1, vI y.2]
section
variable {C : Cx} (co : CO C 0) (p0 : List Fil) (r1 : List Bt) (v2 v3 v4 v5 : Nat) (y7 : List Bt × List Bt × List Bt) (y8 r12 : List Bt)
abbrev Zqa := PT 0 (Lv (List Bt × Nat × Nat × Nat × Nat) (Nat × Nat × Nat × List Bt) (Bt × Int))
abbrev ZkC := PT 0 (Bt × Int)
abbrev Zu0 : List (Key × Blk) := [((1, 4), ⟨0, true, 9, 1, Zaa Zag r1⟩)]
abbrev ZDS : List (Nat × AV) := [(4, .ref (1, 4) 0 0 r1.length), (5, vN v2), (6, vN v3), (7, vN v4), (15, vL Zas p0), (16, vN p0.length), (17, vN v5)]
abbrev ZyI : List (Key × Blk) := [((1, 4), ⟨0, true, 9, 1, Zaa Zag r12⟩)]
def Zwl : List Bt × Nat × Nat × Nat × Nat → St := fun (r1, v2, v3, v4, v5) => mkS (ZDS p0 r1 v2 v3 v4 v5) (Zu0 r1)
def ZDz : Nat × Nat × Nat × List Bt → Nat × St := fun (v9, v10, v11, r12) => (0, mkS [(4, .ref (1, 4) 0 0 r12.length), (5, vN v9), (6, vN v10), (7, vN v11)] (ZyI r12))
def ZrM : Zqa := vs (wa v5 1) <| vz (fl (r1 ++ y8)) <| ln (Zwl p0) (r1 ++ y8, v2 + y7.1.length, v3 + y7.2.1.length, v4 + y7.2.2.length, v5 + 1)
def ZtK : Zqa := ar r1 y8 (1, 44) 1 <| vz (fl (r1 ++ y8)) <| lc (mkS [(4, .ref (1, 4) 0 0 (r1 ++ y8).length), (5, vN (v2 + y7.1.length)), (6, vN (v3 + y7.2.1.length)), (7, vN (v4 + y7.2.2.length)), (15, vL Zas p0), (16, vN p0.length), (17, vN v5)] [((1, 4), ⟨0, true, 9, 1, Zaa Zag (r1 ++ y8)⟩)]) ((ZrM p0 r1 v2 v3 v4 v5 y7 y8).m)
def Zsa : Zqa := vw .sep <| vw .sep <| vz (fl r1) <| lc (mkS [(5, vN (v2 + y7.1.length)), (6, vN (v3 + y7.2.1.length)), (7, vN (v4 + y7.2.2.length)), (15, vL Zas p0), (16, vN p0.length), (17, vN v5), (39, .ref (1, 4) 0 0 r1.length), (43, .d (.list [ZbR y7.1, ZbR y7.2.1, ZbR y7.2.2]))] (Zu0 r1)) ((Zay ([y7.1, y7.2.1, y7.2.2] : List (List Bt))).bind fun y8 => (ZtK p0 r1 v2 v3 v4 v5 y7 y8).m)
def Zvh : Zqa := ix p0 v5 fun e6 => vw .go <| vw .go <| cl (ZCp e6) fun y7 => vz (eqL y7.1) <| vs (wa v2 y7.1.length) <| vz (eqL y7.2.1) <| vs (wa v3 y7.2.1.length) <| vz (eqL y7.2.2) <| vs (wa v4 y7.2.2.length) <| vz (fl r1) <| lc (mkS [(4, .ref (1, 4) 0 0 r1.length), (5, vN (v2 + y7.1.length)), (6, vN (v3 + y7.2.1.length)), (7, vN (v4 + y7.2.2.length)), (10, vL Zag y7.1), (11, vL Zag y7.2.1), (12, vL Zag y7.2.2), (15, vL Zas p0), (16, vN p0.length), (17, vN v5)] (Zu0 r1)) ((Zsa p0 r1 v2 v3 v4 v5 y7).m)
def Zsz : Zqa := br (decide ((v5 : Int) < (p0.length : Int))) (vz (fl r1) <| lc (mkS (ZDS p0 r1 v2 v3 v4 v5) (Zu0 r1)) ((Zvh p0 r1 v2 v3 v4 v5).m)) (vz (fl r1) <| lxe (ZDz) (v2, v3, v4, r1))
def Zo0 := fun ((r1, v2, v3, v4, v5) : List Bt × Nat × Nat × Nat × Nat) => (Zsz p0 r1 v2 v3 v4 v5).m
def Zxj : Nat → St := fun v13 => mkS [(4, vL Zag r12), (52, vL Zag r12), (53, vN r12.length), (54, vN v13)] []
def ZCb : Unit → Nat × St := fun _ => (2, mkS [] [])
def ZtA (v13 : Nat) : PT 0 (Lv (Nat) (Unit) (Bt × Int)) := br (decide ((v13 : Int) < (r12.length : Int))) (ix r12 v13 fun e14 => sL r12 .no (.nt v13) fun l15 => cl (ZCM l15 e14) fun y16 => br y16 (lrt E23 (fun _ => []) (e14, 9)) (vs (wa v13 1) <| ln (Zxj r12) (v13 + 1))) (lxe (ZCb) ())
def Zod := fun (v13 : Nat) => (ZtA r12 v13).m
def Zzj : ZkC := lr E23 (fun _ => []) (⟨#[]⟩, 0)
def Zzm : ZkC := vw (.frz 4 [(4, (r12.map Zag)), (52, (r12.map Zag))] []) <| vz (fz r12) <| vz (fz r12) <| lc (Zxj r12 0) ((Zad (Zod r12) big 0).bind (Sum.elim (fun _ => (Zzj).m) some))
def ZxR : ZkC := vz (eqN r12.length) <| vz (fl r12) <| lc (mkS [(4, .ref (1, 4) 0 0 r12.length), (52, .ref (1, 4) 0 0 r12.length), (53, vN r12.length), (54, vI 0)] (ZyI r12)) ((Zzm r12).m)
def ZqC (v9 : Nat) (v10 : Nat) (v11 : Nat) : ZkC := br (decide ((64 : Int) < (mmI true (mmI true (v9 : Int) (v10 : Int)) (v11 : Int)))) (lr E23 (fun _ => []) (⟨#[]⟩, 3)) (vz (fl r12) <| lc (mkS [(4, .ref (1, 4) 0 0 r12.length)] (ZyI r12)) ((ZxR r12).m))
def Zq8 : ZkC := vw (.ads 4 4 9 1) <| vz (fl ([] : List Bt)) <| lc (Zwl p0 (([] : List Bt), 0, 0, 0, 0)) ((Zad (Zo0 p0) big (([] : List Bt), 0, 0, 0, 0)).bind (Sum.elim (fun (v9, v10, v11, r12) => (ZqC r12 v9 v10 v11).m) some))
def Zo3 : ZkC := vz (eqL p0) <| lc (mkS [(4, .e0), (5, vI 0), (6, vI 0), (7, vI 0), (15, vL Zas p0), (16, vN p0.length), (17, vI 0)] []) ((Zq8 p0).m)
def ZoY : ZkC := lc (mkS [(0, vL Zas p0), (4, .e0), (5, vI 0), (6, vI 0), (7, vI 0)] []) ((Zo3 p0).m)
def Zdf (p0 : List Fil) : Option (Bt × Int) := (ZoY p0).m
section
include co
theorem ZzZ : Kl 66 C (pa [0, 0, 1, 0, 1, 1, 1] (Zai Try.f23)) [.tmp 2, .tmp 3] 0 (Zwl p0) (ZDz) E23 (fun _ => []) (Zo0 p0) := fun (r1, v2, v3, v4, v5) _ m Q Post hQ L => mi co 2 (Zsz p0 r1 v2 v3 v4 v5) (lf2 [4, 5, 6, 7, 15, 16, 17] [((1, 4), true)]) (lf2 [4, 5, 6, 7] [((1, 4), true)]) hQ m L fun r g => ⟨fun _ m L => sq (bk 1 (mi co 3 (Zvh p0 r1 v2 v3 v4 v5) (lf2 [4, 5, 6, 7, 10, 11, 12, 15, 16, 17] [((1, 4), true)]) nl hQ m L fun r g e6 y7 _ m L => rg (Zb8 co tok 5 (Zsa p0 r1 v2 v3 v4 v5 y7) (lf2 [5, 6, 7, 15, 16, 17, 39, 43] [((1, 4), true)]) m L fun r g _ m L => ZaS co m 47 [.d (.list [ZbR y7.1, ZbR y7.2.1, ZbR y7.2.2])] [(1, 44)] ([((1, 44), ⟨0, false, 0, 0, []⟩)] ++ []) (fun z => .ref (1, 44) 1 0 z.length) (fun z => [((1, 44), ⟨1, true, 9, 1, Zaa Zag z⟩)]) [(1, 4)] (fun z => trivial) (⟨Zaj _ _, trivial⟩) (fun z hz r g => Zae (ZEq ([y7.1, y7.2.1, y7.2.2] : List (List Bt))) hz co g [((1, 44), ⟨0, false, 0, 0, []⟩)] [] [((1, 44), ⟨1, true, 9, 1, Zaa Zag z⟩)] (lkS []) (fun H' hg ho => trivial) (fun H => ⟨(fun h => by cases h), by kernel_rfl, trivial⟩) (fun H => ⟨fun _ => ⟨rfl, bz⟩, by kernel_rfl, trivial⟩)) fun y8 m => Zb4 co tok (ZtK p0 r1 v2 v3 v4 v5 y7 y8) (lf2 [4, 5, 6, 7, 15, 16, 17] [((1, 4), true)]) m L fun r g _ m L => en co (ZrM p0 r1 v2 v3 v4 v5 y7 y8) (lf2 [4, 5, 6, 7, 15, 16, 17] [((1, 4), true)]) nl hQ m L fun r g => id))), id⟩
theorem ZzK : Kl 66 C (pa [0, 0, 1, 0, 1, 1, 1, 1, 1] (Zai Try.f23)) [.tmp 2, .tmp 3] 0 (Zxj r12) (ZCb) E23 (fun _ => []) (Zod r12) := fun v13 _ m Q Post hQ L => en co (ZtA r12 v13) (lf1 [4, 52, 53, 54]) nl hQ m L fun r g => ⟨fun e14 l15 y16 => ⟨id, id⟩, id⟩
end
end
theorem ZHv (p0 : List Fil) : KC tp 23 [vL Zas p0] (Zdf p0) E23 := kc1 Try.func23 Try.ntmps23 tok [.tmp 2, .tmp 3] fun C co y m Post L => mi co 3 (ZoY p0) (lf1 [0, 4, 5, 6, 7]) nl ii m L fun r g _ m L => sq (mi co 1 (Zo3 p0) (lf1 [4, 5, 6, 7, 15, 16, 17]) nl ii m L fun r g _ m L => bk 0 (Zn7 co (Zq8 p0) (lf2 [4, 5, 6, 7, 15, 16, 17] [((1, 4), true)]) m L fun r g _ m L => lo (lpF (ZzZ co p0) ii m L (fun (v9, v10, v11, r12) m => mi co 1 (ZqC r12 v9 v10 v11) (lf2 [4] [((1, 4), true)]) nl ii m L fun r g => ⟨id, fun _ m L => sq (mi co 1 (ZxR r12) (lf2 [4, 52, 53, 54] [((1, 4), true)]) nl ii m L fun r g _ m L => bk 2 (Zn7 co (Zzm r12) (lf1 [4, 52, 53, 54]) m L fun r g _ m L => lo (lpF (ZzK co r12) ii m L (fun _ m => fo co (Zzj) m L fun r g => id))))⟩))))
abbrev E26 : List Enm → AV := fun y => .ref (0, 0) 1 0 y.length
@[reducible] def G26 : List Enm → List Blk := fun y => [⟨1, true, 42, 5, Zaa Zam y⟩]
def ZAP (p0 : List Enm) : PT 1 (List Enm) := al Zam p0 false fun b1 => br b1 (vw .sep <| vw (.ads 2 2 42 5) <| mv 2 0 ([] : List Enm) <| lr E26 (G26) ([] : List Enm)) (a0 p0 <| mv 7 0 p0 <| lr E26 (G26) p0)
def ZcR (p0 : List Enm) : Option (List Enm) := (ZAP p0).m
theorem ZIs (p0 : List Enm) : KO tp 26 1 [vL Zam p0] [⟨0, false, 0, 0, []⟩] (fun _ _ _ _ => True) (ZcR p0) E26 (G26) := ko1 Try.func26 Try.ntmps26 tok [.tmp 2] 1 (fun C co hT y m Post L => fo co (ZAP p0) m L fun r g => ⟨fun b1 => ⟨id, id⟩, by intro b h; subst h; cases b <;> rfl⟩) (hB := fun y => ⟨.inl (Zaj _ _), rfl, trivial⟩)
abbrev E27 : List Bt → AV := fun y => vL Zag y
section
variable {C : Cx} (p0 : List Fil) (p1 : Fil) (v4 : Nat) (y9 v3 y2 : List Bt)
abbrev Zqn := PT 0 (Lv (List Bt × Nat) (List Bt) (List Bt))
abbrev ZnC := PT 0 (List Bt)
abbrev ZxP : Blk := ⟨0, true, 61, 6, [vS p1.name, vS p1.space, vL Zag p1.imports, vL Zap p1.messages, vL Zam p1.enums, vL Zaq p1.services]⟩
abbrev ZBz : List (Nat × AV) := [(0, vL Zas p0), (8, vL Zag v3), (26, vL Zag p1.imports), (27, vN p1.imports.length), (28, vN v4)]
def ZxZ : List Bt × Nat → St := fun (v3, v4) => mkS (ZBz p0 p1 v4 v3) []
def ZEd : List Bt → Nat × St := fun v10 => (0, mkS [(8, vL Zag v10)] [])
def ZuK : Zqn := vs (wa v4 1) <| vw (.frz 48 [(8, (y9.map Zag))] []) <| vz (fz y9) <| ln (ZxZ p0 p1) (y9, v4 + 1)
def ZrV : Zqn := vz (fl y9) <| lc (mkS [(0, vL Zas p0), (8, .ref (1, 48) 0 0 y9.length), (26, vL Zag p1.imports), (27, vN p1.imports.length), (28, vN v4)] [((1, 48), ⟨0, true, 9, 1, Zaa Zag y9⟩)]) ((ZuK p0 p1 v4 y9).m)
def Zsb (y8 : List Bt × List Bt × List Bt) : Zqn := vw .sep <| vw .sep <| lc (mkS [(0, vL Zas p0), (26, vL Zag p1.imports), (27, vN p1.imports.length), (28, vN v4), (47, .d (.list [ZbR v3, ZbR y8.1, ZbR y8.2.1, ZbR y8.2.2]))] []) ((Zay ([v3, y8.1, y8.2.1, y8.2.2] : List (List Bt))).bind fun y9 => (ZrV p0 p1 v4 y9).m)
def ZsZ : Zqn := ix p1.imports v4 fun e5 => cl (Zy2 p0 e5) fun y6 => ixi p0 y6 fun e7 => cl (ZCp e7) fun y8 => lc (mkS [(0, vL Zas p0), (8, vL Zag v3), (11, vL Zag y8.1), (12, vL Zag y8.2.1), (13, vL Zag y8.2.2), (26, vL Zag p1.imports), (27, vN p1.imports.length), (28, vN v4)] []) ((Zsb p0 p1 v4 v3 y8).m)
def Zux : Zqn := br (decide ((v4 : Int) < (p1.imports.length : Int))) (lc (mkS (ZBz p0 p1 v4 v3) []) ((ZsZ p0 p1 v4 v3).m)) (lxe (ZEd) v3)
def Zn9 := fun ((v3, v4) : List Bt × Nat) => (Zux p0 p1 v4 v3).m
def Zyr (v10 : List Bt) : ZnC := lr E27 (fun _ => []) v10
def ZzT : ZnC := vw (.frz 24 [(8, (y2.map Zag))] []) <| vz (fz y2) <| lc (ZxZ p0 p1 (y2, 0)) ((Zad (Zn9 p0 p1) big (y2, 0)).bind (Sum.elim (fun v10 => (Zyr v10).m) some))
def Zzr : ZnC := vw .go <| vz (eqL p1.imports) <| vz (fl y2) <| lc (mkS [(0, vL Zas p0), (8, .ref (1, 24) 0 0 y2.length), (26, vL Zag p1.imports), (27, vN p1.imports.length), (28, vI 0)] [((1, 24), ⟨0, true, 9, 1, Zaa Zag y2⟩)]) ((ZzT p0 p1 y2).m)
def Zwz : ZnC := vz (fl y2) <| lc (mkS [(0, vL Zas p0), (3, .ptr (1, 3) 0 0), (8, .ref (1, 24) 0 0 y2.length)] [((1, 3), (ZxP p1)), ((1, 24), ⟨0, true, 9, 1, Zaa Zag y2⟩)]) ((Zzr p0 p1 y2).m)
def Zoq (y1 : List Bt × List Bt × List Bt) : ZnC := vw .sep <| vw .sep <| lc (mkS [(0, vL Zas p0), (3, .ptr (1, 3) 0 0), (23, .d (.list [ZbR y1.1, ZbR y1.2.1, ZbR y1.2.2]))] [((1, 3), (ZxP p1))]) ((Zay ([y1.1, y1.2.1, y1.2.2] : List (List Bt))).bind fun y2 => (Zwz p0 p1 y2).m)
def ZqE : ZnC := vw .go <| cl (ZCp p1) fun y1 => lc (mkS [(0, vL Zas p0), (3, .ptr (1, 3) 0 0), (5, vL Zag y1.1), (6, vL Zag y1.2.1), (7, vL Zag y1.2.2)] [((1, 3), (ZxP p1))]) ((Zoq p0 p1 y1).m)
def Zc3 (p0 : List Fil) (p1 : Fil) : Option (List Bt) := (ZqE p0 p1).m
theorem ZwM (co : CO C 0) : Kl 51 C (pa [0, 0, 1, 0, 1, 1, 1] (Zai Try.f27)) [.tmp 4] 0 (ZxZ p0 p1) (ZEd) E27 (fun _ => []) (Zn9 p0 p1) := fun (v3, v4) _ m Q Post hQ L => mi co 2 (Zux p0 p1 v4 v3) (lf1 [0, 8, 26, 27, 28]) (lf1 [8]) hQ m L fun r g => ⟨fun _ m L => sq (bk 1 (mi co 2 (ZsZ p0 p1 v4 v3) (lf1 [0, 8, 11, 12, 13, 26, 27, 28]) nl hQ m L fun r g e5 y6 e7 y8 _ m L => rg (Zb8 co tok 5 (Zsb p0 p1 v4 v3 y8) (lf1 [0, 26, 27, 28, 47]) m L fun r g _ m L => ZaS co m 47 [.d (.list [ZbR v3, ZbR y8.1, ZbR y8.2.1, ZbR y8.2.2])] [(1, 48)] ([((1, 48), ⟨0, false, 0, 0, []⟩)] ++ []) (fun z => .ref (1, 48) 1 0 z.length) (fun z => [((1, 48), ⟨1, true, 9, 1, Zaa Zag z⟩)]) [] (fun z => trivial) (trivial) (fun z hz r g => Zae (ZEq ([v3, y8.1, y8.2.1, y8.2.2] : List (List Bt))) hz co g [((1, 48), ⟨0, false, 0, 0, []⟩)] [] [((1, 48), ⟨1, true, 9, 1, Zaa Zag z⟩)] (lkS []) (fun H' hg ho => trivial) (fun H => ⟨(fun h => by cases h), by kernel_rfl, trivial⟩) (fun H => ⟨fun _ => ⟨rfl, bz⟩, by kernel_rfl, trivial⟩)) fun y9 m => Zb4 co tok (ZrV p0 p1 v4 y9) (lf2 [0, 8, 26, 27, 28] [((1, 48), true)]) m L fun r g _ m L => en co (ZuK p0 p1 v4 y9) (lf1 [0, 8, 26, 27, 28]) nl hQ m L fun r g => id))), id⟩
end
theorem ZHE (p0 : List Fil) (p1 : Fil) : KC tp 27 [vL Zas p0, .agg ((Zas p1).map .d)] (Zc3 p0 p1) E27 := kc1 Try.func27 Try.ntmps27 tok [.tmp 4] fun C co y m Post L => mi co 2 (ZqE p0 p1) (lf2 [0, 3, 5, 6, 7] [((1, 3), false)]) nl ii m L fun r g y1 _ m L => sq (rg (Zb8 co tok 4 (Zoq p0 p1 y1) (lf2 [0, 3, 23] [((1, 3), false)]) m L fun r g _ m L => ZaS co m 47 [.d (.list [ZbR y1.1, ZbR y1.2.1, ZbR y1.2.2])] [(1, 24)] ([((1, 24), ⟨0, false, 0, 0, []⟩)] ++ []) (fun z => .ref (1, 24) 1 0 z.length) (fun z => [((1, 24), ⟨1, true, 9, 1, Zaa Zag z⟩)]) [] (fun z => trivial) (trivial) (fun z hz r g => Zae (ZEq ([y1.1, y1.2.1, y1.2.2] : List (List Bt))) hz co g [((1, 24), ⟨0, false, 0, 0, []⟩)] [] [((1, 24), ⟨1, true, 9, 1, Zaa Zag z⟩)] (lkS []) (fun H' hg ho => trivial) (fun H => ⟨(fun h => by cases h), by kernel_rfl, trivial⟩) (fun H => ⟨fun _ => ⟨rfl, bz⟩, by kernel_rfl, trivial⟩)) fun y2 m => Zb4 co tok (Zwz p0 p1 y2) (lf2 [0, 3, 8] [((1, 3), false), ((1, 24), true)]) m L fun r g _ m L => sq (mi co 1 (Zzr p0 p1 y2) (lf2 [0, 8, 26, 27, 28] [((1, 24), true)]) nl ii m L fun r g _ m L => bk 0 (Zn7 co (ZzT p0 p1 y2) (lf1 [0, 8, 26, 27, 28]) m L fun r g _ m L => lo (lpF (ZwM p0 p1 co) ii m L (fun v10 m => fo co (Zyr v10) m L fun r g => id))))))
abbrev E55 : List Fld → AV := fun y => .ref (0, 0) 1 0 y.length
@[reducible] def G55 : List Fld → List Blk := fun y => [⟨1, true, 53, 16, Zaa ZeY y⟩]
def ZzV (p0 : List Fld) : PT 1 (List Fld) := al ZeY p0 false fun b1 => br b1 (vw .sep <| vw (.ads 2 2 53 16) <| mv 2 0 ([] : List Fld) <| lr E55 (G55) ([] : List Fld)) (a0 p0 <| mv 7 0 p0 <| lr E55 (G55) p0)
def ZcE (p0 : List Fld) : Option (List Fld) := (ZzV p0).m
theorem ZHp (p0 : List Fld) : KO tp 55 1 [vL ZeY p0] [⟨0, false, 0, 0, []⟩] (fun _ _ _ _ => True) (ZcE p0) E55 (G55) := ko1 Try.func55 Try.ntmps55 tok [.tmp 2] 1 (fun C co hT y m Post L => fo co (ZzV p0) m L fun r g => ⟨fun b1 => ⟨id, id⟩, by intro b h; subst h; cases b <;> rfl⟩) (hB := fun y => ⟨.inl (Zaj _ _), rfl, trivial⟩)
abbrev ZGw : Bool → AV := fun y => vB y
def ZpY (p0 : Bt) (p1 : Bt) : PT 0 (Bool) := vz (eqN p0.size) <| vz (eqN p1.size) <| vy (decide ((p1.size : Int) ≤ (p0.size : Int))) (eqN p1.size) <| ssg (decide ((p1.size : Int) ≤ (p0.size : Int))) p0 .no (.nt p1.size) fun s1 => lr ZGw (fun _ => []) (decide ((p1.size : Int) ≤ (p0.size : Int)) && decide (s1 = p1))
def Zb7 (p0 : Bt) (p1 : Bt) : Option (Bool) := (ZpY p0 p1).m
theorem ZFt (p0 : Bt) (p1 : Bt) : KC tp 142 [vS p0, vS p1] (Zb7 p0 p1) ZGw := kc1 Try.func142 Try.ntmps142 tok [.tmp 4] fun C co y m Post L => fo co (ZpY p0 p1) m L fun r g s1 => id
abbrev ZFy : Bt × Bool → AV := fun y => .tup [vS y.1, vB y.2]
def Zo9 (p0 : Bt) (p1 : Bt) : PT 0 (Bt × Bool) := cl (ZFt p0 p1) fun y1 => br (!y1) (lr ZFy (fun _ => []) (p0, false)) (vz (eqN p1.size) <| ss p0 (.nt p1.size) .no fun s2 => lr ZFy (fun _ => []) (s2, true))
def Zcb (p0 : Bt) (p1 : Bt) : Option (Bt × Bool) := (Zo9 p0 p1).m
theorem ZFM (p0 : Bt) (p1 : Bt) : KC tp 135 [vS p0, vS p1] (Zcb p0 p1) ZFy := kc1 Try.func135 Try.ntmps135 tok [.tmp 4, .tmp 5] fun C co y m Post L => fo co (Zo9 p0 p1) m L fun r g y1 => ⟨id, fun s2 => id⟩
abbrev ZGi : Bt × Bool → AV := fun y => .tup [vS y.1, vB y.2]
def ZqR (p0 : Bt) (p1 : Bt) : PT 0 (Bt × Bool) := cl (ZFM p0 p1) fun y1 => lr ZGi (fun _ => []) (y1.1, y1.2)
def Zb1 (p0 : Bt) (p1 : Bt) : Option (Bt × Bool) := (ZqR p0 p1).m
theorem ZF4 (p0 : Bt) (p1 : Bt) : KC tp 118 [vS p0, vS p1] (Zb1 p0 p1) ZGi := kc1 Try.func118 Try.ntmps118 tok [.tmp 4, .tmp 5] fun C co y m Post L => fo co (ZqR p0 p1) m L fun r g y1 => id
abbrev ZEn : Int → AV := fun y => vI y
section
variable {C : Cx} (p0 : Bt) (p1 : Int)
def Zpf : Int → St := fun v1 => mkS [(0, vS p0), (1, .d (.int .u8 p1)), (5, vI v1)] []
def ZvN : Unit → Nat × St := fun _ => (0, mkS [] [])
def ZlK (v1 : Int) : PT 0 (Lv (Int) (Unit) (Int)) := br (decide ((0 : Int) ≤ v1)) (ibi p0 v1 fun b2 => br (decide ((b2.toNat : Int) = p1)) (lrt ZEn (fun _ => []) v1) (vs (wi (v1 - 1)) <| ln (Zpf p0 p1) (v1 - 1))) (lxe (ZvN) ())
def Zjn := fun (v1 : Int) => (ZlK p0 p1 v1).m
def Zrr : PT 0 (Int) := lr ZEn (fun _ => []) (-1)
def Zqe : PT 0 (Int) := vz (eqN p0.size) <| vs (wi ((p0.size : Int) - 1)) <| lc (Zpf p0 p1 ((p0.size : Int) - 1)) ((Zad (Zjn p0 p1) big ((p0.size : Int) - 1)).bind (Sum.elim (fun _ => (Zrr).m) some))
def Zov : PT 0 (Int) := lc (mkS [(0, vS p0), (1, .d (.int .u8 p1))] []) ((Zqe p0 p1).m)
def ZbB (p0 : Bt) (p1 : Int) : Option (Int) := (Zov p0 p1).m
theorem ZuV (co : CO C 0) : Kl 19 C (pa [0, 0, 1, 0, 1] (Zai Try.f147)) [.tmp 4] 0 (Zpf p0 p1) (ZvN) ZEn (fun _ => []) (Zjn p0 p1) := fun v1 _ m Q Post hQ L => en co (ZlK p0 p1 v1) (lf1 [0, 1, 5]) nl hQ m L fun r g => ⟨fun b2 => ⟨id, id⟩, id⟩
end
theorem ZFA (p0 : Bt) (p1 : Int) : KC tp 147 [vS p0, .d (.int .u8 p1)] (ZbB p0 p1) ZEn := kc1 Try.func147 Try.ntmps147 tok [.tmp 4] fun C co y m Post L => mi co 1 (Zov p0 p1) (lf1 [0, 1]) nl ii m L fun r g _ m L => sq (mi co 1 (Zqe p0 p1) (lf1 [0, 1, 5]) nl ii m L fun r g _ m L => bk 0 (lo (lpF (ZuV p0 p1 co) ii m L (fun _ m => fo co (Zrr) m L fun r g => id))))
abbrev ZGs : Int → AV := fun y => vI y
def Zrq (p0 : Bt) (p1 : Int) : PT 0 (Int) := cl (ZFA p0 p1) fun y1 => lr ZGs (fun _ => []) y1
def Zbz (p0 : Bt) (p1 : Int) : Option (Int) := (Zrq p0 p1).m
theorem ZFC (p0 : Bt) (p1 : Int) : KC tp 143 [vS p0, .d (.int .u8 p1)] (Zbz p0 p1) ZGs := kc1 Try.func143 Try.ntmps143 tok [.tmp 4] fun C co y m Post L => fo co (Zrq p0 p1) m L fun r g y1 => id
abbrev ZE2 : Bt × Bt → AV := fun y => .tup [vS y.1, vS y.2]
def Zpn (p0 : Bt) : PT 0 (Bt × Bt) := cl (ZFC p0 46) fun y1 => br (decide (y1 < (0 : Int))) (lr ZE2 (fun _ => []) (⟨#[]⟩, p0)) (ss p0 .no (.it y1) fun s2 => vs (wi (y1 + 1)) <| ss p0 (.it (y1 + 1)) .no fun s3 => lr ZE2 (fun _ => []) (s2, s3))
def Zdb (p0 : Bt) : Option (Bt × Bt) := (Zpn p0).m
theorem ZFY (p0 : Bt) : KC tp 136 [vS p0] (Zdb p0) ZE2 := kc1 Try.func136 Try.ntmps136 tok [.tmp 2, .tmp 3] fun C co y m Post L => fo co (Zpn p0) m L fun r g y1 => ⟨id, fun s2 s3 => id⟩
abbrev ZEY : List Bt → AV := fun y => vL Zag y
section
variable {C : Cx}
def Zro : Bt × List Bt → St := fun (v1, r2) => mkS [(0, vS v1), (3, .ref (1, 5) 0 0 r2.length)] [((1, 5), ⟨0, true, 9, 1, Zaa Zag r2⟩)]
def Zv6 : List Bt → Nat × St := fun r4 => (0, mkS [(3, .ref (1, 5) 0 0 r4.length)] [((1, 5), ⟨0, true, 9, 1, Zaa Zag r4⟩)])
def ZqI (v1 : Bt) (r2 : List Bt) : PT 0 (Lv (Bt × List Bt) (List Bt) (List Bt)) := br (!decide (v1 = (⟨#[]⟩ : Bt))) (cl (ZFY v1) fun y3 => vw .sep <| vw .sep <| ap r2 (y3.1 : Bt) <| vz (fl (r2 ++ [y3.1])) <| ln (Zro) (y3.1, r2 ++ [y3.1])) (vz (fl r2) <| lxe (Zv6) r2)
def ZlG := fun ((v1, r2) : Bt × List Bt) => (ZqI v1 r2).m
def ZqF (r4 : List Bt) : PT 0 (List Bt) := vz (fr r4) <| lr ZEY (fun _ => []) r4
def Zru (p0 : Bt) : PT 0 (List Bt) := vw .go <| vz (fl ([p0] : List Bt)) <| lc (Zro (p0, ([p0] : List Bt))) ((Zad (ZlG) big (p0, ([p0] : List Bt))).bind (Sum.elim (fun r4 => (ZqF r4).m) some))
def Ze0 (p0 : Bt) : Option (List Bt) := (Zru p0).m
theorem ZtB (co : CO C 0) : Kl 18 C (pa [0, 0, 0, 1, 1] (Zai Try.f119)) [.tmp 2] 0 (Zro) (Zv6) ZEY (fun _ => []) (ZlG) := fun (v1, r2) _ m Q Post hQ L => en co (ZqI v1 r2) (lf2 [0, 3] [((1, 5), true)]) (lf2 [3] [((1, 5), true)]) hQ m L fun r g => ⟨fun y3 => id, id⟩
end
theorem ZEN (p0 : Bt) : KC tp 119 [vS p0] (Ze0 p0) ZEY := kc1 Try.func119 Try.ntmps119 tok [.tmp 2] fun C co y m Post L => mi co 2 (Zru p0) (lf2 [0, 3] [((1, 5), true)]) nl ii m L fun r g _ m L => sq (bk 0 (lo (lpF (ZtB co) ii m L (fun r4 m => fo co (ZqF r4) m L fun r g => id))))
abbrev E92 : Bt × Bool → AV := fun y => .tup [vS y.1, vB y.2]
section
variable {C : Cx} (p0 p1 : Bt) (p2 y3 : List Bt)
abbrev ZAF := PT 0 (Bt × Bool)
def Zz0 : Nat → St := fun v4 => mkS [(1, vS p1), (2, vL Zag p2), (24, vL Zag y3), (25, vN y3.length), (26, vN v4)] []
def ZEb : Unit → Nat × St := fun _ => (0, mkS [] [])
def ZsB (v4 : Nat) : PT 0 (Lv (Nat) (Unit) (Bt × Bool)) := br (decide ((v4 : Int) < (y3.length : Int))) (ix y3 v4 fun e5 => cl (Zzd e5 p1) fun y6 => cl (ZCM p2 y6) fun y7 => br y7 (lrt E92 (fun _ => []) (y6, true)) (vs (wa v4 1) <| ln (Zz0 p1 p2 y3) (v4 + 1))) (lxe (ZEb) ())
def Zrn := fun (v4 : Nat) => (ZsB p1 p2 y3 v4).m
def Zzt : ZAF := lr E92 (fun _ => []) (⟨#[]⟩, false)
def ZxG : ZAF := cl (ZEN p0) fun y3 => vz (eqL y3) <| lc (Zz0 p1 p2 y3 0) ((Zad (Zrn p1 p2 y3) big 0).bind (Sum.elim (fun _ => (Zzt).m) some))
def Zxt : ZAF := cl (ZF4 p1 ⟨#[46]⟩) fun y1 => br y1.2 (cl (ZCM p2 y1.1) fun y2 => br y2 (lr E92 (fun _ => []) (y1.1, true)) (lr E92 (fun _ => []) (⟨#[]⟩, false))) (lc (mkS [(0, vS p0), (1, vS p1), (2, vL Zag p2)] []) ((ZxG p0 p1 p2).m))
def ZcK (p0 : Bt) (p1 : Bt) (p2 : List Bt) : Option (Bt × Bool) := (Zxt p0 p1 p2).m
theorem Zx8 (co : CO C 0) : Kl 38 C (pa [0, 0, 1, 0, 1, 1] (Zai Try.f92)) [.tmp 6, .tmp 7] 0 (Zz0 p1 p2 y3) (ZEb) E92 (fun _ => []) (Zrn p1 p2 y3) := fun v4 _ m Q Post hQ L => en co (ZsB p1 p2 y3 v4) (lf1 [1, 2, 24, 25, 26]) nl hQ m L fun r g => ⟨fun e5 y6 y7 => ⟨id, id⟩, id⟩
end
theorem ZGL (p0 : Bt) (p1 : Bt) (p2 : List Bt) : KC tp 92 [vS p0, vS p1, vL Zag p2] (ZcK p0 p1 p2) E92 := kc1 Try.func92 Try.ntmps92 tok [.tmp 6, .tmp 7] fun C co y m Post L => mi co 2 (Zxt p0 p1 p2) (lf1 [0, 1, 2]) nl ii m L fun r g y1 => ⟨fun y2 => ⟨id, id⟩, fun _ m L => sq (mi co 1 (ZxG p0 p1 p2) (lf1 [1, 2, 24, 25, 26]) nl ii m L fun r g y3 _ m L => bk 0 (lo (lpF (Zx8 p1 p2 y3 co) ii m L (fun _ m => fo co (Zzt) m L fun r g => id))))⟩
abbrev ZEr : Int → AV := fun y => vI y
def ZG6 (pf1 : Enm → Option Bool) : Cl := fun no l H θ => (∀ (z0 : Enm) y, pf1 z0 = some y → ZiH tp l no H (θ 1) [.agg ((Zam z0).map .d)] (vB y))
section
variable {C : Cx} (p0 : List Enm) (pf1 : Enm → Option Bool)
def Zoo : Nat → St := fun v1 => mkS [(0, vL Zam p0), (1, .fn (.yield 1) [] []), (7, vN p0.length), (8, vN v1)] []
def Zvk : Unit → Nat × St := fun _ => (0, mkS [] [])
def Zme (v1 : Nat) : PT 0 (Lv (Nat) (Unit) (Int)) := br (decide ((v1 : Int) < (p0.length : Int))) (ix p0 v1 fun e2 => cf tp 1 [.agg ((Zam e2).map .d)] (pf1 e2) (fun y => vB y) fun y3 => br y3 (lrt ZEr (fun _ => []) (v1 : Int)) (vs (wa v1 1) <| ln (Zoo p0) (v1 + 1))) (lxe (Zvk) ())
def ZmJ := fun (v1 : Nat) => (Zme p0 pf1 v1).m
def Zqt : PT 0 (Int) := lr ZEr (fun _ => []) (-1)
def ZpO : PT 0 (Int) := vz (eqL p0) <| lc (Zoo p0 0) ((Zad (ZmJ p0 pf1) big 0).bind (Sum.elim (fun _ => (Zqt).m) some))
def Zph : PT 0 (Int) := lc (mkS [(0, vL Zam p0), (1, .fn (.yield 1) [] [])] []) ((ZpO p0 pf1).m)
def ZbY (p0 : List Enm) (pf1 : Enm → Option Bool) : Option (Int) := (Zph p0 pf1).m
theorem ZtS (co : CO C 0) (hT : (ZG6 pf1) C.no C.l C.H0 C.θ) : Kl 19 C (pa [0, 0, 1, 0, 1] (Zai Try.f103)) [.tmp 4] 0 (Zoo p0) (Zvk) ZEr (fun _ => []) (ZmJ p0 pf1) := fun v1 _ m Q Post hQ L => en co (Zme p0 pf1 v1) (lf1 [0, 1, 7, 8]) nl hQ m L fun r g => ⟨fun e2 => ⟨⟨fun y hy => hT _ y hy, by intro r; kernel_rfl, by intro r y; kernel_rfl⟩, fun y3 => ⟨id, id⟩⟩, id⟩
end
theorem ZFI (p0 : List Enm) (pf1 : Enm → Option Bool) : KO tp 103 0 [vL Zam p0, .fn (.yield 1) [] []] [] (ZG6 pf1) (ZbY p0 pf1) ZEr (fun _ => []) := ko1 Try.func103 Try.ntmps103 tok [.tmp 4] 0 (fun C co hT y m Post L => mi co 1 (Zph p0 pf1) (lf1 [0, 1]) nl ii m L fun r g _ m L => sq (mi co 1 (ZpO p0 pf1) (lf1 [0, 1, 7, 8]) nl ii m L fun r g _ m L => bk 0 (lo (lpF (ZtS p0 pf1 co hT) ii m L (fun _ m => fo co (Zqt) m L fun r g => id)))))
abbrev ZGu : Bool → AV := fun y => vB y
def ZIK (pf1 : Enm → Option Bool) : Cl := fun no l H θ => (∀ (z0 : Enm) y, pf1 z0 = some y → ZiH tp l no H (θ 1) [.agg ((Zam z0).map .d)] (vB y))
def ZoX (p0 : List Enm) (pf1 : Enm → Option Bool) : PT 0 (Bool) := cs tp 103 [vL Zam p0, .fn (.yield 1) [] []] [] [] (ZbY p0 pf1) (fun y => vI y) fun y1 => lr ZGu (fun _ => []) (decide ((0 : Int) ≤ y1))
def Zbx (p0 : List Enm) (pf1 : Enm → Option Bool) : Option (Bool) := (ZoX p0 pf1).m
theorem ZFn (p0 : List Enm) (pf1 : Enm → Option Bool) : KO tp 120 0 [vL Zam p0, .fn (.yield 1) [] []] [] (ZIK pf1) (Zbx p0 pf1) ZGu (fun _ => []) := ko1 Try.func120 Try.ntmps120 tok [.tmp 4] 0 (fun C co hT y m Post L => fo co (ZoX p0 pf1) m L fun r g => ⟨fun y hy => Zbh (ZFI p0 pf1) hy co g [] [] (lkS [(1, r.θ 1)]) (fun H' hg ho => (fun z0 y hz => Za4 co g [] ho (hT z0 y hz))) (fun H => trivial), fun y1 => id⟩)
abbrev ZGY : Bool → AV := fun y => vB y
@[reducible] def ZG2 (w0 : Bt) : Bool → List Blk := fun y => [⟨0, true, 9, 1, [vS w0]⟩]
def Zp6 (p0 : Enm) (w0 : Bt) : PT 1 (Bool) := vw .go <| vw .go <| lr ZGY (ZG2 w0) (decide (p0.name = w0))
def ZaU (p0 : Enm) (w0 : Bt) : Option (Bool) := (Zp6 p0 w0).m
theorem ZEZ (p0 : Enm) (w0 : Bt) : KO tp 121 1 [.agg ((Zam p0).map .d), .ptr (0, 0) 0 0] [⟨0, true, 9, 1, [vS w0]⟩] (fun _ _ _ _ => True) (ZaU p0 w0) ZGY (ZG2 w0) := ko1 Try.func121 Try.ntmps121 tok [.tmp 3] 1 (fun C co hT y m Post L => fo co (Zp6 p0 w0) m L fun r g => id) (hB := fun y => ⟨.inr (by kernel_rfl), rfl, trivial⟩)
abbrev E93 : Bool → AV := fun y => vB y
@[reducible] def G93 (p0 : Lnk) : Bool → List Blk := fun y => [⟨0, true, 76, 10, [vL Zas p0.files, vS p0.f.name, vS p0.f.space, vL Zag p0.f.imports, vL Zap p0.f.messages, vL Zam p0.f.enums, vL Zaq p0.f.services, vL Zag p0.known, vL Zag p0.messages, vL Zam p0.enums]⟩]
def ZAi (p0 : Lnk) (p1 : Bt) : PT 1 (Bool) := vw .go <| cs tp 120 [vL Zam p0.enums, .fn (.func 121) [] [.ptr (1, 3) 1 0]] [(1, 3)] [((1, 3), ⟨1, true, 9, 1, [vS p1]⟩)] (Zbx p0.enums (fun (z0 : Enm) => ZaU z0 p1)) (fun y => vB y) fun y1 => lr E93 (G93 p0) y1
def Zbc (p0 : Lnk) (p1 : Bt) : Option (Bool) := (ZAi p0 p1).m
theorem ZHM (p0 : Lnk) (p1 : Bt) : KO tp 93 1 [.ptr (0, 0) 0 0, vS p1] [⟨0, true, 76, 10, [vL Zas p0.files, vS p0.f.name, vS p0.f.space, vL Zag p0.f.imports, vL Zap p0.f.messages, vL Zam p0.f.enums, vL Zaq p0.f.services, vL Zag p0.known, vL Zag p0.messages, vL Zam p0.enums]⟩] (fun _ _ _ _ => True) (Zbc p0 p1) E93 (G93 p0) := ko1 Try.func93 Try.ntmps93 tok [.tmp 4] 1 (fun C co hT y m Post L => fo co (ZAi p0 p1) m L fun r g => ⟨fun y hy => Zbh (ZFn p0.enums (fun (z0 : Enm) => ZaU z0 p1)) hy co g [] [((1, 3), ⟨1, true, 9, 1, [vS p1]⟩)] (lkS [(1, .fn (.func 121) [] [.ptr (r.κ (1, 3)) (r.γ (1, 3) + 1) 0])]) (fun H' hg ho => (fun z0 y hz => ZlF (ZEZ z0 p1) hz co g [((1, 3), ⟨1, true, 9, 1, [vS p1]⟩)] [] hg (by simp) (fun _ => .top) (fun _ _ => trivial) (fun l H => ⟨fun _ => ⟨rfl, by kernel_rfl⟩, by kernel_rfl, trivial⟩))) (fun H => trivial), fun y1 => id⟩) (hB := fun y => ⟨.inr (by kernel_rfl), rfl, trivial⟩)
abbrev E94 : Int × Bool → AV := fun y => .tup [.d (.int .u64 y.1), vB y.2]
@[reducible] def G94 (p0 : Lnk) : Int × Bool → List Blk := fun y => [⟨0, true, 76, 10, [vL Zas p0.files, vS p0.f.name, vS p0.f.space, vL Zag p0.f.imports, vL Zap p0.f.messages, vL Zam p0.f.enums, vL Zaq p0.f.services, vL Zag p0.known, vL Zag p0.messages, vL Zam p0.enums]⟩]
section
variable {C : Cx} (co : CO C 1) (p0 : Lnk) (p1 p2 : Bt) (v1 : Nat) (e2 : Enm)
abbrev Zpm := PT 1 (Lv (Nat) (Unit) (Int × Bool))
abbrev Zk4 : List (Key × Blk) := [((0, 0), ⟨0, true, 76, 10, [vL Zas p0.files, vS p0.f.name, vS p0.f.space, vL Zag p0.f.imports, vL Zap p0.f.messages, vL Zam p0.f.enums, vL Zaq p0.f.services, vL Zag p0.known, vL Zag p0.messages, vL Zam p0.enums]⟩)]
abbrev ZuR : List (Nat × AV) := [(1, vS p1), (2, vS p2), (15, vL Zam p0.enums), (16, vN p0.enums.length), (17, vN v1)]
def ZrQ : Nat → St := fun v1 => mkS (ZuR p0 p1 p2 v1) (Zk4 p0)
def ZCY : Unit → Nat × St := fun _ => (0, mkS [] (Zk4 p0))
def Zzu : Nat → St := fun v3 => mkS [(1, vS p1), (2, vS p2), (15, vL Zam p0.enums), (16, vN p0.enums.length), (17, vN v1), (26, vL Zol e2.items), (27, vN e2.items.length), (28, vN v3)] (Zk4 p0)
def ZDA : Unit → Nat × St := fun _ => (2, mkS (ZuR p0 p1 p2 v1) (Zk4 p0))
def Ztw (v3 : Nat) : Zpm := br (decide ((v3 : Int) < (e2.items.length : Int))) (ix e2.items v3 fun e4 => vw .go <| vw .go <| br (decide (e4.name = p2)) (vw .go <| vz (wk .u64 e4.num) <| lrt E94 (G94 p0) ((IntKind.u64.wrap e4.num), true)) (vs (wa v3 1) <| ln (Zzu p0 p1 p2 v1 e2) (v3 + 1))) (lxe (ZDA p0 p1 p2 v1) ())
def ZnS := fun (v3 : Nat) => (Ztw p0 p1 p2 v1 e2 v3).m
def ZrI : Zpm := vs (wa v1 1) <| ln (ZrQ p0 p1 p2) (v1 + 1)
def Zut : Zpm := vs (wa v1 1) <| ln (ZrQ p0 p1 p2) (v1 + 1)
def Zui : Zpm := ix p0.enums v1 fun e2 => vw .go <| vw .go <| br (!decide (e2.name = p1)) (lxc 1 (mkS (ZuR p0 p1 p2 v1) (Zk4 p0)) ((Zut p0 p1 p2 v1).m)) (vw .go <| vz (eqL e2.items) <| lc (Zzu p0 p1 p2 v1 e2 0) ((Zad (ZnS p0 p1 p2 v1 e2) big 0).bind (Sum.elim (fun _ => (ZrI p0 p1 p2 v1).m) (fun z => some (.rt z)))))
def Zsh : Zpm := br (decide ((v1 : Int) < (p0.enums.length : Int))) (lc (mkS (ZuR p0 p1 p2 v1) (Zk4 p0)) ((Zui p0 p1 p2 v1).m)) (lxe (ZCY p0) ())
def Znd := fun (v1 : Nat) => (Zsh p0 p1 p2 v1).m
def Zzx : PT 1 (Int × Bool) := lr E94 (G94 p0) (0, false)
def ZxT : PT 1 (Int × Bool) := vw .go <| vz (eqL p0.enums) <| lc (ZrQ p0 p1 p2 0) ((Zad (Znd p0 p1 p2) big 0).bind (Sum.elim (fun _ => (Zzx p0).m) some))
def ZyF : PT 1 (Int × Bool) := lc (mkS [(0, .ptr (0, 0) 0 0), (1, vS p1), (2, vS p2)] (Zk4 p0)) ((ZxT p0 p1 p2).m)
def Za8 (p0 : Lnk) (p1 : Bt) (p2 : Bt) : Option (Int × Bool) := (ZyF p0 p1 p2).m
section
include co
theorem ZAj : Kl 41 C (pa [0, 0, 1, 1, 1, 0, 0, 1, 1, 0, 0, 1, 0, 1] (Zai Try.f94)) [.tmp 6, .tmp 7] 1 (Zzu p0 p1 p2 v1 e2) (ZDA p0 p1 p2 v1) E94 (G94 p0) (ZnS p0 p1 p2 v1 e2) := fun v3 _ m Q Post hQ L => en co (Ztw p0 p1 p2 v1 e2 v3) (lf2 [1, 2, 15, 16, 17, 26, 27, 28] [((0, 0), false)]) (lf2 [1, 2, 15, 16, 17] [((0, 0), false)]) hQ m L fun r g => ⟨fun e4 => ⟨id, id⟩, id⟩
theorem ZxO : Kl 41 C (pa [0, 0, 1, 0, 1] (Zai Try.f94)) [.tmp 6, .tmp 7] 1 (ZrQ p0 p1 p2) (ZCY p0) E94 (G94 p0) (Znd p0 p1 p2) := fun v1 _ m Q Post hQ L => mi co 2 (Zsh p0 p1 p2 v1) (lf2 [1, 2, 15, 16, 17] [((0, 0), false)]) (lf2 [] [((0, 0), false)]) hQ m L fun r g => ⟨fun _ m L => sq (bk 1 (mi co 3 (Zui p0 p1 p2 v1) (lf2 [1, 2, 15, 16, 17, 26, 27, 28] [((0, 0), false)]) (lf2 [1, 2, 15, 16, 17] [((0, 0), false)]) hQ m L fun r g e2 => ⟨fun _ m L => en co (Zut p0 p1 p2 v1) (lf2 [1, 2, 15, 16, 17] [((0, 0), false)]) nl hQ m L fun r g => id, fun _ m L => bk 2 (lo (lpL (ZAj co p0 p1 p2 v1 e2) hQ m L (fun _ m => en co (ZrI p0 p1 p2 v1) (lf2 [1, 2, 15, 16, 17] [((0, 0), false)]) nl hQ m L fun r g => id)))⟩)), id⟩
end
end
theorem ZES (p0 : Lnk) (p1 : Bt) (p2 : Bt) : KO tp 94 1 [.ptr (0, 0) 0 0, vS p1, vS p2] [⟨0, true, 76, 10, [vL Zas p0.files, vS p0.f.name, vS p0.f.space, vL Zag p0.f.imports, vL Zap p0.f.messages, vL Zam p0.f.enums, vL Zaq p0.f.services, vL Zag p0.known, vL Zag p0.messages, vL Zam p0.enums]⟩] (fun _ _ _ _ => True) (Za8 p0 p1 p2) E94 (G94 p0) := ko1 Try.func94 Try.ntmps94 tok [.tmp 6, .tmp 7] 1 (fun C co hT y m Post L => mi co 1 (ZyF p0 p1 p2) (lf2 [0, 1, 2] [((0, 0), false)]) nl ii m L fun r g _ m L => sq (mi co 1 (ZxT p0 p1 p2) (lf2 [1, 2, 15, 16, 17] [((0, 0), false)]) nl ii m L fun r g _ m L => bk 0 (lo (lpF (ZxO co p0 p1 p2) ii m L (fun _ m => fo co (Zzx p0) m L fun r g => id))))) (hB := fun y => ⟨.inr (by kernel_rfl), rfl, trivial⟩)
abbrev E56 : Fld × Int → AV := fun y => .tup [.agg ((ZeY y.1).map .d), vI y.2]
@[reducible] def G56 (p0 : Lnk) : Fld × Int → List Blk := fun y => [⟨0, true, 76, 10, [vL Zas p0.files, vS p0.f.name, vS p0.f.space, vL Zag p0.f.imports, vL Zap p0.f.messages, vL Zam p0.f.enums, vL Zaq p0.f.services, vL Zag p0.known, vL Zag p0.messages, vL Zam p0.enums]⟩]
def Zw2 (p0 : Lnk) (p1 : Bt) (p2 : Fld) : PT 1 (Fld × Int) := vw .go <| br (decide (p2.type.kind = (0 : Int))) (vw .go <| vw .go <| cl (ZGL p1 p2.type.name p0.known) fun y1 => br (!y1.2) (vw .go <| vw .go <| lr E56 (G56 p0) (p2, 8)) (vw .go <| cl (ZCM p0.messages y1.1) fun y2 => br y2 (vw .go <| vw .go <| br (!p2.hasDefault) (vw .go <| vw .go <| lr E56 (G56 p0) ((.mk p2.num p2.name p2.card p2.key (.mk 10 y1.1 : Typ) p2.union p2.hasDefault p2.dflt p2.notes : Fld), 0)) (vw .go <| br (decide (p2.type.kind = (0 : Int)) || false) (vw .go <| vw .go <| lr E56 (G56 p0) ((.mk p2.num p2.name p2.card p2.key (.mk 10 y1.1 : Typ) p2.union p2.hasDefault p2.dflt p2.notes : Fld), 12)) (br (decide (p2.type.kind = (0 : Int))) (vw .go <| br (!decide (p2.dflt.kind = (9 : Int))) (vw .go <| vw .go <| lr E56 (G56 p0) ((.mk p2.num p2.name p2.card p2.key (.mk 10 y1.1 : Typ) p2.union p2.hasDefault p2.dflt p2.notes : Fld), 12)) (vw .go <| vw .go <| cs tp 94 [.ptr (0, 0) 0 0, vS y1.1, vS p2.dflt.text] [(0, 0)] [((0, 0), ⟨0, true, 76, 10, [vL Zas p0.files, vS p0.f.name, vS p0.f.space, vL Zag p0.f.imports, vL Zap p0.f.messages, vL Zam p0.f.enums, vL Zaq p0.f.services, vL Zag p0.known, vL Zag p0.messages, vL Zam p0.enums]⟩)] (Za8 p0 y1.1 p2.dflt.text) (fun y => .tup [.d (.int .u64 y.1), vB y.2]) fun y3 => br (!y3.2) (vw .go <| vw .go <| lr E56 (G56 p0) ((.mk p2.num p2.name p2.card p2.key (.mk 10 y1.1 : Typ) p2.union p2.hasDefault p2.dflt p2.notes : Fld), 16)) (vw .go <| vw .go <| vw .go <| lr E56 (G56 p0) ((.mk p2.num p2.name p2.card p2.key (.mk 10 y1.1 : Typ) p2.union p2.hasDefault (.mk 9 y3.1 ⟨#[]⟩ [] [] [] [] : Val) p2.notes : Fld), 0)))) (vw .go <| vw .go <| br (!decide (p2.dflt.kind = (10 : Int))) (vw .go <| vw .go <| lr E56 (G56 p0) ((.mk p2.num p2.name p2.card p2.key (.mk 10 y1.1 : Typ) p2.union p2.hasDefault p2.dflt p2.notes : Fld), 12)) (vw .go <| vw .go <| lr E56 (G56 p0) ((.mk p2.num p2.name p2.card p2.key (.mk 10 y1.1 : Typ) p2.union p2.hasDefault p2.dflt p2.notes : Fld), 0)))))) (cs tp 93 [.ptr (0, 0) 0 0, vS y1.1] [(0, 0)] [((0, 0), ⟨0, true, 76, 10, [vL Zas p0.files, vS p0.f.name, vS p0.f.space, vL Zag p0.f.imports, vL Zap p0.f.messages, vL Zam p0.f.enums, vL Zaq p0.f.services, vL Zag p0.known, vL Zag p0.messages, vL Zam p0.enums]⟩)] (Zbc p0 y1.1) (fun y => vB y) fun y4 => br y4 (vw .go <| vw .go <| br (!p2.hasDefault) (vw .go <| vw .go <| lr E56 (G56 p0) ((.mk p2.num p2.name p2.card p2.key (.mk 9 y1.1 : Typ) p2.union p2.hasDefault p2.dflt p2.notes : Fld), 0)) (vw .go <| br (decide (p2.type.kind = (0 : Int)) && false) (vw .go <| vw .go <| lr E56 (G56 p0) ((.mk p2.num p2.name p2.card p2.key (.mk 9 y1.1 : Typ) p2.union p2.hasDefault p2.dflt p2.notes : Fld), 12)) (br (decide (p2.type.kind = (0 : Int))) (vw .go <| br (!decide (p2.dflt.kind = (9 : Int))) (vw .go <| vw .go <| lr E56 (G56 p0) ((.mk p2.num p2.name p2.card p2.key (.mk 9 y1.1 : Typ) p2.union p2.hasDefault p2.dflt p2.notes : Fld), 12)) (vw .go <| vw .go <| cs tp 94 [.ptr (0, 0) 0 0, vS y1.1, vS p2.dflt.text] [(0, 0)] [((0, 0), ⟨0, true, 76, 10, [vL Zas p0.files, vS p0.f.name, vS p0.f.space, vL Zag p0.f.imports, vL Zap p0.f.messages, vL Zam p0.f.enums, vL Zaq p0.f.services, vL Zag p0.known, vL Zag p0.messages, vL Zam p0.enums]⟩)] (Za8 p0 y1.1 p2.dflt.text) (fun y => .tup [.d (.int .u64 y.1), vB y.2]) fun y5 => br (!y5.2) (vw .go <| vw .go <| lr E56 (G56 p0) ((.mk p2.num p2.name p2.card p2.key (.mk 9 y1.1 : Typ) p2.union p2.hasDefault p2.dflt p2.notes : Fld), 16)) (vw .go <| vw .go <| vw .go <| lr E56 (G56 p0) ((.mk p2.num p2.name p2.card p2.key (.mk 9 y1.1 : Typ) p2.union p2.hasDefault (.mk 9 y5.1 ⟨#[]⟩ [] [] [] [] : Val) p2.notes : Fld), 0)))) (vw .go <| vw .go <| br (!decide (p2.dflt.kind = (9 : Int))) (vw .go <| vw .go <| lr E56 (G56 p0) ((.mk p2.num p2.name p2.card p2.key (.mk 9 y1.1 : Typ) p2.union p2.hasDefault p2.dflt p2.notes : Fld), 12)) (vw .go <| vw .go <| lr E56 (G56 p0) ((.mk p2.num p2.name p2.card p2.key (.mk 9 y1.1 : Typ) p2.union p2.hasDefault p2.dflt p2.notes : Fld), 0)))))) (vw .go <| vw .go <| lr E56 (G56 p0) (p2, 12))))) (vw .go <| br (!p2.hasDefault) (vw .go <| vw .go <| lr E56 (G56 p0) (p2, 0)) (vw .go <| br (decide (p2.type.kind = (0 : Int)) && decide (p2.type.kind = (10 : Int))) (vw .go <| vw .go <| lr E56 (G56 p0) (p2, 12)) (br (decide (p2.type.kind = (0 : Int))) (vw .go <| br (!decide (p2.dflt.kind = (9 : Int))) (vw .go <| vw .go <| lr E56 (G56 p0) (p2, 12)) (vw .go <| vw .go <| cs tp 94 [.ptr (0, 0) 0 0, vS p2.type.name, vS p2.dflt.text] [(0, 0)] [((0, 0), ⟨0, true, 76, 10, [vL Zas p0.files, vS p0.f.name, vS p0.f.space, vL Zag p0.f.imports, vL Zap p0.f.messages, vL Zam p0.f.enums, vL Zaq p0.f.services, vL Zag p0.known, vL Zag p0.messages, vL Zam p0.enums]⟩)] (Za8 p0 p2.type.name p2.dflt.text) (fun y => .tup [.d (.int .u64 y.1), vB y.2]) fun y6 => br (!y6.2) (vw .go <| vw .go <| lr E56 (G56 p0) (p2, 16)) (vw .go <| vw .go <| vw .go <| lr E56 (G56 p0) ((.mk p2.num p2.name p2.card p2.key p2.type p2.union p2.hasDefault (.mk 9 y6.1 ⟨#[]⟩ [] [] [] [] : Val) p2.notes : Fld), 0)))) (vw .go <| vw .go <| br (!decide (p2.dflt.kind = p2.type.kind)) (vw .go <| vw .go <| lr E56 (G56 p0) (p2, 12)) (vw .go <| vw .go <| lr E56 (G56 p0) (p2, 0))))))
def Zbw (p0 : Lnk) (p1 : Bt) (p2 : Fld) : Option (Fld × Int) := (Zw2 p0 p1 p2).m
theorem ZHj (p0 : Lnk) (p1 : Bt) (p2 : Fld) : KO tp 56 1 [.ptr (0, 0) 0 0, vS p1, .agg ((ZeY p2).map .d)] [⟨0, true, 76, 10, [vL Zas p0.files, vS p0.f.name, vS p0.f.space, vL Zag p0.f.imports, vL Zap p0.f.messages, vL Zam p0.f.enums, vL Zaq p0.f.services, vL Zag p0.known, vL Zag p0.messages, vL Zam p0.enums]⟩] (fun _ _ _ _ => True) (Zbw p0 p1 p2) E56 (G56 p0) := ko1 Try.func56 Try.ntmps56 tok [.cell 6 53, .tmp 7] 1 (fun C co hT y m Post L => fo co (Zw2 p0 p1 p2) m L fun r g => ⟨fun y1 => ⟨id, fun y2 => ⟨⟨id, ⟨id, ⟨⟨id, ⟨fun y hy => Zbh (ZES p0 y1.1 p2.dflt.text) hy co g [((0, 0), ⟨0, true, 76, 10, [vL Zas p0.files, vS p0.f.name, vS p0.f.space, vL Zag p0.f.imports, vL Zap p0.f.messages, vL Zam p0.f.enums, vL Zaq p0.f.services, vL Zag p0.known, vL Zag p0.messages, vL Zam p0.enums]⟩)] [] (lkS []) (fun H' hg ho => trivial) (fun H => ⟨fun _ => ⟨rfl, by kernel_rfl⟩, by kernel_rfl, trivial⟩), fun y3 => ⟨id, id⟩⟩⟩, ⟨id, id⟩⟩⟩⟩, ⟨fun y hy => Zbh (ZHM p0 y1.1) hy co g [((0, 0), ⟨0, true, 76, 10, [vL Zas p0.files, vS p0.f.name, vS p0.f.space, vL Zag p0.f.imports, vL Zap p0.f.messages, vL Zam p0.f.enums, vL Zaq p0.f.services, vL Zag p0.known, vL Zag p0.messages, vL Zam p0.enums]⟩)] [] (lkS []) (fun H' hg ho => trivial) (fun H => ⟨fun _ => ⟨rfl, by kernel_rfl⟩, by kernel_rfl, trivial⟩), fun y4 => ⟨⟨id, ⟨id, ⟨⟨id, ⟨fun y hy => Zbh (ZES p0 y1.1 p2.dflt.text) hy co g [((0, 0), ⟨0, true, 76, 10, [vL Zas p0.files, vS p0.f.name, vS p0.f.space, vL Zag p0.f.imports, vL Zap p0.f.messages, vL Zam p0.f.enums, vL Zaq p0.f.services, vL Zag p0.known, vL Zag p0.messages, vL Zam p0.enums]⟩)] [] (lkS []) (fun H' hg ho => trivial) (fun H => ⟨fun _ => ⟨rfl, by kernel_rfl⟩, by kernel_rfl, trivial⟩), fun y5 => ⟨id, id⟩⟩⟩, ⟨id, id⟩⟩⟩⟩, id⟩⟩⟩⟩, ⟨id, ⟨id, ⟨⟨id, ⟨fun y hy => Zbh (ZES p0 p2.type.name p2.dflt.text) hy co g [((0, 0), ⟨0, true, 76, 10, [vL Zas p0.files, vS p0.f.name, vS p0.f.space, vL Zag p0.f.imports, vL Zap p0.f.messages, vL Zam p0.f.enums, vL Zaq p0.f.services, vL Zag p0.known, vL Zag p0.messages, vL Zam p0.enums]⟩)] [] (lkS []) (fun H' hg ho => trivial) (fun H => ⟨fun _ => ⟨rfl, by kernel_rfl⟩, by kernel_rfl, trivial⟩), fun y6 => ⟨id, id⟩⟩⟩, ⟨id, id⟩⟩⟩⟩⟩) (hB := fun y => ⟨.inr (by kernel_rfl), rfl, trivial⟩)
abbrev E28 : Msg × Int → AV := fun y => .tup [.agg ((Zap y.1).map .d), vI y.2]
@[reducible] def G28 (p0 : Lnk) : Msg × Int → List Blk := fun y => [⟨0, true, 76, 10, [vL Zas p0.files, vS p0.f.name, vS p0.f.space, vL Zag p0.f.imports, vL Zap p0.f.messages, vL Zam p0.f.enums, vL Zaq p0.f.services, vL Zag p0.known, vL Zag p0.messages, vL Zam p0.enums]⟩]
section
variable {C : Cx} (p0 : Lnk) (p1 : Msg) (y1 : Bt) (y2 : List Fld)
abbrev ZoP := PT 1 (Msg × Int)
abbrev ZuB : Blk := ⟨0, true, 76, 10, [vL Zas p0.files, vS p0.f.name, vS p0.f.space, vL Zag p0.f.imports, vL Zap p0.f.messages, vL Zam p0.f.enums, vL Zaq p0.f.services, vL Zag p0.known, vL Zag p0.messages, vL Zam p0.enums]⟩
abbrev Zr3 : Blk := ⟨0, true, 39, 5, [vS ⟨#[]⟩, .e0, .e0, .e0, .e0]⟩
abbrev ZxJ : Blk := ⟨0, true, 39, 5, [vS y1, .ref (1, 21) 0 0 y2.length, vL ZpL p1.reserved, vL Zag p1.gone, vL eNt p1.notes]⟩
abbrev ZCi : List (Key × Blk) := [((0, 0), (ZuB p0)), ((1, 3), ⟨0, true, 39, 5, [vS y1, vL ZeY p1.fields, vL ZpL p1.reserved, vL Zag p1.gone, vL eNt p1.notes]⟩), ((1, 4), Zr3)]
abbrev ZCV : List (Nat × AV) := [(0, .ptr (0, 0) 0 0), (3, .ptr (1, 3) 0 0), (4, .ptr (1, 4) 0 0)]
abbrev ZDu : List (Key × Bool) := [((0, 0), false), ((1, 3), false), ((1, 4), false), ((1, 21), true)]
def Zwk : Nat × List Fld → St := fun (v3, r4) => mkS [(0, .ptr (0, 0) 0 0), (3, .ptr (1, 3) 0 0), (4, .ptr (1, 4) 0 0), (24, .ref (1, 21) 0 0 y2.length), (25, vN y2.length), (26, vN v3)] [((0, 0), (ZuB p0)), ((1, 3), (ZxJ p1 y1 y2)), ((1, 4), Zr3), ((1, 21), ⟨0, true, 53, 16, Zaa ZeY r4⟩)]
def ZCr : List Fld → Nat × St := fun r7 => (0, mkS [(3, .ptr (1, 3) 0 0), (4, .ptr (1, 4) 0 0)] [((0, 0), (ZuB p0)), ((1, 3), (ZxJ p1 y1 y2)), ((1, 4), Zr3), ((1, 21), ⟨0, true, 53, 16, Zaa ZeY r7⟩)])
def Zub (v3 : Nat) (r4 : List Fld) : PT 1 (Lv (Nat × List Fld) (List Fld) (Msg × Int)) := br (decide ((v3 : Int) < (y2.length : Int))) (vs (ir v3 y2.length 16) <| ca r4 v3 fun e5 => vw .go <| vw .go <| vw .go <| cs tp 56 [.ptr (0, 0) 0 0, vS y1, .agg ((ZeY e5).map .d)] [(0, 0)] [((0, 0), ⟨0, true, 76, 10, [vL Zas p0.files, vS p0.f.name, vS p0.f.space, vL Zag p0.f.imports, vL Zap p0.f.messages, vL Zam p0.f.enums, vL Zaq p0.f.services, vL Zag p0.known, vL Zag p0.messages, vL Zam p0.enums]⟩)] (Zbw p0 y1 e5) (fun y => .tup [.agg ((ZeY y.1).map .d), vI y.2]) fun y6 => vw .go <| br (!decide (y6.2 = (0 : Int))) (vw .go <| vw .go <| vs (frt y2.length r4) <| lrt E28 (G28 p0) ((.mk y1 r4 p1.reserved p1.gone p1.notes : Msg), y6.2)) (vw .go <| vw .go <| vs (ir v3 y2.length 16) <| vs (st r4 v3 y6.1) <| vs (wa v3 1) <| vz (fl (r4.set v3 y6.1)) <| ln (Zwk p0 p1 y1 y2) (v3 + 1, r4.set v3 y6.1))) (vz (fl r4) <| lxe (ZCr p0 p1 y1 y2) r4)
def Zqp := fun ((v3, r4) : Nat × List Fld) => (Zub p0 p1 y1 y2 v3 r4).m
def Zxk (r7 : List Fld) : ZoP := vw .go <| vw .go <| vs (frt y2.length r7) <| lr E28 (G28 p0) ((.mk y1 r7 p1.reserved p1.gone p1.notes : Msg), 0)
def ZwI : ZoP := vw .go <| vz (eqN y2.length) <| vz (fl y2) <| lc (Zwk p0 p1 y1 y2 (0, y2)) ((Zad (Zqp p0 p1 y1 y2) big (0, y2)).bind (Sum.elim (fun r7 => (Zxk p0 p1 y1 y2 r7).m) some))
def ZzP : ZoP := vw .go <| vz (fl y2) <| lc (mkS ZCV [((0, 0), (ZuB p0)), ((1, 3), (ZxJ p1 y1 y2)), ((1, 4), Zr3), ((1, 21), ⟨0, true, 53, 16, Zaa ZeY y2⟩)]) ((ZwI p0 p1 y1 y2).m)
def ZwG : ZoP := vw .go <| lc (mkS [(0, .ptr (0, 0) 0 0), (3, .ptr (1, 3) 0 0), (4, .ptr (1, 4) 0 0), (20, vL ZeY p1.fields)] (ZCi p0 p1 y1)) ((ZcE p1.fields).bind fun y2 => (ZzP p0 p1 y1 y2).m)
def Zym : ZoP := vw .go <| vw .go <| cl (Zzd p0.f.space p1.name) fun y1 => vw .go <| lc (mkS ZCV (ZCi p0 p1 y1)) ((ZwG p0 p1 y1).m)
def Za2 (p0 : Lnk) (p1 : Msg) : Option (Msg × Int) := (Zym p0 p1).m
theorem Zy1 (co : CO C 1) : Kl 50 C (pa [0, 0, 1, 0, 1, 1, 1] (Zai Try.f28)) [.cell 4 39, .tmp 5] 1 (Zwk p0 p1 y1 y2) (ZCr p0 p1 y1 y2) E28 (G28 p0) (Zqp p0 p1 y1 y2) := fun (v3, r4) _ m Q Post hQ L => en co (Zub p0 p1 y1 y2 v3 r4) (lf2 [0, 3, 4, 24, 25, 26] ZDu) (lf2 [3, 4] ZDu) hQ m L fun r g => ⟨fun e5 => ⟨fun y hy => Zbh (ZHj p0 y1 e5) hy co g [((0, 0), ⟨0, true, 76, 10, [vL Zas p0.files, vS p0.f.name, vS p0.f.space, vL Zag p0.f.imports, vL Zap p0.f.messages, vL Zam p0.f.enums, vL Zaq p0.f.services, vL Zag p0.known, vL Zag p0.messages, vL Zam p0.enums]⟩)] [] (lkS []) (fun H' hg ho => trivial) (fun H => ⟨fun _ => ⟨rfl, by kernel_rfl⟩, by kernel_rfl, trivial⟩), fun y6 => ⟨id, id⟩⟩, id⟩
end
theorem ZHI (p0 : Lnk) (p1 : Msg) : KO tp 28 1 [.ptr (0, 0) 0 0, .agg ((Zap p1).map .d)] [⟨0, true, 76, 10, [vL Zas p0.files, vS p0.f.name, vS p0.f.space, vL Zag p0.f.imports, vL Zap p0.f.messages, vL Zam p0.f.enums, vL Zaq p0.f.services, vL Zag p0.known, vL Zag p0.messages, vL Zam p0.enums]⟩] (fun _ _ _ _ => True) (Za2 p0 p1) E28 (G28 p0) := ko1 Try.func28 Try.ntmps28 tok [.cell 4 39, .tmp 5] 1 (fun C co hT y m Post L => mi co 2 (Zym p0 p1) (lf2 [0, 3, 4] [((0, 0), false), ((1, 3), false), ((1, 4), false)]) nl ii m L fun r g y1 _ m L => sq (rg (Zb8 co tok 2 (ZwG p0 p1 y1) (lf2 [0, 3, 4, 20] [((0, 0), false), ((1, 3), false), ((1, 4), false)]) m L fun r g _ m L => ZaS co m 55 [vL ZeY p1.fields] [(1, 21)] ([((1, 21), ⟨0, false, 0, 0, []⟩)] ++ []) (fun z => .ref (1, 21) 1 0 z.length) (fun z => [((1, 21), ⟨1, true, 53, 16, Zaa ZeY z⟩)]) [] (fun z => trivial) (trivial) (fun z hz r g => Zae (ZHp p1.fields) hz co g [((1, 21), ⟨0, false, 0, 0, []⟩)] [] [((1, 21), ⟨1, true, 53, 16, Zaa ZeY z⟩)] (lkS []) (fun H' hg ho => trivial) (fun H => ⟨(fun h => by cases h), by kernel_rfl, trivial⟩) (fun H => ⟨fun _ => ⟨rfl, bz⟩, by kernel_rfl, trivial⟩)) fun y2 m => Zb4 co tok (ZzP p0 p1 y1 y2) (lf2 [0, 3, 4] [((0, 0), false), ((1, 3), false), ((1, 4), false), ((1, 21), true)]) m L fun r g _ m L => sq (mi co 1 (ZwI p0 p1 y1 y2) (lf2 [0, 3, 4, 24, 25, 26] [((0, 0), false), ((1, 3), false), ((1, 4), false), ((1, 21), true)]) nl ii m L fun r g _ m L => bk 0 (lo (lpF (Zy1 p0 p1 y1 y2 co) ii m L (fun r7 m => fo co (Zxk p0 p1 y1 y2 r7) m L fun r g => id))))))) (hB := fun y => ⟨.inr (by kernel_rfl), rfl, trivial⟩)
abbrev E57 : List Mth → AV := fun y => .ref (0, 0) 1 0 y.length
@[reducible] def G57 : List Mth → List Blk := fun y => [⟨1, true, 59, 5, Zaa ZgX y⟩]
def Zxb (p0 : List Mth) : PT 1 (List Mth) := al ZgX p0 false fun b1 => br b1 (vw .sep <| vw (.ads 2 2 59 5) <| mv 2 0 ([] : List Mth) <| lr E57 (G57) ([] : List Mth)) (a0 p0 <| mv 7 0 p0 <| lr E57 (G57) p0)
def Zco (p0 : List Mth) : Option (List Mth) := (Zxb p0).m
theorem ZIf (p0 : List Mth) : KO tp 57 1 [vL ZgX p0] [⟨0, false, 0, 0, []⟩] (fun _ _ _ _ => True) (Zco p0) E57 (G57) := ko1 Try.func57 Try.ntmps57 tok [.tmp 2] 1 (fun C co hT y m Post L => fo co (Zxb p0) m L fun r g => ⟨fun b1 => ⟨id, id⟩, by intro b h; subst h; cases b <;> rfl⟩) (hB := fun y => ⟨.inl (Zaj _ _), rfl, trivial⟩)
abbrev E58 : Bt × Int → AV := fun y => .tup [vS y.1, vI y.2]
@[reducible] def G58 (p0 : Lnk) : Bt × Int → List Blk := fun y => [⟨0, true, 76, 10, [vL Zas p0.files, vS p0.f.name, vS p0.f.space, vL Zag p0.f.imports, vL Zap p0.f.messages, vL Zam p0.f.enums, vL Zaq p0.f.services, vL Zag p0.known, vL Zag p0.messages, vL Zam p0.enums]⟩]
def Zzs (p0 : Lnk) (p1 : Bt) : PT 1 (Bt × Int) := vw .go <| vw .go <| cl (ZGL p0.f.space p1 p0.known) fun y1 => br (!y1.2) (lr E58 (G58 p0) (⟨#[]⟩, 8)) (vw .go <| cl (ZCM p0.messages y1.1) fun y2 => br (!y2) (lr E58 (G58 p0) (⟨#[]⟩, 12)) (lr E58 (G58 p0) (y1.1, 0)))
def Zbm (p0 : Lnk) (p1 : Bt) : Option (Bt × Int) := (Zzs p0 p1).m
theorem ZHa (p0 : Lnk) (p1 : Bt) : KO tp 58 1 [.ptr (0, 0) 0 0, vS p1] [⟨0, true, 76, 10, [vL Zas p0.files, vS p0.f.name, vS p0.f.space, vL Zag p0.f.imports, vL Zap p0.f.messages, vL Zam p0.f.enums, vL Zaq p0.f.services, vL Zag p0.known, vL Zag p0.messages, vL Zam p0.enums]⟩] (fun _ _ _ _ => True) (Zbm p0 p1) E58 (G58 p0) := ko1 Try.func58 Try.ntmps58 tok [.tmp 4, .tmp 5] 1 (fun C co hT y m Post L => fo co (Zzs p0 p1) m L fun r g y1 => ⟨id, fun y2 => ⟨id, id⟩⟩) (hB := fun y => ⟨.inr (by kernel_rfl), rfl, trivial⟩)
abbrev E29 : Svc × Int → AV := fun y => .tup [.agg ((Zaq y.1).map .d), vI y.2]
@[reducible] def G29 (p0 : Lnk) : Svc × Int → List Blk := fun y => [⟨0, true, 76, 10, [vL Zas p0.files, vS p0.f.name, vS p0.f.space, vL Zag p0.f.imports, vL Zap p0.f.messages, vL Zam p0.f.enums, vL Zaq p0.f.services, vL Zag p0.known, vL Zag p0.messages, vL Zam p0.enums]⟩]
section
variable {C : Cx} (p0 : Lnk) (p1 : Svc) (y1 : Bt) (y2 : List Mth)
abbrev Zpw := PT 1 (Svc × Int)
abbrev Ztu : Blk := ⟨0, true, 76, 10, [vL Zas p0.files, vS p0.f.name, vS p0.f.space, vL Zag p0.f.imports, vL Zap p0.f.messages, vL Zam p0.f.enums, vL Zaq p0.f.services, vL Zag p0.known, vL Zag p0.messages, vL Zam p0.enums]⟩
abbrev Zve : Blk := ⟨0, true, 57, 3, [vS ⟨#[]⟩, .e0, .e0]⟩
abbrev ZzB : Blk := ⟨0, true, 57, 3, [vS y1, .ref (1, 22) 0 0 y2.length, vL eNt p1.notes]⟩
abbrev ZC3 : List (Key × Blk) := [((0, 0), (Ztu p0)), ((1, 3), ⟨0, true, 57, 3, [vS y1, vL ZgX p1.methods, vL eNt p1.notes]⟩), ((1, 4), Zve)]
abbrev ZCm : List (Nat × AV) := [(0, .ptr (0, 0) 0 0), (3, .ptr (1, 3) 0 0), (4, .ptr (1, 4) 0 0)]
abbrev ZCD : List (Key × Bool) := [((0, 0), false), ((1, 3), false), ((1, 4), false), ((1, 22), true)]
def ZxC : Nat × List Mth → St := fun (v3, r4) => mkS [(0, .ptr (0, 0) 0 0), (3, .ptr (1, 3) 0 0), (4, .ptr (1, 4) 0 0), (26, vN y2.length), (27, vN v3)] [((0, 0), (Ztu p0)), ((1, 3), (ZzB p1 y1 y2)), ((1, 4), Zve), ((1, 22), ⟨0, true, 59, 5, Zaa ZgX r4⟩)]
def ZCl : List Mth → Nat × St := fun r13 => (0, mkS [(3, .ptr (1, 3) 0 0), (4, .ptr (1, 4) 0 0)] [((0, 0), (Ztu p0)), ((1, 3), (ZzB p1 y1 y2)), ((1, 4), Zve), ((1, 22), ⟨0, true, 59, 5, Zaa ZgX r13⟩)])
def Zu5 (v3 : Nat) (r4 : List Mth) : PT 1 (Lv (Nat × List Mth) (List Mth) (Svc × Int)) := br (decide ((v3 : Int) < (y2.length : Int))) (vw .go <| vs (ir v3 y2.length 5) <| cp r4 v3 1 1 fun e5 => cs tp 58 [.ptr (0, 0) 0 0, vS e5.inn] [(0, 0)] [((0, 0), ⟨0, true, 76, 10, [vL Zas p0.files, vS p0.f.name, vS p0.f.space, vL Zag p0.f.imports, vL Zap p0.f.messages, vL Zam p0.f.enums, vL Zaq p0.f.services, vL Zag p0.known, vL Zag p0.messages, vL Zam p0.enums]⟩)] (Zbm p0 e5.inn) (fun y => .tup [vS y.1, vI y.2]) fun y6 => br (!decide (y6.2 = (0 : Int))) (vw .go <| vw .go <| vs (frt y2.length r4) <| lrt E29 (G29 p0) ((.mk y1 r4 p1.notes : Svc), y6.2)) (cp r4 v3 2 1 fun e7 => cs tp 58 [.ptr (0, 0) 0 0, vS e7.out] [(0, 0)] [((0, 0), ⟨0, true, 76, 10, [vL Zas p0.files, vS p0.f.name, vS p0.f.space, vL Zag p0.f.imports, vL Zap p0.f.messages, vL Zam p0.f.enums, vL Zaq p0.f.services, vL Zag p0.known, vL Zag p0.messages, vL Zam p0.enums]⟩)] (Zbm p0 e7.out) (fun y => .tup [vS y.1, vI y.2]) fun y8 => br (!decide (y8.2 = (0 : Int))) (vw .go <| vw .go <| vs (frt y2.length r4) <| lrt E29 (G29 p0) ((.mk y1 r4 p1.notes : Svc), y8.2)) (stp r4 v3 1 [(.str y6.1)] (fun e9 => (.mk e9.name y6.1 e9.out e9.shape e9.notes : Mth)) (fun _ => rfl) fun l10 => stp l10 v3 2 [(.str y8.1)] (fun e11 => (.mk e11.name e11.inn y8.1 e11.shape e11.notes : Mth)) (fun _ => rfl) fun l12 => vs (wa v3 1) <| vz (fl l12) <| ln (ZxC p0 p1 y1 y2) (v3 + 1, l12)))) (vz (fl r4) <| lxe (ZCl p0 p1 y1 y2) r4)
def Zpq := fun ((v3, r4) : Nat × List Mth) => (Zu5 p0 p1 y1 y2 v3 r4).m
def Zys (r13 : List Mth) : Zpw := vw .go <| vw .go <| vs (frt y2.length r13) <| lr E29 (G29 p0) ((.mk y1 r13 p1.notes : Svc), 0)
def ZAz : Zpw := vw .go <| vz (eqN y2.length) <| vz (fl y2) <| lc (ZxC p0 p1 y1 y2 (0, y2)) ((Zad (Zpq p0 p1 y1 y2) big (0, y2)).bind (Sum.elim (fun r13 => (Zys p0 p1 y1 y2 r13).m) some))
def ZyG : Zpw := vw .go <| vz (fl y2) <| lc (mkS ZCm [((0, 0), (Ztu p0)), ((1, 3), (ZzB p1 y1 y2)), ((1, 4), Zve), ((1, 22), ⟨0, true, 59, 5, Zaa ZgX y2⟩)]) ((ZAz p0 p1 y1 y2).m)
def ZAs : Zpw := vw .go <| lc (mkS [(0, .ptr (0, 0) 0 0), (3, .ptr (1, 3) 0 0), (4, .ptr (1, 4) 0 0), (21, vL ZgX p1.methods)] (ZC3 p0 p1 y1)) ((Zco p1.methods).bind fun y2 => (ZyG p0 p1 y1 y2).m)
def ZxK : Zpw := vw .go <| vw .go <| cl (Zzd p0.f.space p1.name) fun y1 => vw .go <| lc (mkS ZCm (ZC3 p0 p1 y1)) ((ZAs p0 p1 y1).m)
def Za3 (p0 : Lnk) (p1 : Svc) : Option (Svc × Int) := (ZxK p0 p1).m
theorem ZAB (co : CO C 1) : Kl 70 C (pa [0, 0, 1, 0, 1, 1, 1] (Zai Try.f29)) [.cell 4 57, .tmp 5] 1 (ZxC p0 p1 y1 y2) (ZCl p0 p1 y1 y2) E29 (G29 p0) (Zpq p0 p1 y1 y2) := fun (v3, r4) _ m Q Post hQ L => en co (Zu5 p0 p1 y1 y2 v3 r4) (lf2 [0, 3, 4, 26, 27] ZCD) (lf2 [3, 4] ZCD) hQ m L fun r g => ⟨fun e5 => ⟨fun y hy => Zbh (ZHa p0 e5.inn) hy co g [((0, 0), ⟨0, true, 76, 10, [vL Zas p0.files, vS p0.f.name, vS p0.f.space, vL Zag p0.f.imports, vL Zap p0.f.messages, vL Zam p0.f.enums, vL Zaq p0.f.services, vL Zag p0.known, vL Zag p0.messages, vL Zam p0.enums]⟩)] [] (lkS []) (fun H' hg ho => trivial) (fun H => ⟨fun _ => ⟨rfl, by kernel_rfl⟩, by kernel_rfl, trivial⟩), fun y6 => ⟨id, fun e7 => ⟨fun y hy => Zbh (ZHa p0 e7.out) hy co g [((0, 0), ⟨0, true, 76, 10, [vL Zas p0.files, vS p0.f.name, vS p0.f.space, vL Zag p0.f.imports, vL Zap p0.f.messages, vL Zam p0.f.enums, vL Zaq p0.f.services, vL Zag p0.known, vL Zag p0.messages, vL Zam p0.enums]⟩)] [] (lkS []) (fun H' hg ho => trivial) (fun H => ⟨fun _ => ⟨rfl, by kernel_rfl⟩, by kernel_rfl, trivial⟩), fun y8 => ⟨id, fun l10 l12 => id⟩⟩⟩⟩, id⟩
end
theorem ZHF (p0 : Lnk) (p1 : Svc) : KO tp 29 1 [.ptr (0, 0) 0 0, .agg ((Zaq p1).map .d)] [⟨0, true, 76, 10, [vL Zas p0.files, vS p0.f.name, vS p0.f.space, vL Zag p0.f.imports, vL Zap p0.f.messages, vL Zam p0.f.enums, vL Zaq p0.f.services, vL Zag p0.known, vL Zag p0.messages, vL Zam p0.enums]⟩] (fun _ _ _ _ => True) (Za3 p0 p1) E29 (G29 p0) := ko1 Try.func29 Try.ntmps29 tok [.cell 4 57, .tmp 5] 1 (fun C co hT y m Post L => mi co 2 (ZxK p0 p1) (lf2 [0, 3, 4] [((0, 0), false), ((1, 3), false), ((1, 4), false)]) nl ii m L fun r g y1 _ m L => sq (rg (Zb8 co tok 2 (ZAs p0 p1 y1) (lf2 [0, 3, 4, 21] [((0, 0), false), ((1, 3), false), ((1, 4), false)]) m L fun r g _ m L => ZaS co m 57 [vL ZgX p1.methods] [(1, 22)] ([((1, 22), ⟨0, false, 0, 0, []⟩)] ++ []) (fun z => .ref (1, 22) 1 0 z.length) (fun z => [((1, 22), ⟨1, true, 59, 5, Zaa ZgX z⟩)]) [] (fun z => trivial) (trivial) (fun z hz r g => Zae (ZIf p1.methods) hz co g [((1, 22), ⟨0, false, 0, 0, []⟩)] [] [((1, 22), ⟨1, true, 59, 5, Zaa ZgX z⟩)] (lkS []) (fun H' hg ho => trivial) (fun H => ⟨(fun h => by cases h), by kernel_rfl, trivial⟩) (fun H => ⟨fun _ => ⟨rfl, bz⟩, by kernel_rfl, trivial⟩)) fun y2 m => Zb4 co tok (ZyG p0 p1 y1 y2) (lf2 [0, 3, 4] [((0, 0), false), ((1, 3), false), ((1, 4), false), ((1, 22), true)]) m L fun r g _ m L => sq (mi co 1 (ZAz p0 p1 y1 y2) (lf2 [0, 3, 4, 26, 27] [((0, 0), false), ((1, 3), false), ((1, 4), false), ((1, 22), true)]) nl ii m L fun r g _ m L => bk 0 (lo (lpF (ZAB p0 p1 y1 y2 co) ii m L (fun r13 m => fo co (Zys p0 p1 y1 y2 r13) m L fun r g => id))))))) (hB := fun y => ⟨.inr (by kernel_rfl), rfl, trivial⟩)
section
variable {α : Type} [Rw α] [Tid α]
abbrev ZrD : List α → AV := fun y => .tup []
@[reducible] def Zrz : List α → List Blk := fun y => [⟨0, true, Tid.t α, Rw.s α, Zaa Rw.f y⟩]
def ZBb (pf3 : α → α → Option Int) : Cl := fun no l H θ => (∀ (z0 : α) (z1 : α) y, pf3 z0 z1 = some y → ZiH tp l no H (θ 3) [.agg ((Rw.f z0).map .d), .agg ((Rw.f z1).map .d)] (vI y))
section
variable (p0 : List α) (p1 p2 : Int) (pf3 : α → α → Option Int) (v1 : Int) (r2 : List α)
abbrev Zmy (α : Type) := PT 1 (Lv (Int × List α) (List α) (List α))
abbrev ZpR : List (Nat × AV) := [(0, .ref (0, 0) 0 0 p0.length), (1, vI p1), (2, vI p2), (3, .fn (.yield 3) [] []), (8, vI v1)]
def Zj2 : Int × List α → St := fun (v1, r2) => mkS (ZpR p0 p1 p2 v1) [((0, 0), ⟨0, true, Tid.t α, Rw.s α, Zaa Rw.f r2⟩)]
def ZmE : List α → Nat × St := fun r11 => (0, mkS [] [((0, 0), ⟨0, true, Tid.t α, Rw.s α, Zaa Rw.f r11⟩)])
def ZjM : Int × List α → St := fun (v3, r4) => mkS [(0, .ref (0, 0) 0 0 p0.length), (1, vI p1), (2, vI p2), (3, .fn (.yield 3) [] []), (8, vI v1), (9, vI v3)] [((0, 0), ⟨0, true, Tid.t α, Rw.s α, Zaa Rw.f r4⟩)]
def Zln : List α → Nat × St := fun r10 => (2, mkS (ZpR p0 p1 p2 v1) [((0, 0), ⟨0, true, Tid.t α, Rw.s α, Zaa Rw.f r10⟩)])
def Zfc (v3 : Int) (r4 : List α) : Zmy α := vg (decide (p1 < v3)) (iri v3 p0.length (Rw.s α)) <| cag (decide (p1 < v3)) r4 v3.toNat fun e5 => vg (decide (p1 < v3)) (wi (v3 - 1)) <| vg (decide (p1 < v3)) (iri (v3 - 1) p0.length (Rw.s α)) <| cag (decide (p1 < v3)) r4 (v3 - 1).toNat fun e6 => cfg (decide (p1 < v3)) tp 3 [.agg ((Rw.f e5).map .d), .agg ((Rw.f e6).map .d)] (pf3 e5 e6) (fun y => vI y) fun y7 => br (decide (p1 < v3) && decide (y7 < (0 : Int))) (vs (wi (v3 - 1)) <| vs (wi (v3 - 1)) <| vs (iri (v3 - 1) p0.length (Rw.s α)) <| ca r4 (v3 - 1).toNat fun e8 => vs (iri v3 p0.length (Rw.s α)) <| ca r4 v3.toNat fun e9 => vs (iri v3 p0.length (Rw.s α)) <| vs (st r4 v3.toNat e8) <| vwr 0 ((Rw.f (e8 : α)).map .d) (fun _ => Zfk _) <| vs (iri (v3 - 1) p0.length (Rw.s α)) <| vs (st (r4.set v3.toNat e8) (v3 - 1).toNat e9) <| vwr 0 ((Rw.f (e9 : α)).map .d) (fun _ => Zfk _) <| vs (wi (v3 - 1)) <| vz (fl ((r4.set v3.toNat e8).set (v3 - 1).toNat e9)) <| ln (ZjM p0 p1 p2 v1) ((v3 - 1), (r4.set v3.toNat e8).set (v3 - 1).toNat e9)) (vz (fl r4) <| lxe (Zln p0 p1 p2 v1) r4)
def Zc9 := fun ((v3, r4) : Int × List α) => (Zfc p0 p1 p2 pf3 v1 v3 r4).m
def ZhC (r10 : List α) : Zmy α := vs (wi (v1 + 1)) <| vz (fl r10) <| ln (Zj2 p0 p1 p2) ((v1 + 1), r10)
def Zht : Zmy α := vz (fl r2) <| lc (ZjM p0 p1 p2 v1 (v1, r2)) ((Zad (Zc9 p0 p1 p2 pf3 v1) big (v1, r2)).bind (Sum.elim (fun r10 => (ZhC p0 p1 p2 v1 r10).m) (fun z => some (.rt z))))
def Zhs : Zmy α := br (decide (v1 < p2)) (vz (fl r2) <| lc (mkS (ZpR p0 p1 p2 v1) [((0, 0), ⟨0, true, Tid.t α, Rw.s α, Zaa Rw.f r2⟩)]) ((Zht p0 p1 p2 pf3 v1 r2).m)) (vz (fl r2) <| lxe (ZmE) r2)
def ZeG := fun ((v1, r2) : Int × List α) => (Zhs p0 p1 p2 pf3 v1 r2).m
def ZjT (r11 : List α) : PT 1 (List α) := lr ZrD (Zrz) r11
def Zjt : PT 1 (List α) := vs (wi (p1 + 1)) <| vz (fl p0) <| lc (Zj2 p0 p1 p2 ((p1 + 1), p0)) ((Zad (ZeG p0 p1 p2 pf3) big ((p1 + 1), p0)).bind (Sum.elim (fun r11 => (ZjT r11).m) some))
def Zaw (p0 : List α) (p1 : Int) (p2 : Int) (pf3 : α → α → Option Int) : Option (List α) := (Zjt p0 p1 p2 pf3).m
end
end
section
variable {C : Cx} (co : CO C 1) (p0 : List Msg) (p1 p2 : Int) (pf3 : Msg → Msg → Option Int) (hT : (ZBb pf3) C.no C.l C.H0 C.θ)
section
include co hT
theorem Zsk (v1 : Int) : Kl 53 C (pa [0, 0, 1, 0, 0, 1, 0, 0, 1] (Zai Try.f122)) [] 1 (ZjM p0 p1 p2 v1) (Zln p0 p1 p2 v1) ZrD (Zrz) (Zc9 p0 p1 p2 pf3 v1) := fun (v3, r4) _ m Q Post hQ L => en co (Zfc p0 p1 p2 pf3 v1 v3 r4) (lf2 [0, 1, 2, 3, 8, 9] [((0, 0), true)]) (lf2 [0, 1, 2, 3, 8] [((0, 0), true)]) hQ m L fun r g e5 e6 => ⟨⟨fun y hy => hT _ _ y hy, by intro r; kernel_rfl, by intro r y; kernel_rfl⟩, fun y7 => ⟨fun e8 e9 => id, id⟩⟩
theorem Zr9 : Kl 53 C (pa [0, 0, 1] (Zai Try.f122)) [] 1 (Zj2 p0 p1 p2) (ZmE) ZrD (Zrz) (ZeG p0 p1 p2 pf3) := fun (v1, r2) _ m Q Post hQ L => mi co 1 (Zhs p0 p1 p2 pf3 v1 r2) (lf2 [0, 1, 2, 3, 8] [((0, 0), true)]) (lf2 [] [((0, 0), true)]) hQ m L fun r g => ⟨fun _ m L => sq (bk 1 (mi co 1 (Zht p0 p1 p2 pf3 v1 r2) (lf2 [0, 1, 2, 3, 8, 9] [((0, 0), true)]) nl hQ m L fun r g _ m L => bk 2 (lo (lpL (Zsk co p0 p1 p2 pf3 hT v1) hQ m L (fun r10 m => en co (ZhC p0 p1 p2 v1 r10) (lf2 [0, 1, 2, 3, 8] [((0, 0), true)]) nl hQ m L fun r g => id))))), id⟩
end
end
theorem ZBN (p0 : List Msg) (p1 : Int) (p2 : Int) (pf3 : Msg → Msg → Option Int) : KO tp 122 1 [.ref (0, 0) 0 0 p0.length, vI p1, vI p2, .fn (.yield 3) [] []] [⟨0, true, 39, 5, Zaa Zap p0⟩] (ZBb pf3) (Zaw p0 p1 p2 pf3) ZrD (Zrz) := ko1 Try.func122 Try.ntmps122 tok [] 1 (fun C co hT y m Post L => mi co 1 (Zjt p0 p1 p2 pf3) (lf2 [0, 1, 2, 3, 8] [((0, 0), true)]) nl ii m L fun r g _ m L => bk 0 (lo (lpF (Zr9 co p0 p1 p2 pf3 hT) ii m L (fun r11 m => ZeU (ZjT r11) co m L (fun r g => id) r g)))) (hB := fun y => ⟨.inl (Zaj _ _), rfl, trivial⟩)
section
variable {α : Type} [Rw α] [Tid α]
abbrev Zzb : List α → AV := fun y => .tup []
@[reducible] def ZxY : List α → List Blk := fun y => [⟨0, true, Tid.t α, Rw.s α, Zaa Rw.f y⟩]
section
variable (p0 : List α) (p1 p2 p3 : Int)
def Zj6 : Nat × List α → St := fun (v1, r2) => mkS [(0, .ref (0, 0) 0 0 p0.length), (1, vI p1), (2, vI p2), (3, vI p3), (10, vN v1)] [((0, 0), ⟨0, true, Tid.t α, Rw.s α, Zaa Rw.f r2⟩)]
def ZmD : List α → Nat × St := fun r5 => (0, mkS [] [((0, 0), ⟨0, true, Tid.t α, Rw.s α, Zaa Rw.f r5⟩)])
def ZhM (v1 : Nat) (r2 : List α) : PT 1 (Lv (Nat × List α) (List α) (List α)) := br (decide ((v1 : Int) < p3)) (vs (wi (p1 + (v1 : Int))) <| vs (wi (p2 + (v1 : Int))) <| vs (wi (p2 + (v1 : Int))) <| vs (iri (p2 + (v1 : Int)) p0.length (Rw.s α)) <| ca r2 (p2 + (v1 : Int)).toNat fun e3 => vs (wi (p1 + (v1 : Int))) <| vs (iri (p1 + (v1 : Int)) p0.length (Rw.s α)) <| ca r2 (p1 + (v1 : Int)).toNat fun e4 => vs (iri (p1 + (v1 : Int)) p0.length (Rw.s α)) <| vs (st r2 (p1 + (v1 : Int)).toNat e3) <| vwr 0 ((Rw.f (e3 : α)).map .d) (fun _ => Zfk _) <| vs (iri (p2 + (v1 : Int)) p0.length (Rw.s α)) <| vs (st (r2.set (p1 + (v1 : Int)).toNat e3) (p2 + (v1 : Int)).toNat e4) <| vwr 0 ((Rw.f (e4 : α)).map .d) (fun _ => Zfk _) <| vs (wa v1 1) <| vz (fl ((r2.set (p1 + (v1 : Int)).toNat e3).set (p2 + (v1 : Int)).toNat e4)) <| ln (Zj6 p0 p1 p2 p3) (v1 + 1, (r2.set (p1 + (v1 : Int)).toNat e3).set (p2 + (v1 : Int)).toNat e4)) (vz (fl r2) <| lxe (ZmD) r2)
def Zfa := fun ((v1, r2) : Nat × List α) => (ZhM p0 p1 p2 p3 v1 r2).m
def Zjq (r5 : List α) : PT 1 (List α) := lr Zzb (ZxY) r5
def Zjh : PT 1 (List α) := vz (fl p0) <| lc (Zj6 p0 p1 p2 p3 (0, p0)) ((Zad (Zfa p0 p1 p2 p3) big (0, p0)).bind (Sum.elim (fun r5 => (Zjq r5).m) some))
def ZaG (p0 : List α) (p1 : Int) (p2 : Int) (p3 : Int) : Option (List α) := (Zjh p0 p1 p2 p3).m
end
end
section
variable {C : Cx}
theorem ZsJ (co : CO C 1) (p0 : List Msg) (p1 : Int) (p2 : Int) (p3 : Int) : Kl 38 C (pa [0, 0, 1] (Zai Try.f144)) [] 1 (Zj6 p0 p1 p2 p3) (ZmD) Zzb (ZxY) (Zfa p0 p1 p2 p3) := fun (v1, r2) _ m Q Post hQ L => en co (ZhM p0 p1 p2 p3 v1 r2) (lf2 [0, 1, 2, 3, 10] [((0, 0), true)]) (lf2 [] [((0, 0), true)]) hQ m L fun r g => ⟨fun e3 e4 => id, id⟩
end
theorem ZzQ (p0 : List Msg) (p1 : Int) (p2 : Int) (p3 : Int) : KO tp 144 1 [.ref (0, 0) 0 0 p0.length, vI p1, vI p2, vI p3, .fn (.yield 4) [] []] [⟨0, true, 39, 5, Zaa Zap p0⟩] (fun _ _ _ _ => True) (ZaG p0 p1 p2 p3) Zzb (ZxY) := ko1 Try.func144 Try.ntmps144 tok [] 1 (fun C co hT y m Post L => mi co 1 (Zjh p0 p1 p2 p3) (lf2 [0, 1, 2, 3, 10] [((0, 0), true)]) nl ii m L fun r g _ m L => bk 0 (lo (lpF (ZsJ co p0 p1 p2 p3) ii m L (fun r5 m => ZeU (Zjq r5) co m L (fun r g => id) r g)))) (hB := fun y => ⟨.inl (Zaj _ _), rfl, trivial⟩)
section
variable {α : Type} [Rw α] [Tid α]
abbrev Zy5 : List α → AV := fun y => .tup []
@[reducible] def ZwF : List α → List Blk := fun y => [⟨0, true, Tid.t α, Rw.s α, Zaa Rw.f y⟩]
section
variable (p0 : List α) (p2 v1 v2 : Int) (y4 r3 y5 y8 : List α)
abbrev Zfe (α : Type) := PT 1 (Lv (Int × Int × List α) (Int × List α) (List α))
abbrev ZlW : List (Nat × AV) := [(0, .ref (0, 0) 0 0 p0.length), (2, vI p2), (4, .fn (.yield 4) [] []), (10, vI v1), (11, vI v2)]
abbrev ZpK : List (Key × Blk) := [((0, 0), ⟨0, true, Tid.t α, Rw.s α, Zaa Rw.f r3⟩)]
abbrev ZlL (t : List (Nat × AV)) : List (Nat × AV) := (0, .ref (0, 0) 0 0 p0.length) :: (2, vI p2) :: (4, .fn (.yield 4) [] []) :: t
def ZhA : Int × Int × List α → St := fun (v1, v2, r3) => mkS (ZlW p0 p2 v1 v2) [((0, 0), ⟨0, true, Tid.t α, Rw.s α, Zaa Rw.f r3⟩)]
def ZlN : Int × List α → Nat × St := fun (v6, r7) => (0, mkS (ZlL p0 p2 [(10, vI v6)]) [((0, 0), ⟨0, true, Tid.t α, Rw.s α, Zaa Rw.f r7⟩)])
def ZfS : Zfe α := vs (wi (v1 - v2)) <| vz (fl y4) <| ln (ZhA p0 p2) ((v1 - v2), v2, y4)
def ZgI : Zfe α := vz (fl y4) <| lc (mkS (ZlW p0 p2 v1 v2) [((0, 0), ⟨0, true, Tid.t α, Rw.s α, Zaa Rw.f y4⟩)]) ((ZfS p0 p2 v1 v2 y4).m)
def ZgG : Zfe α := vs (wi (p2 - v1)) <| vz (fl r3) <| lc (mkS (ZlL p0 p2 [(10, vI v1), (11, vI v2), (24, .ref (0, 0) 0 0 p0.length), (27, vI (p2 - v1)), (28, vI p2), (29, vI v2), (30, .fn (.yield 4) [] [])]) (ZpK r3)) (if p0.length = r3.length then (ZaG r3 (p2 - v1) p2 v2).bind fun y4 => (ZgI p0 p2 v1 v2 y4).m else none)
def Zg4 : Zfe α := vs (wi (v2 - v1)) <| vz (fl y5) <| ln (ZhA p0 p2) (v1, (v2 - v1), y5)
def ZfN : Zfe α := vz (fl y5) <| lc (mkS (ZlW p0 p2 v1 v2) [((0, 0), ⟨0, true, Tid.t α, Rw.s α, Zaa Rw.f y5⟩)]) ((Zg4 p0 p2 v1 v2 y5).m)
def ZfJ : Zfe α := vs (wi (p2 - v1)) <| vs (wi (p2 + v2)) <| vs (wi ((p2 + v2) - v1)) <| vz (fl r3) <| lc (mkS (ZlL p0 p2 [(10, vI v1), (11, vI v2), (35, .ref (0, 0) 0 0 p0.length), (38, vI (p2 - v1)), (43, vI ((p2 + v2) - v1)), (44, vI v1), (45, .fn (.yield 4) [] [])]) (ZpK r3)) (if p0.length = r3.length then (ZaG r3 (p2 - v1) ((p2 + v2) - v1) v1).bind fun y5 => (ZfN p0 p2 v1 v2 y5).m else none)
def Zgx : Zfe α := vz (fl r3) <| lc (mkS (ZlL p0 p2 [(10, vI v1), (11, vI v2), (23, vB (decide (v2 < v1)))]) (ZpK r3)) (if decide (v2 < v1) = true then (ZgG p0 p2 v1 v2 r3).m else (ZfJ p0 p2 v1 v2 r3).m)
def ZfL : Zfe α := br (!decide (v1 = v2)) (vz (fl r3) <| lc (mkS (ZlW p0 p2 v1 v2) [((0, 0), ⟨0, true, Tid.t α, Rw.s α, Zaa Rw.f r3⟩)]) ((Zgx p0 p2 v1 v2 r3).m)) (vz (fl r3) <| lxe (ZlN p0 p2) (v1, r3))
def Zdy := fun ((v1, v2, r3) : Int × Int × List α) => (ZfL p0 p2 v1 v2 r3).m
def Zi9 : PT 1 (List α) := lr Zy5 (ZwF) y8
def ZgW : PT 1 (List α) := vz (fl y8) <| lc (mkS [] [((0, 0), ⟨0, true, Tid.t α, Rw.s α, Zaa Rw.f y8⟩)]) ((Zi9 y8).m)
def Zf4 (v6 : Int) (r7 : List α) : PT 1 (List α) := vs (wi (p2 - v6)) <| vz (fl r7) <| lc (mkS [(50, .ref (0, 0) 0 0 p0.length), (53, vI (p2 - v6)), (54, vI p2), (55, vI v6), (56, .fn (.yield 4) [] [])] [((0, 0), ⟨0, true, Tid.t α, Rw.s α, Zaa Rw.f r7⟩)]) (if p0.length = r7.length then (ZaG r7 (p2 - v6) p2 v6).bind fun y8 => (ZgW y8).m else none)
def Zgt (p1 : Int) (p3 : Int) : PT 1 (List α) := vs (wi (p2 - p1)) <| vs (wi (p3 - p2)) <| vz (fl p0) <| lc (ZhA p0 p2 ((p2 - p1), (p3 - p2), p0)) ((Zad (Zdy p0 p2) big ((p2 - p1), (p3 - p2), p0)).bind (Sum.elim (fun (v6, r7) => (Zf4 p0 p2 v6 r7).m) some))
def Zbq (p0 : List α) (p1 : Int) (p2 : Int) (p3 : Int) : Option (List α) := (Zgt p0 p2 p1 p3).m
end
end
section
variable {C : Cx}
theorem ZuA (co : CO C 1) (p0 : List Msg) (p2 : Int) : Kl 58 C (pa [0, 0, 0, 1, 1] (Zai Try.f137)) [] 1 (ZhA p0 p2) (ZlN p0 p2) Zy5 (ZwF) (Zdy p0 p2) := fun (v1, v2, r3) _ m Q Post hQ L => mi co 1 (ZfL p0 p2 v1 v2 r3) (lf2 [0, 2, 4, 10, 11] [((0, 0), true)]) (lf2 [0, 2, 4, 10] [((0, 0), true)]) hQ m L fun r g => ⟨fun _ m L => bk 1 (mi co 1 (Zgx p0 p2 v1 v2 r3) (lf2 [0, 2, 4, 10, 11, 23] [((0, 0), true)]) nl hQ m L fun r g _ m L => cd (decide (v2 < v1)) m (fun m => sq (rg (Zb8 co tok 7 (ZgG p0 p2 v1 v2 r3) (lf2 [0, 2, 4, 10, 11, 24, 27, 28, 29, 30] [((0, 0), true)]) m L fun r g _ m L => Zd4 m fun heq m => ZaS co m 144 [.ref (0, 0) 0 0 p0.length, vI (p2 - v1), vI p2, vI v2, .fn (.yield 4) [] []] [(0, 0)] ([((0, 0), ⟨0, true, 39, 5, Zaa Zap r3⟩)] ++ []) (fun z => .tup []) (fun z => [((0, 0), ⟨0, true, 39, 5, Zaa Zap z⟩)]) [] (fun z => ⟨co.W 0 (by decide), trivial⟩) (trivial) (fun z hz r g => Zae (ZzQ r3 (p2 - v1) p2 v2) hz co g [((0, 0), ⟨0, true, 39, 5, Zaa Zap r3⟩)] [] [((0, 0), ⟨0, true, 39, 5, Zaa Zap z⟩)] (lkS [(4, r.θ 4)]) (fun H' hg ho => trivial) (fun H => ⟨fun _ => ⟨rfl, bz⟩, by kernel_rfl, trivial⟩) (fun H => ⟨fun _ => ⟨rfl, bz⟩, by kernel_rfl, trivial⟩) (hx := by intro H; rw [heq]; kernel_rfl)) fun y4 m => Zb4 co tok (ZgI p0 p2 v1 v2 y4) (lf2 [0, 2, 4, 10, 11] [((0, 0), true)]) m L fun r g _ m L => en co (ZfS p0 p2 v1 v2 y4) (lf2 [0, 2, 4, 10, 11] [((0, 0), true)]) nl hQ m L fun r g => id))) (fun m => sq (rg (Zb8 co tok 11 (ZfJ p0 p2 v1 v2 r3) (lf2 [0, 2, 4, 10, 11, 35, 38, 43, 44, 45] [((0, 0), true)]) m L fun r g _ m L => Zd4 m fun heq m => ZaS co m 144 [.ref (0, 0) 0 0 p0.length, vI (p2 - v1), vI ((p2 + v2) - v1), vI v1, .fn (.yield 4) [] []] [(0, 0)] ([((0, 0), ⟨0, true, 39, 5, Zaa Zap r3⟩)] ++ []) (fun z => .tup []) (fun z => [((0, 0), ⟨0, true, 39, 5, Zaa Zap z⟩)]) [] (fun z => ⟨co.W 0 (by decide), trivial⟩) (trivial) (fun z hz r g => Zae (ZzQ r3 (p2 - v1) ((p2 + v2) - v1) v1) hz co g [((0, 0), ⟨0, true, 39, 5, Zaa Zap r3⟩)] [] [((0, 0), ⟨0, true, 39, 5, Zaa Zap z⟩)] (lkS [(4, r.θ 4)]) (fun H' hg ho => trivial) (fun H => ⟨fun _ => ⟨rfl, bz⟩, by kernel_rfl, trivial⟩) (fun H => ⟨fun _ => ⟨rfl, bz⟩, by kernel_rfl, trivial⟩) (hx := by intro H; rw [heq]; kernel_rfl)) fun y5 m => Zb4 co tok (ZfN p0 p2 v1 v2 y5) (lf2 [0, 2, 4, 10, 11] [((0, 0), true)]) m L fun r g _ m L => en co (Zg4 p0 p2 v1 v2 y5) (lf2 [0, 2, 4, 10, 11] [((0, 0), true)]) nl hQ m L fun r g => id)))), id⟩
end
theorem ZFb (p0 : List Msg) (p1 : Int) (p2 : Int) (p3 : Int) : KO tp 137 1 [.ref (0, 0) 0 0 p0.length, vI p1, vI p2, vI p3, .fn (.yield 4) [] []] [⟨0, true, 39, 5, Zaa Zap p0⟩] (fun _ _ _ _ => True) (Zbq p0 p1 p2 p3) Zy5 (ZwF) := ko1 Try.func137 Try.ntmps137 tok [] 1 (fun C co hT y m Post L => mi co 2 (Zgt p0 p2 p1 p3) (lf2 [0, 2, 4, 10, 11] [((0, 0), true)]) nl ii m L fun r g _ m L => sq (bk 0 (lo (lpF (ZuA co p0 p2) ii m L (fun (v6, r7) m => rg (Zb8 co tok 7 (Zf4 p0 p2 v6 r7) (lf2 [50, 53, 54, 55, 56] [((0, 0), true)]) m L fun r g _ m L => Zd4 m fun heq m => ZaS co m 144 [.ref (0, 0) 0 0 p0.length, vI (p2 - v6), vI p2, vI v6, .fn (.yield 4) [] []] [(0, 0)] ([((0, 0), ⟨0, true, 39, 5, Zaa Zap r7⟩)] ++ []) (fun z => .tup []) (fun z => [((0, 0), ⟨0, true, 39, 5, Zaa Zap z⟩)]) [] (fun z => ⟨co.W 0 (by decide), trivial⟩) (trivial) (fun z hz r g => Zae (ZzQ r7 (p2 - v6) p2 v6) hz co g [((0, 0), ⟨0, true, 39, 5, Zaa Zap r7⟩)] [] [((0, 0), ⟨0, true, 39, 5, Zaa Zap z⟩)] (lkS [(4, r.θ 4)]) (fun H' hg ho => trivial) (fun H => ⟨fun _ => ⟨rfl, bz⟩, by kernel_rfl, trivial⟩) (fun H => ⟨fun _ => ⟨rfl, bz⟩, by kernel_rfl, trivial⟩) (hx := by intro H; rw [heq]; kernel_rfl)) fun y8 m => Zb4 co tok (ZgW y8) (lf2 [] [((0, 0), true)]) m L fun r g _ m L => ZeU (Zi9 y8) co m L (fun r g => id) r g)))))) (hB := fun y => ⟨.inl (Zaj _ _), rfl, trivial⟩)
section
variable {α : Type} [Rw α] [Tid α]
abbrev Zdv : List α → AV := fun y => .tup []
@[reducible] def Zdw : List α → List Blk := fun y => [⟨0, true, Tid.t α, Rw.s α, Zaa Rw.f y⟩]
def ZkI (pf4 : α → α → Option Int) : Cl := fun no l H θ => (∀ (z0 : α) (z1 : α) y, pf4 z0 z1 = some y → ZiH tp l no H (θ 4) [.agg ((Rw.f z0).map .d), .agg ((Rw.f z1).map .d)] (vI y))
section
variable (p0 : List α) (p1 p2 p3 : Int) (pf4 : α → α → Option Int) (R123 : (List α) → Int → Int → Int → (α → α → Option Int) → Option (List α)) (v6 v17 : Int) (y33 : List α) (v30 : Int) (y32 y31 y34 y36 y35 y37 : List α)
abbrev ZaF (α : Type) := PT 1 (List α)
abbrev Zak : Int := (IntKind.i64.wrap (Zax .u64 (IntKind.u64.wrap (p1 + p3)) 1))
abbrev Zb5 : List (Key × Blk) := [((0, 0), ⟨0, true, Tid.t α, Rw.s α, Zaa Rw.f p0⟩)]
abbrev Zl0 : List (Nat × AV) := [(0, .ref (0, 0) 0 0 p0.length), (3, vI p3), (4, .fn (.yield 4) [] []), (18, vI (Zak p1 p3)), (24, vI (((Zak p1 p3) + p2) - v30)), (213, vB (decide ((Zak p1 p3) < (((Zak p1 p3) + p2) - v30)) && decide ((((Zak p1 p3) + p2) - v30) < p3)))]
abbrev Zmi : List (Nat × AV) := [(214, .ref (0, 0) 0 0 p0.length), (215, vI (Zak p1 p3)), (216, vI (((Zak p1 p3) + p2) - v30)), (217, vI p3), (218, .fn (.yield 4) [] [])]
abbrev Zmd : List (Nat × AV) := [(0, .ref (0, 0) 0 0 p0.length), (3, vI p3), (4, .fn (.yield 4) [] []), (18, vI (Zak p1 p3)), (24, vI (((Zak p1 p3) + p2) - v30))]
abbrev ZvQ : List (Nat × AV) := [(0, .ref (0, 0) 0 0 p0.length), (3, vI p3), (4, .fn (.yield 4) [] []), (18, vI (Zak p1 p3)), (24, vI (((Zak p1 p3) + p2) - v30)), (200, .ref (0, 0) 0 0 p0.length), (201, vI p1), (202, vI v30), (203, vI (Zak p1 p3)), (204, .fn (.yield 4) [] [])]
abbrev ZvE : List (Nat × AV) := [(0, .ref (0, 0) 0 0 p0.length), (1, vI p1), (3, vI p3), (4, .fn (.yield 4) [] []), (18, vI (Zak p1 p3)), (20, vI v30), (24, vI (((Zak p1 p3) + p2) - v30)), (199, vB (decide (p1 < v30) && decide (v30 < (Zak p1 p3))))]
abbrev ZvH : List (Nat × AV) := [(0, .ref (0, 0) 0 0 p0.length), (1, vI p1), (3, vI p3), (4, .fn (.yield 4) [] []), (18, vI (Zak p1 p3)), (20, vI v30), (24, vI (((Zak p1 p3) + p2) - v30))]
abbrev ZqO : List (Nat × AV) := [(0, .ref (0, 0) 0 0 p0.length), (1, vI p1), (2, vI p2), (3, vI p3), (4, .fn (.yield 4) [] [])]
abbrev Zgk (t : List (Nat × AV)) : List (Nat × AV) := (0, .ref (0, 0) 0 0 p0.length) :: (1, vI p1) :: (2, vI p2) :: (3, vI p3) :: (4, .fn (.yield 4) [] []) :: t
def Zhk : Int × Int → St := fun (v1, v2) => mkS [(0, .ref (0, 0) 0 0 p0.length), (1, vI p1), (4, .fn (.yield 4) [] []), (10, vI v1), (11, vI v2)] (Zb5 p0)
def ZlC : Int → Nat × St := fun v6 => (0, mkS [(0, .ref (0, 0) 0 0 p0.length), (1, vI p1), (10, vI v6)] (Zb5 p0))
def Zfi (v1 : Int) (v2 : Int) : PT 1 (Lv (Int × Int) (Int) (List α)) := br (decide (v1 < v2)) (vs (wi (v1 + v2)) <| vz (wk .u64 (v1 + v2)) <| shr .u64 (IntKind.u64.wrap (v1 + v2)) 1 <| vz (wk .i64 (Zax .u64 (IntKind.u64.wrap (v1 + v2)) 1)) <| vs (iri (IntKind.i64.wrap (Zax .u64 (IntKind.u64.wrap (v1 + v2)) 1)) p0.length (Rw.s α)) <| ca p0 (IntKind.i64.wrap (Zax .u64 (IntKind.u64.wrap (v1 + v2)) 1)).toNat fun e3 => vs (iri p1 p0.length (Rw.s α)) <| ca p0 p1.toNat fun e4 => cf tp 4 [.agg ((Rw.f e3).map .d), .agg ((Rw.f e4).map .d)] (pf4 e3 e4) (fun y => vI y) fun y5 => br (decide (y5 < (0 : Int))) (vs (wi ((IntKind.i64.wrap (Zax .u64 (IntKind.u64.wrap (v1 + v2)) 1)) + 1)) <| vz (fl p0) <| ln (Zhk p0 p1) (((IntKind.i64.wrap (Zax .u64 (IntKind.u64.wrap (v1 + v2)) 1)) + 1), v2)) (vz (fl p0) <| ln (Zhk p0 p1) (v1, (IntKind.i64.wrap (Zax .u64 (IntKind.u64.wrap (v1 + v2)) 1))))) (vz (fl p0) <| lxe (ZlC p0 p1) v1)
def ZdE := fun ((v1, v2) : Int × Int) => (Zfi p0 p1 pf4 v1 v2).m
def ZjH : Int × List α → St := fun (v7, r8) => mkS [(0, .ref (0, 0) 0 0 p0.length), (10, vI v6), (13, vI v7)] [((0, 0), ⟨0, true, Tid.t α, Rw.s α, Zaa Rw.f r8⟩)]
def ZmB : List α → Nat × St := fun r11 => (2, mkS [] [((0, 0), ⟨0, true, Tid.t α, Rw.s α, Zaa Rw.f r11⟩)])
def Zgj (v7 : Int) (r8 : List α) : PT 1 (Lv (Int × List α) (List α) (List α)) := vs (wi (v6 - 1)) <| br (decide (v7 < (v6 - 1))) (vs (wi (v7 + 1)) <| vs (wi (v7 + 1)) <| vs (iri (v7 + 1) p0.length (Rw.s α)) <| ca r8 (v7 + 1).toNat fun e9 => vs (iri v7 p0.length (Rw.s α)) <| ca r8 v7.toNat fun e10 => vs (iri v7 p0.length (Rw.s α)) <| vs (st r8 v7.toNat e9) <| vwr 0 ((Rw.f (e9 : α)).map .d) (fun _ => Zfk _) <| vs (iri (v7 + 1) p0.length (Rw.s α)) <| vs (st (r8.set v7.toNat e9) (v7 + 1).toNat e10) <| vwr 0 ((Rw.f (e10 : α)).map .d) (fun _ => Zfk _) <| vs (wi (v7 + 1)) <| vz (fl ((r8.set v7.toNat e9).set (v7 + 1).toNat e10)) <| ln (ZjH p0 v6) ((v7 + 1), (r8.set v7.toNat e9).set (v7 + 1).toNat e10)) (vz (fl r8) <| lxe (ZmB) r8)
def ZeC := fun ((v7, r8) : Int × List α) => (Zgj p0 v6 v7 r8).m
def Zhp (r11 : List α) : ZaF α := lr Zdv (Zdw) r11
def ZhI : ZaF α := vz (fl p0) <| lc (ZjH p0 v6 (p1, p0)) ((Zad (ZeC p0 v6) big (p1, p0)).bind (Sum.elim (fun r11 => (Zhp r11).m) some))
def Zhx : ZaF α := vz (fl p0) <| lc (Zhk p0 p1 (p2, p3)) ((Zad (ZdE p0 p1 pf4) big (p2, p3)).bind (Sum.elim (fun v6 => (ZhI p0 p1 v6).m) some))
def ZhP : Int × Int → St := fun (v12, v13) => mkS [(0, .ref (0, 0) 0 0 p0.length), (2, vI p2), (4, .fn (.yield 4) [] []), (14, vI v12), (15, vI v13)] (Zb5 p0)
def ZlM : Int → Nat × St := fun v17 => (4, mkS [(0, .ref (0, 0) 0 0 p0.length), (2, vI p2), (14, vI v17)] (Zb5 p0))
def Zff (v12 : Int) (v13 : Int) : PT 1 (Lv (Int × Int) (Int) (List α)) := br (decide (v12 < v13)) (vs (wi (v12 + v13)) <| vz (wk .u64 (v12 + v13)) <| shr .u64 (IntKind.u64.wrap (v12 + v13)) 1 <| vz (wk .i64 (Zax .u64 (IntKind.u64.wrap (v12 + v13)) 1)) <| vs (iri p2 p0.length (Rw.s α)) <| ca p0 p2.toNat fun e14 => vs (iri (IntKind.i64.wrap (Zax .u64 (IntKind.u64.wrap (v12 + v13)) 1)) p0.length (Rw.s α)) <| ca p0 (IntKind.i64.wrap (Zax .u64 (IntKind.u64.wrap (v12 + v13)) 1)).toNat fun e15 => cf tp 4 [.agg ((Rw.f e14).map .d), .agg ((Rw.f e15).map .d)] (pf4 e14 e15) (fun y => vI y) fun y16 => br (!(decide (y16 < (0 : Int)))) (vs (wi ((IntKind.i64.wrap (Zax .u64 (IntKind.u64.wrap (v12 + v13)) 1)) + 1)) <| vz (fl p0) <| ln (ZhP p0 p2) (((IntKind.i64.wrap (Zax .u64 (IntKind.u64.wrap (v12 + v13)) 1)) + 1), v13)) (vz (fl p0) <| ln (ZhP p0 p2) (v12, (IntKind.i64.wrap (Zax .u64 (IntKind.u64.wrap (v12 + v13)) 1))))) (vz (fl p0) <| lxe (ZlM p0 p2) v12)
def ZdF := fun ((v12, v13) : Int × Int) => (Zff p0 p2 pf4 v12 v13).m
def Zjm : Int × List α → St := fun (v18, r19) => mkS [(0, .ref (0, 0) 0 0 p0.length), (14, vI v17), (17, vI v18)] [((0, 0), ⟨0, true, Tid.t α, Rw.s α, Zaa Rw.f r19⟩)]
def ZlS : List α → Nat × St := fun r22 => (6, mkS [] [((0, 0), ⟨0, true, Tid.t α, Rw.s α, Zaa Rw.f r22⟩)])
def Zfb (v18 : Int) (r19 : List α) : PT 1 (Lv (Int × List α) (List α) (List α)) := br (decide (v17 < v18)) (vs (wi (v18 - 1)) <| vs (wi (v18 - 1)) <| vs (iri (v18 - 1) p0.length (Rw.s α)) <| ca r19 (v18 - 1).toNat fun e20 => vs (iri v18 p0.length (Rw.s α)) <| ca r19 v18.toNat fun e21 => vs (iri v18 p0.length (Rw.s α)) <| vs (st r19 v18.toNat e20) <| vwr 0 ((Rw.f (e20 : α)).map .d) (fun _ => Zfk _) <| vs (iri (v18 - 1) p0.length (Rw.s α)) <| vs (st (r19.set v18.toNat e20) (v18 - 1).toNat e21) <| vwr 0 ((Rw.f (e21 : α)).map .d) (fun _ => Zfk _) <| vs (wi (v18 - 1)) <| vz (fl ((r19.set v18.toNat e20).set (v18 - 1).toNat e21)) <| ln (Zjm p0 v17) ((v18 - 1), (r19.set v18.toNat e20).set (v18 - 1).toNat e21)) (vz (fl r19) <| lxe (ZlS) r19)
def ZdB := fun ((v18, r19) : Int × List α) => (Zfb p0 v17 v18 r19).m
def ZhQ (r22 : List α) : ZaF α := lr Zdv (Zdw) r22
def Zhw : ZaF α := vz (fl p0) <| lc (Zjm p0 v17 (p2, p0)) ((Zad (ZdB p0 v17) big (p2, p0)).bind (Sum.elim (fun r22 => (ZhQ r22).m) some))
def ZeQ : ZaF α := vz (fl p0) <| lc (ZhP p0 p2 (p1, p2)) ((Zad (ZdF p0 p2 pf4) big (p1, p2)).bind (Sum.elim (fun v17 => (Zhw p0 p2 v17).m) some))
def Zi8 : Int × Int → St := fun (v25, v26) => mkS (Zgk p0 p1 p2 p3 [(18, vI (Zak p1 p3)), (19, vI ((Zak p1 p3) + p2)), (20, vI v25), (21, vI v26), (22, vI (((Zak p1 p3) + p2) - 1))]) (Zb5 p0)
def Zmp : Int → Nat × St := fun v30 => (8, mkS (Zgk p0 p1 p2 p3 [(18, vI (Zak p1 p3)), (19, vI ((Zak p1 p3) + p2)), (20, vI v30)]) (Zb5 p0))
def ZcH (v25 : Int) (v26 : Int) : PT 1 (Lv (Int × Int) (Int) (List α)) := br (decide (v25 < v26)) (vs (wi (v25 + v26)) <| vz (wk .u64 (v25 + v26)) <| shr .u64 (IntKind.u64.wrap (v25 + v26)) 1 <| vz (wk .i64 (Zax .u64 (IntKind.u64.wrap (v25 + v26)) 1)) <| vs (wi ((((Zak p1 p3) + p2) - 1) - (IntKind.i64.wrap (Zax .u64 (IntKind.u64.wrap (v25 + v26)) 1)))) <| vs (iri ((((Zak p1 p3) + p2) - 1) - (IntKind.i64.wrap (Zax .u64 (IntKind.u64.wrap (v25 + v26)) 1))) p0.length (Rw.s α)) <| ca p0 ((((Zak p1 p3) + p2) - 1) - (IntKind.i64.wrap (Zax .u64 (IntKind.u64.wrap (v25 + v26)) 1))).toNat fun e27 => vs (iri (IntKind.i64.wrap (Zax .u64 (IntKind.u64.wrap (v25 + v26)) 1)) p0.length (Rw.s α)) <| ca p0 (IntKind.i64.wrap (Zax .u64 (IntKind.u64.wrap (v25 + v26)) 1)).toNat fun e28 => cf tp 4 [.agg ((Rw.f e27).map .d), .agg ((Rw.f e28).map .d)] (pf4 e27 e28) (fun y => vI y) fun y29 => br (!(decide (y29 < (0 : Int)))) (vs (wi ((IntKind.i64.wrap (Zax .u64 (IntKind.u64.wrap (v25 + v26)) 1)) + 1)) <| vz (fl p0) <| ln (Zi8 p0 p1 p2 p3) (((IntKind.i64.wrap (Zax .u64 (IntKind.u64.wrap (v25 + v26)) 1)) + 1), v26)) (vz (fl p0) <| ln (Zi8 p0 p1 p2 p3) (v25, (IntKind.i64.wrap (Zax .u64 (IntKind.u64.wrap (v25 + v26)) 1))))) (vz (fl p0) <| lxe (Zmp p0 p1 p2 p3) v25)
def Zcf := fun ((v25, v26) : Int × Int) => (ZcH p0 p1 p2 p3 pf4 v25 v26).m
def ZfY : ZaF α := lr Zdv (Zdw) y33
def ZgS : ZaF α := vz (fl y33) <| lc (mkS [] [((0, 0), ⟨0, true, Tid.t α, Rw.s α, Zaa Rw.f y33⟩)]) ((ZfY y33).m)
def Zf1 : ZaF α := vz (fl y32) <| lc (mkS (Zmi p0 p1 p2 p3 v30) [((0, 0), ⟨0, true, Tid.t α, Rw.s α, Zaa Rw.f y32⟩)]) (if p0.length = y32.length then (R123 y32 (Zak p1 p3) (((Zak p1 p3) + p2) - v30) p3 pf4).bind fun y33 => (ZgS y33).m else none)
def ZgZ : ZaF α := lr Zdv (Zdw) y32
def ZgN : ZaF α := vz (fl y32) <| lc (mkS (Zl0 p0 p1 p2 p3 v30) [((0, 0), ⟨0, true, Tid.t α, Rw.s α, Zaa Rw.f y32⟩)]) (if (decide ((Zak p1 p3) < (((Zak p1 p3) + p2) - v30)) && decide ((((Zak p1 p3) + p2) - v30) < p3)) = true then (Zf1 p0 p1 p2 p3 pf4 R123 v30 y32).m else (ZgZ y32).m)
def ZgK : ZaF α := vz (fl y32) <| lc (mkS (Zmd p0 p1 p2 p3 v30) [((0, 0), ⟨0, true, Tid.t α, Rw.s α, Zaa Rw.f y32⟩)]) ((ZgN p0 p1 p2 p3 pf4 R123 v30 y32).m)
def ZgO : ZaF α := vz (fl y31) <| lc (mkS (ZvQ p0 p1 p2 p3 v30) [((0, 0), ⟨0, true, Tid.t α, Rw.s α, Zaa Rw.f y31⟩)]) (if p0.length = y31.length then (R123 y31 p1 v30 (Zak p1 p3) pf4).bind fun y32 => (ZgK p0 p1 p2 p3 pf4 R123 v30 y32).m else none)
def Zgv : ZaF α := lr Zdv (Zdw) y34
def Zgc : ZaF α := vz (fl y34) <| lc (mkS [] [((0, 0), ⟨0, true, Tid.t α, Rw.s α, Zaa Rw.f y34⟩)]) ((Zgv y34).m)
def ZgD : ZaF α := vz (fl y31) <| lc (mkS (Zmi p0 p1 p2 p3 v30) [((0, 0), ⟨0, true, Tid.t α, Rw.s α, Zaa Rw.f y31⟩)]) (if p0.length = y31.length then (R123 y31 (Zak p1 p3) (((Zak p1 p3) + p2) - v30) p3 pf4).bind fun y34 => (Zgc y34).m else none)
def ZgL : ZaF α := lr Zdv (Zdw) y31
def Zgm : ZaF α := vz (fl y31) <| lc (mkS (Zl0 p0 p1 p2 p3 v30) [((0, 0), ⟨0, true, Tid.t α, Rw.s α, Zaa Rw.f y31⟩)]) (if (decide ((Zak p1 p3) < (((Zak p1 p3) + p2) - v30)) && decide ((((Zak p1 p3) + p2) - v30) < p3)) = true then (ZgD p0 p1 p2 p3 pf4 R123 v30 y31).m else (ZgL y31).m)
def ZgF : ZaF α := vz (fl y31) <| lc (mkS (Zmd p0 p1 p2 p3 v30) [((0, 0), ⟨0, true, Tid.t α, Rw.s α, Zaa Rw.f y31⟩)]) ((Zgm p0 p1 p2 p3 pf4 R123 v30 y31).m)
def Zf8 : ZaF α := vz (fl y31) <| lc (mkS (ZvE p0 p1 p2 p3 v30) [((0, 0), ⟨0, true, Tid.t α, Rw.s α, Zaa Rw.f y31⟩)]) (if (decide (p1 < v30) && decide (v30 < (Zak p1 p3))) = true then (ZgO p0 p1 p2 p3 pf4 R123 v30 y31).m else (ZgF p0 p1 p2 p3 pf4 R123 v30 y31).m)
def Zg0 : ZaF α := vz (fl y31) <| lc (mkS (ZvH p0 p1 p2 p3 v30) [((0, 0), ⟨0, true, Tid.t α, Rw.s α, Zaa Rw.f y31⟩)]) ((Zf8 p0 p1 p2 p3 pf4 R123 v30 y31).m)
def Zgr : ZaF α := vz (fl p0) <| lc (mkS [(0, .ref (0, 0) 0 0 p0.length), (1, vI p1), (3, vI p3), (4, .fn (.yield 4) [] []), (18, vI (Zak p1 p3)), (20, vI v30), (24, vI (((Zak p1 p3) + p2) - v30)), (186, .ref (0, 0) 0 0 p0.length), (187, vI v30), (188, vI p2), (189, vI (((Zak p1 p3) + p2) - v30)), (190, .fn (.yield 4) [] [])] (Zb5 p0)) ((Zbq p0 v30 p2 (((Zak p1 p3) + p2) - v30)).bind fun y31 => (Zg0 p0 p1 p2 p3 pf4 R123 v30 y31).m)
def Zgq : ZaF α := lr Zdv (Zdw) y36
def ZgA : ZaF α := vz (fl y36) <| lc (mkS [] [((0, 0), ⟨0, true, Tid.t α, Rw.s α, Zaa Rw.f y36⟩)]) ((Zgq y36).m)
def ZgC : ZaF α := vz (fl y35) <| lc (mkS (Zmi p0 p1 p2 p3 v30) [((0, 0), ⟨0, true, Tid.t α, Rw.s α, Zaa Rw.f y35⟩)]) (if p0.length = y35.length then (R123 y35 (Zak p1 p3) (((Zak p1 p3) + p2) - v30) p3 pf4).bind fun y36 => (ZgA y36).m else none)
def Zf7 : ZaF α := lr Zdv (Zdw) y35
def Zg3 : ZaF α := vz (fl y35) <| lc (mkS (Zl0 p0 p1 p2 p3 v30) [((0, 0), ⟨0, true, Tid.t α, Rw.s α, Zaa Rw.f y35⟩)]) (if (decide ((Zak p1 p3) < (((Zak p1 p3) + p2) - v30)) && decide ((((Zak p1 p3) + p2) - v30) < p3)) = true then (ZgC p0 p1 p2 p3 pf4 R123 v30 y35).m else (Zf7 y35).m)
def ZgJ : ZaF α := vz (fl y35) <| lc (mkS (Zmd p0 p1 p2 p3 v30) [((0, 0), ⟨0, true, Tid.t α, Rw.s α, Zaa Rw.f y35⟩)]) ((Zg3 p0 p1 p2 p3 pf4 R123 v30 y35).m)
def Zgb : ZaF α := vz (fl p0) <| lc (mkS (ZvQ p0 p1 p2 p3 v30) (Zb5 p0)) ((R123 p0 p1 v30 (Zak p1 p3) pf4).bind fun y35 => (ZgJ p0 p1 p2 p3 pf4 R123 v30 y35).m)
def ZgH : ZaF α := lr Zdv (Zdw) y37
def Zgw : ZaF α := vz (fl y37) <| lc (mkS [] [((0, 0), ⟨0, true, Tid.t α, Rw.s α, Zaa Rw.f y37⟩)]) ((ZgH y37).m)
def Zf6 : ZaF α := vz (fl p0) <| lc (mkS (Zmi p0 p1 p2 p3 v30) (Zb5 p0)) ((R123 p0 (Zak p1 p3) (((Zak p1 p3) + p2) - v30) p3 pf4).bind fun y37 => (Zgw y37).m)
def Zf9 : ZaF α := lr Zdv (Zdw) p0
def ZgT : ZaF α := vz (fl p0) <| lc (mkS (Zl0 p0 p1 p2 p3 v30) (Zb5 p0)) (if (decide ((Zak p1 p3) < (((Zak p1 p3) + p2) - v30)) && decide ((((Zak p1 p3) + p2) - v30) < p3)) = true then (Zf6 p0 p1 p2 p3 pf4 R123 v30).m else (Zf9 p0).m)
def ZgR : ZaF α := vz (fl p0) <| lc (mkS (Zmd p0 p1 p2 p3 v30) (Zb5 p0)) ((ZgT p0 p1 p2 p3 pf4 R123 v30).m)
def Zge : ZaF α := vz (fl p0) <| lc (mkS (ZvE p0 p1 p2 p3 v30) (Zb5 p0)) (if (decide (p1 < v30) && decide (v30 < (Zak p1 p3))) = true then (Zgb p0 p1 p2 p3 pf4 R123 v30).m else (ZgR p0 p1 p2 p3 pf4 R123 v30).m)
def ZfW : ZaF α := vz (fl p0) <| lc (mkS (ZvH p0 p1 p2 p3 v30) (Zb5 p0)) ((Zge p0 p1 p2 p3 pf4 R123 v30).m)
def Zgh : ZaF α := vz (fl p0) <| lc (mkS (Zgk p0 p1 p2 p3 [(18, vI (Zak p1 p3)), (20, vI v30), (24, vI (((Zak p1 p3) + p2) - v30)), (185, vB (decide (v30 < p2) && decide (p2 < (((Zak p1 p3) + p2) - v30))))]) (Zb5 p0)) (if (decide (v30 < p2) && decide (p2 < (((Zak p1 p3) + p2) - v30))) = true then (Zgr p0 p1 p2 p3 pf4 R123 v30).m else (ZfW p0 p1 p2 p3 pf4 R123 v30).m)
def Ze4 : ZaF α := vs (wi (((Zak p1 p3) + p2) - v30)) <| vz (fl p0) <| lc (mkS (Zgk p0 p1 p2 p3 [(18, vI (Zak p1 p3)), (20, vI v30), (24, vI (((Zak p1 p3) + p2) - v30))]) (Zb5 p0)) ((Zgh p0 p1 p2 p3 pf4 R123 v30).m)
def ZeF : Int × Int → St := fun (v23, v24) => mkS (Zgk p0 p1 p2 p3 [(18, vI (Zak p1 p3)), (19, vI ((Zak p1 p3) + p2)), (20, vI v23), (21, vI v24), (22, vI (((Zak p1 p3) + p2) - 1))]) (Zb5 p0)
def Zcs : Int × Int → Option (List α) := fun (v23, v24) => (Zad (Zcf p0 p1 p2 p3 pf4) big (v23, v24)).bind (Sum.elim (fun v30 => (Ze4 p0 p1 p2 p3 pf4 R123 v30).m) some)
def Zed : ZaF α := vs (wi (p1 + p3)) <| vz (wk .u64 (p1 + p3)) <| shr .u64 (IntKind.u64.wrap (p1 + p3)) 1 <| vz (wk .i64 (Zax .u64 (IntKind.u64.wrap (p1 + p3)) 1)) <| vs (wi ((Zak p1 p3) + p2)) <| br (decide ((Zak p1 p3) < p2)) (vs (wi (((Zak p1 p3) + p2) - p3)) <| vs (wi (((Zak p1 p3) + p2) - 1)) <| vz (fl p0) <| lc (ZeF p0 p1 p2 p3 ((((Zak p1 p3) + p2) - p3), (Zak p1 p3))) (Zcs p0 p1 p2 p3 pf4 R123 ((((Zak p1 p3) + p2) - p3), (Zak p1 p3)))) (vs (wi (((Zak p1 p3) + p2) - 1)) <| vz (fl p0) <| lc (ZeF p0 p1 p2 p3 (p1, p2)) (Zcs p0 p1 p2 p3 pf4 R123 (p1, p2)))
def Zen : ZaF α := vz (fl p0) <| lc (mkS (ZqO p0 p1 p2 p3) (Zb5 p0)) ((Zed p0 p1 p2 p3 pf4 R123).m)
def ZdI : ZaF α := vs (wi (p3 - p2)) <| vz (fl p0) <| lc (mkS (Zgk p0 p1 p2 p3 [(80, vB (decide ((p3 - p2) = (1 : Int))))]) (Zb5 p0)) (if decide ((p3 - p2) = (1 : Int)) = true then (ZeQ p0 p1 p2 pf4).m else (Zen p0 p1 p2 p3 pf4 R123).m)
def ZdQ : ZaF α := vz (fl p0) <| lc (mkS (ZqO p0 p1 p2 p3) (Zb5 p0)) ((ZdI p0 p1 p2 p3 pf4 R123).m)
def ZcZ : ZaF α := vs (wi (p2 - p1)) <| vz (fl p0) <| lc (mkS (Zgk p0 p1 p2 p3 [(28, vB (decide ((p2 - p1) = (1 : Int))))]) (Zb5 p0)) (if decide ((p2 - p1) = (1 : Int)) = true then (Zhx p0 p1 p2 p3 pf4).m else (ZdQ p0 p1 p2 p3 pf4 R123).m)
end
def Zs8 (R123 : (List α) → Int → Int → Int → (α → α → Option Int) → Option (List α)) (p0 : List α) (p1 : Int) (p2 : Int) (p3 : Int) (pf4 : α → α → Option Int) : Option (List α) := (ZcZ p0 p1 p2 p3 pf4 R123).m
end
section
variable {C : Cx} (co : CO C 1) (p0 : List Msg) (p1 p2 : Int) (pf4 : Msg → Msg → Option Int) (R123 : (List Msg) → Int → Int → Int → (Msg → Msg → Option Int) → Option (List Msg)) (hR : ∀ (p0 : List Msg) (p1 : Int) (p2 : Int) (p3 : Int) (pf4 : Msg → Msg → Option Int), KO tp 123 1 [.ref (0, 0) 0 0 p0.length, vI p1, vI p2, vI p3, .fn (.yield 4) [] []] [⟨0, true, 39, 5, Zaa Zap p0⟩] (ZkI pf4) (R123 p0 p1 p2 p3 pf4) Zdv (Zdw)) (hT : (ZkI pf4) C.no C.l C.H0 C.θ)
section
include co hR hT
theorem ZtD : Kl 220 C (pa [0, 0, 0, 1, 1, 0, 1, 0] (Zai Try.f123)) [] 1 (Zhk p0 p1) (ZlC p0 p1) Zdv (Zdw) (ZdE p0 p1 pf4) := fun (v1, v2) _ m Q Post hQ L => en co (Zfi p0 p1 pf4 v1 v2) (lf2 [0, 1, 4, 10, 11] [((0, 0), true)]) (lf2 [0, 1, 10] [((0, 0), true)]) hQ m L fun r g => ⟨fun e3 e4 => ⟨⟨fun y hy => hT _ _ y hy, by intro r; kernel_rfl, by intro r y; kernel_rfl⟩, fun y5 => ⟨id, id⟩⟩, id⟩
theorem ZrZ (v6 : Int) : Kl 220 C (pa [0, 0, 1, 0, 1, 1, 1, 0, 1, 0] (Zai Try.f123)) [] 1 (ZjH p0 v6) (ZmB) Zdv (Zdw) (ZeC p0 v6) := fun (v7, r8) _ m Q Post hQ L => en co (Zgj p0 v6 v7 r8) (lf2 [0, 10, 13] [((0, 0), true)]) (lf2 [] [((0, 0), true)]) hQ m L fun r g => ⟨fun e9 e10 => id, id⟩
theorem Zuk : Kl 220 C (pa [0, 0, 0, 1, 1, 0, 1, 0, 1] (Zai Try.f123)) [] 1 (ZhP p0 p2) (ZlM p0 p2) Zdv (Zdw) (ZdF p0 p2 pf4) := fun (v12, v13) _ m Q Post hQ L => en co (Zff p0 p2 pf4 v12 v13) (lf2 [0, 2, 4, 14, 15] [((0, 0), true)]) (lf2 [0, 2, 14] [((0, 0), true)]) hQ m L fun r g => ⟨fun e14 e15 => ⟨⟨fun y hy => hT _ _ y hy, by intro r; kernel_rfl, by intro r y; kernel_rfl⟩, fun y16 => ⟨id, id⟩⟩, id⟩
theorem ZuX (v17 : Int) : Kl 220 C (pa [0, 0, 1, 0, 1, 1, 1, 0, 1, 0, 1] (Zai Try.f123)) [] 1 (Zjm p0 v17) (ZlS) Zdv (Zdw) (ZdB p0 v17) := fun (v18, r19) _ m Q Post hQ L => en co (Zfb p0 v17 v18 r19) (lf2 [0, 14, 17] [((0, 0), true)]) (lf2 [] [((0, 0), true)]) hQ m L fun r g => ⟨fun e20 e21 => id, id⟩
theorem Zti (p3 : Int) : Kl 220 C (pa [0, 0, 0, 1, 1, 1, 1, 1, 1, 1] (Zai Try.f123)) [] 1 (Zi8 p0 p1 p2 p3) (Zmp p0 p1 p2 p3) Zdv (Zdw) (Zcf p0 p1 p2 p3 pf4) := fun (v25, v26) _ m Q Post hQ L => en co (ZcH p0 p1 p2 p3 pf4 v25 v26) (lf2 [0, 1, 2, 3, 4, 18, 19, 20, 21, 22] [((0, 0), true)]) (lf2 [0, 1, 2, 3, 4, 18, 19, 20] [((0, 0), true)]) hQ m L fun r g => ⟨fun e27 e28 => ⟨⟨fun y hy => hT _ _ y hy, by intro r; kernel_rfl, by intro r y; kernel_rfl⟩, fun y29 => ⟨id, id⟩⟩, id⟩
end
end
theorem ZDt (R123 : (List Msg) → Int → Int → Int → (Msg → Msg → Option Int) → Option (List Msg)) (hR : ∀ (p0 : List Msg) (p1 : Int) (p2 : Int) (p3 : Int) (pf4 : Msg → Msg → Option Int), KO tp 123 1 [.ref (0, 0) 0 0 p0.length, vI p1, vI p2, vI p3, .fn (.yield 4) [] []] [⟨0, true, 39, 5, Zaa Zap p0⟩] (ZkI pf4) (R123 p0 p1 p2 p3 pf4) Zdv (Zdw)) (p0 : List Msg) (p1 : Int) (p2 : Int) (p3 : Int) (pf4 : Msg → Msg → Option Int) : KO tp 123 1 [.ref (0, 0) 0 0 p0.length, vI p1, vI p2, vI p3, .fn (.yield 4) [] []] [⟨0, true, 39, 5, Zaa Zap p0⟩] (ZkI pf4) (Zs8 R123 p0 p1 p2 p3 pf4) Zdv (Zdw) := ko1 Try.func123 Try.ntmps123 tok [] 1 (fun C co hT y m Post L => sq (mi co 1 (ZcZ p0 p1 p2 p3 pf4 R123) (lf2 [0, 1, 2, 3, 4, 28] [((0, 0), true)]) nl ii m L fun r g _ m L => cd (decide ((p2 - p1) = (1 : Int))) m (fun m => mi co 2 (Zhx p0 p1 p2 p3 pf4) (lf2 [0, 1, 4, 10, 11] [((0, 0), true)]) nl ii m L fun r g _ m L => sq (bk 0 (lo (lpF (ZtD co p0 p1 pf4 R123 hR hT) ii m L (fun v6 m => sq (mi co 1 (ZhI p0 p1 v6) (lf2 [0, 10, 13] [((0, 0), true)]) nl ii m L fun r g _ m L => bk 2 (lo (lpF (ZrZ co p0 pf4 R123 hR hT v6) ii m L (fun r11 m => en co (Zhp r11) nl nl ii m L fun r g => id))))))))) (fun m => en co (ZdQ p0 p1 p2 p3 pf4 R123) (lf2 [0, 1, 2, 3, 4] [((0, 0), true)]) nl ii m L fun r g _ m L => sq (mi co 1 (ZdI p0 p1 p2 p3 pf4 R123) (lf2 [0, 1, 2, 3, 4, 80] [((0, 0), true)]) nl ii m L fun r g _ m L => cd (decide ((p3 - p2) = (1 : Int))) m (fun m => mi co 2 (ZeQ p0 p1 p2 pf4) (lf2 [0, 2, 4, 14, 15] [((0, 0), true)]) nl ii m L fun r g _ m L => sq (bk 4 (lo (lpF (Zuk co p0 p2 pf4 R123 hR hT) ii m L (fun v17 m => sq (mi co 1 (Zhw p0 p2 v17) (lf2 [0, 14, 17] [((0, 0), true)]) nl ii m L fun r g _ m L => bk 6 (lo (lpF (ZuX co p0 pf4 R123 hR hT v17) ii m L (fun r22 m => en co (ZhQ r22) nl nl ii m L fun r g => id))))))))) (fun m => en co (Zen p0 p1 p2 p3 pf4 R123) (lf2 [0, 1, 2, 3, 4] [((0, 0), true)]) nl ii m L fun r g _ m L => Zz3 co tok tmo 5 (Zed p0 p1 p2 p3 pf4 R123) (lf2 [0, 1, 2, 3, 4, 18, 19, 20, 21, 22] [((0, 0), true)]) nl ii m L (ZeF p0 p1 p2 p3) (Zcs p0 p1 p2 p3 pf4 R123) (fun (v23, v24) _ m L => sq (bk 8 (lo (lpF (Zti co p0 p1 p2 pf4 R123 hR hT p3) ii m L (fun v30 m => mi co 1 (Ze4 p0 p1 p2 p3 pf4 R123 v30) (lf2 [0, 1, 2, 3, 4, 18, 20, 24] [((0, 0), true)]) nl ii m L fun r g _ m L => sq (mi co 1 (Zgh p0 p1 p2 p3 pf4 R123 v30) (lf2 [0, 1, 2, 3, 4, 18, 20, 24, 185] [((0, 0), true)]) nl ii m L fun r g _ m L => cd (decide (v30 < p2) && decide (p2 < (((IntKind.i64.wrap (Zax .u64 (IntKind.u64.wrap (p1 + p3)) 1)) + p2) - v30))) m (fun m => rg (Zb8 co tok 5 (Zgr p0 p1 p2 p3 pf4 R123 v30) (lf2 [0, 1, 3, 4, 18, 20, 24, 186, 187, 188, 189, 190] [((0, 0), true)]) m L fun r g _ m L => ZaS co m 137 [.ref (0, 0) 0 0 p0.length, vI v30, vI p2, vI (((IntKind.i64.wrap (Zax .u64 (IntKind.u64.wrap (p1 + p3)) 1)) + p2) - v30), .fn (.yield 4) [] []] [(0, 0)] ([((0, 0), ⟨0, true, 39, 5, Zaa Zap p0⟩)] ++ []) (fun z => .tup []) (fun z => [((0, 0), ⟨0, true, 39, 5, Zaa Zap z⟩)]) [] (fun z => ⟨co.W 0 (by decide), trivial⟩) (trivial) (fun z hz r g => Zae (ZFb p0 v30 p2 (((IntKind.i64.wrap (Zax .u64 (IntKind.u64.wrap (p1 + p3)) 1)) + p2) - v30)) hz co g [((0, 0), ⟨0, true, 39, 5, Zaa Zap p0⟩)] [] [((0, 0), ⟨0, true, 39, 5, Zaa Zap z⟩)] (lkS [(4, r.θ 4)]) (fun H' hg ho => trivial) (fun H => ⟨fun _ => ⟨rfl, bz⟩, by kernel_rfl, trivial⟩) (fun H => ⟨fun _ => ⟨rfl, bz⟩, by kernel_rfl, trivial⟩)) fun y31 m => Zb4 co tok (Zg0 p0 p1 p2 p3 pf4 R123 v30 y31) (lf2 [0, 1, 3, 4, 18, 20, 24] [((0, 0), true)]) m L fun r g _ m L => sq (mi co 1 (Zf8 p0 p1 p2 p3 pf4 R123 v30 y31) (lf2 [0, 1, 3, 4, 18, 20, 24, 199] [((0, 0), true)]) nl ii m L fun r g _ m L => cd (decide (p1 < v30) && decide (v30 < (IntKind.i64.wrap (Zax .u64 (IntKind.u64.wrap (p1 + p3)) 1)))) m (fun m => rg (Zb8 co tok 5 (ZgO p0 p1 p2 p3 pf4 R123 v30 y31) (lf2 [0, 3, 4, 18, 24, 200, 201, 202, 203, 204] [((0, 0), true)]) m L fun r g _ m L => Zd4 m fun heq m => ZaS co m 123 [.ref (0, 0) 0 0 p0.length, vI p1, vI v30, vI (IntKind.i64.wrap (Zax .u64 (IntKind.u64.wrap (p1 + p3)) 1)), .fn (.yield 4) [] []] [(0, 0)] ([((0, 0), ⟨0, true, 39, 5, Zaa Zap y31⟩)] ++ []) (fun z => .tup []) (fun z => [((0, 0), ⟨0, true, 39, 5, Zaa Zap z⟩)]) [] (fun z => ⟨co.W 0 (by decide), trivial⟩) (trivial) (fun z hz r g => Zae (hR y31 p1 v30 (IntKind.i64.wrap (Zax .u64 (IntKind.u64.wrap (p1 + p3)) 1)) pf4) hz co g [((0, 0), ⟨0, true, 39, 5, Zaa Zap y31⟩)] [] [((0, 0), ⟨0, true, 39, 5, Zaa Zap z⟩)] (lkS [(4, r.θ 4)]) (fun H' hg ho => (fun z0 z1 y hz => Za4 co g [((0, 0), ⟨0, true, 39, 5, Zaa Zap y31⟩)] ho (hT z0 z1 y hz))) (fun H => ⟨fun _ => ⟨rfl, bz⟩, by kernel_rfl, trivial⟩) (fun H => ⟨fun _ => ⟨rfl, bz⟩, by kernel_rfl, trivial⟩) (hx := by intro H; rw [heq]; kernel_rfl)) fun y32 m => Zb4 co tok (ZgK p0 p1 p2 p3 pf4 R123 v30 y32) (lf2 [0, 3, 4, 18, 24] [((0, 0), true)]) m L fun r g _ m L => mi co 1 (ZgN p0 p1 p2 p3 pf4 R123 v30 y32) (lf2 [0, 3, 4, 18, 24, 213] [((0, 0), true)]) nl ii m L fun r g _ m L => cd (decide ((IntKind.i64.wrap (Zax .u64 (IntKind.u64.wrap (p1 + p3)) 1)) < (((IntKind.i64.wrap (Zax .u64 (IntKind.u64.wrap (p1 + p3)) 1)) + p2) - v30)) && decide ((((IntKind.i64.wrap (Zax .u64 (IntKind.u64.wrap (p1 + p3)) 1)) + p2) - v30) < p3)) m (fun m => rg (Zb8 co tok 5 (Zf1 p0 p1 p2 p3 pf4 R123 v30 y32) (lf2 [214, 215, 216, 217, 218] [((0, 0), true)]) m L fun r g _ m L => Zd4 m fun heq m => ZaS co m 123 [.ref (0, 0) 0 0 p0.length, vI (IntKind.i64.wrap (Zax .u64 (IntKind.u64.wrap (p1 + p3)) 1)), vI (((IntKind.i64.wrap (Zax .u64 (IntKind.u64.wrap (p1 + p3)) 1)) + p2) - v30), vI p3, .fn (.yield 4) [] []] [(0, 0)] ([((0, 0), ⟨0, true, 39, 5, Zaa Zap y32⟩)] ++ []) (fun z => .tup []) (fun z => [((0, 0), ⟨0, true, 39, 5, Zaa Zap z⟩)]) [] (fun z => ⟨co.W 0 (by decide), trivial⟩) (trivial) (fun z hz r g => Zae (hR y32 (IntKind.i64.wrap (Zax .u64 (IntKind.u64.wrap (p1 + p3)) 1)) (((IntKind.i64.wrap (Zax .u64 (IntKind.u64.wrap (p1 + p3)) 1)) + p2) - v30) p3 pf4) hz co g [((0, 0), ⟨0, true, 39, 5, Zaa Zap y32⟩)] [] [((0, 0), ⟨0, true, 39, 5, Zaa Zap z⟩)] (lkS [(4, r.θ 4)]) (fun H' hg ho => (fun z0 z1 y hz => Za4 co g [((0, 0), ⟨0, true, 39, 5, Zaa Zap y32⟩)] ho (hT z0 z1 y hz))) (fun H => ⟨fun _ => ⟨rfl, bz⟩, by kernel_rfl, trivial⟩) (fun H => ⟨fun _ => ⟨rfl, bz⟩, by kernel_rfl, trivial⟩) (hx := by intro H; rw [heq]; kernel_rfl)) fun y33 m => Zb4 co tok (ZgS y33) (lf2 [] [((0, 0), true)]) m L fun r g _ m L => ZeU (ZfY y33) co m L (fun r g => id) r g)) (fun m => fo co (ZgZ y32) m L fun r g => id))) (fun m => en co (ZgF p0 p1 p2 p3 pf4 R123 v30 y31) (lf2 [0, 3, 4, 18, 24] [((0, 0), true)]) nl ii m L fun r g _ m L => mi co 1 (Zgm p0 p1 p2 p3 pf4 R123 v30 y31) (lf2 [0, 3, 4, 18, 24, 213] [((0, 0), true)]) nl ii m L fun r g _ m L => cd (decide ((IntKind.i64.wrap (Zax .u64 (IntKind.u64.wrap (p1 + p3)) 1)) < (((IntKind.i64.wrap (Zax .u64 (IntKind.u64.wrap (p1 + p3)) 1)) + p2) - v30)) && decide ((((IntKind.i64.wrap (Zax .u64 (IntKind.u64.wrap (p1 + p3)) 1)) + p2) - v30) < p3)) m (fun m => rg (Zb8 co tok 5 (ZgD p0 p1 p2 p3 pf4 R123 v30 y31) (lf2 [214, 215, 216, 217, 218] [((0, 0), true)]) m L fun r g _ m L => Zd4 m fun heq m => ZaS co m 123 [.ref (0, 0) 0 0 p0.length, vI (IntKind.i64.wrap (Zax .u64 (IntKind.u64.wrap (p1 + p3)) 1)), vI (((IntKind.i64.wrap (Zax .u64 (IntKind.u64.wrap (p1 + p3)) 1)) + p2) - v30), vI p3, .fn (.yield 4) [] []] [(0, 0)] ([((0, 0), ⟨0, true, 39, 5, Zaa Zap y31⟩)] ++ []) (fun z => .tup []) (fun z => [((0, 0), ⟨0, true, 39, 5, Zaa Zap z⟩)]) [] (fun z => ⟨co.W 0 (by decide), trivial⟩) (trivial) (fun z hz r g => Zae (hR y31 (IntKind.i64.wrap (Zax .u64 (IntKind.u64.wrap (p1 + p3)) 1)) (((IntKind.i64.wrap (Zax .u64 (IntKind.u64.wrap (p1 + p3)) 1)) + p2) - v30) p3 pf4) hz co g [((0, 0), ⟨0, true, 39, 5, Zaa Zap y31⟩)] [] [((0, 0), ⟨0, true, 39, 5, Zaa Zap z⟩)] (lkS [(4, r.θ 4)]) (fun H' hg ho => (fun z0 z1 y hz => Za4 co g [((0, 0), ⟨0, true, 39, 5, Zaa Zap y31⟩)] ho (hT z0 z1 y hz))) (fun H => ⟨fun _ => ⟨rfl, bz⟩, by kernel_rfl, trivial⟩) (fun H => ⟨fun _ => ⟨rfl, bz⟩, by kernel_rfl, trivial⟩) (hx := by intro H; rw [heq]; kernel_rfl)) fun y34 m => Zb4 co tok (Zgc y34) (lf2 [] [((0, 0), true)]) m L fun r g _ m L => ZeU (Zgv y34) co m L (fun r g => id) r g)) (fun m => fo co (ZgL y31) m L fun r g => id))))) (fun m => en co (ZfW p0 p1 p2 p3 pf4 R123 v30) (lf2 [0, 1, 3, 4, 18, 20, 24] [((0, 0), true)]) nl ii m L fun r g _ m L => sq (mi co 1 (Zge p0 p1 p2 p3 pf4 R123 v30) (lf2 [0, 1, 3, 4, 18, 20, 24, 199] [((0, 0), true)]) nl ii m L fun r g _ m L => cd (decide (p1 < v30) && decide (v30 < (IntKind.i64.wrap (Zax .u64 (IntKind.u64.wrap (p1 + p3)) 1)))) m (fun m => rg (Zb8 co tok 5 (Zgb p0 p1 p2 p3 pf4 R123 v30) (lf2 [0, 3, 4, 18, 24, 200, 201, 202, 203, 204] [((0, 0), true)]) m L fun r g _ m L => ZaS co m 123 [.ref (0, 0) 0 0 p0.length, vI p1, vI v30, vI (IntKind.i64.wrap (Zax .u64 (IntKind.u64.wrap (p1 + p3)) 1)), .fn (.yield 4) [] []] [(0, 0)] ([((0, 0), ⟨0, true, 39, 5, Zaa Zap p0⟩)] ++ []) (fun z => .tup []) (fun z => [((0, 0), ⟨0, true, 39, 5, Zaa Zap z⟩)]) [] (fun z => ⟨co.W 0 (by decide), trivial⟩) (trivial) (fun z hz r g => Zae (hR p0 p1 v30 (IntKind.i64.wrap (Zax .u64 (IntKind.u64.wrap (p1 + p3)) 1)) pf4) hz co g [((0, 0), ⟨0, true, 39, 5, Zaa Zap p0⟩)] [] [((0, 0), ⟨0, true, 39, 5, Zaa Zap z⟩)] (lkS [(4, r.θ 4)]) (fun H' hg ho => (fun z0 z1 y hz => Za4 co g [((0, 0), ⟨0, true, 39, 5, Zaa Zap p0⟩)] ho (hT z0 z1 y hz))) (fun H => ⟨fun _ => ⟨rfl, bz⟩, by kernel_rfl, trivial⟩) (fun H => ⟨fun _ => ⟨rfl, bz⟩, by kernel_rfl, trivial⟩)) fun y35 m => Zb4 co tok (ZgJ p0 p1 p2 p3 pf4 R123 v30 y35) (lf2 [0, 3, 4, 18, 24] [((0, 0), true)]) m L fun r g _ m L => mi co 1 (Zg3 p0 p1 p2 p3 pf4 R123 v30 y35) (lf2 [0, 3, 4, 18, 24, 213] [((0, 0), true)]) nl ii m L fun r g _ m L => cd (decide ((IntKind.i64.wrap (Zax .u64 (IntKind.u64.wrap (p1 + p3)) 1)) < (((IntKind.i64.wrap (Zax .u64 (IntKind.u64.wrap (p1 + p3)) 1)) + p2) - v30)) && decide ((((IntKind.i64.wrap (Zax .u64 (IntKind.u64.wrap (p1 + p3)) 1)) + p2) - v30) < p3)) m (fun m => rg (Zb8 co tok 5 (ZgC p0 p1 p2 p3 pf4 R123 v30 y35) (lf2 [214, 215, 216, 217, 218] [((0, 0), true)]) m L fun r g _ m L => Zd4 m fun heq m => ZaS co m 123 [.ref (0, 0) 0 0 p0.length, vI (IntKind.i64.wrap (Zax .u64 (IntKind.u64.wrap (p1 + p3)) 1)), vI (((IntKind.i64.wrap (Zax .u64 (IntKind.u64.wrap (p1 + p3)) 1)) + p2) - v30), vI p3, .fn (.yield 4) [] []] [(0, 0)] ([((0, 0), ⟨0, true, 39, 5, Zaa Zap y35⟩)] ++ []) (fun z => .tup []) (fun z => [((0, 0), ⟨0, true, 39, 5, Zaa Zap z⟩)]) [] (fun z => ⟨co.W 0 (by decide), trivial⟩) (trivial) (fun z hz r g => Zae (hR y35 (IntKind.i64.wrap (Zax .u64 (IntKind.u64.wrap (p1 + p3)) 1)) (((IntKind.i64.wrap (Zax .u64 (IntKind.u64.wrap (p1 + p3)) 1)) + p2) - v30) p3 pf4) hz co g [((0, 0), ⟨0, true, 39, 5, Zaa Zap y35⟩)] [] [((0, 0), ⟨0, true, 39, 5, Zaa Zap z⟩)] (lkS [(4, r.θ 4)]) (fun H' hg ho => (fun z0 z1 y hz => Za4 co g [((0, 0), ⟨0, true, 39, 5, Zaa Zap y35⟩)] ho (hT z0 z1 y hz))) (fun H => ⟨fun _ => ⟨rfl, bz⟩, by kernel_rfl, trivial⟩) (fun H => ⟨fun _ => ⟨rfl, bz⟩, by kernel_rfl, trivial⟩) (hx := by intro H; rw [heq]; kernel_rfl)) fun y36 m => Zb4 co tok (ZgA y36) (lf2 [] [((0, 0), true)]) m L fun r g _ m L => ZeU (Zgq y36) co m L (fun r g => id) r g)) (fun m => fo co (Zf7 y35) m L fun r g => id))) (fun m => en co (ZgR p0 p1 p2 p3 pf4 R123 v30) (lf2 [0, 3, 4, 18, 24] [((0, 0), true)]) nl ii m L fun r g _ m L => mi co 1 (ZgT p0 p1 p2 p3 pf4 R123 v30) (lf2 [0, 3, 4, 18, 24, 213] [((0, 0), true)]) nl ii m L fun r g _ m L => cd (decide ((IntKind.i64.wrap (Zax .u64 (IntKind.u64.wrap (p1 + p3)) 1)) < (((IntKind.i64.wrap (Zax .u64 (IntKind.u64.wrap (p1 + p3)) 1)) + p2) - v30)) && decide ((((IntKind.i64.wrap (Zax .u64 (IntKind.u64.wrap (p1 + p3)) 1)) + p2) - v30) < p3)) m (fun m => rg (Zb8 co tok 5 (Zf6 p0 p1 p2 p3 pf4 R123 v30) (lf2 [214, 215, 216, 217, 218] [((0, 0), true)]) m L fun r g _ m L => ZaS co m 123 [.ref (0, 0) 0 0 p0.length, vI (IntKind.i64.wrap (Zax .u64 (IntKind.u64.wrap (p1 + p3)) 1)), vI (((IntKind.i64.wrap (Zax .u64 (IntKind.u64.wrap (p1 + p3)) 1)) + p2) - v30), vI p3, .fn (.yield 4) [] []] [(0, 0)] ([((0, 0), ⟨0, true, 39, 5, Zaa Zap p0⟩)] ++ []) (fun z => .tup []) (fun z => [((0, 0), ⟨0, true, 39, 5, Zaa Zap z⟩)]) [] (fun z => ⟨co.W 0 (by decide), trivial⟩) (trivial) (fun z hz r g => Zae (hR p0 (IntKind.i64.wrap (Zax .u64 (IntKind.u64.wrap (p1 + p3)) 1)) (((IntKind.i64.wrap (Zax .u64 (IntKind.u64.wrap (p1 + p3)) 1)) + p2) - v30) p3 pf4) hz co g [((0, 0), ⟨0, true, 39, 5, Zaa Zap p0⟩)] [] [((0, 0), ⟨0, true, 39, 5, Zaa Zap z⟩)] (lkS [(4, r.θ 4)]) (fun H' hg ho => (fun z0 z1 y hz => Za4 co g [((0, 0), ⟨0, true, 39, 5, Zaa Zap p0⟩)] ho (hT z0 z1 y hz))) (fun H => ⟨fun _ => ⟨rfl, bz⟩, by kernel_rfl, trivial⟩) (fun H => ⟨fun _ => ⟨rfl, bz⟩, by kernel_rfl, trivial⟩)) fun y37 m => Zb4 co tok (Zgw y37) (lf2 [] [((0, 0), true)]) m L fun r g _ m L => ZeU (ZgH y37) co m L (fun r g => id) r g)) (fun m => fo co (Zf9 p0) m L fun r g => id)))))))))) fun J45 r g => ⟨J45 ((((IntKind.i64.wrap (Zax .u64 (IntKind.u64.wrap (p1 + p3)) 1)) + p2) - p3), (IntKind.i64.wrap (Zax .u64 (IntKind.u64.wrap (p1 + p3)) 1))), J45 (p1, p2)⟩))))) (hB := fun y => ⟨.inl (Zaj _ _), rfl, trivial⟩)
section
variable {α : Type} [Rw α] [Tid α]
def Zan : Nat → (List α) → Int → Int → Int → (α → α → Option Int) → Option (List α)
 | 0 => fun _ _ _ _ _ => none
 | fu + 1 => Zs8 (Zan fu)
end
theorem ZyW : ∀ (fu : Nat) (p0 : List Msg) (p1 : Int) (p2 : Int) (p3 : Int) (pf4 : Msg → Msg → Option Int), KO tp 123 1 [.ref (0, 0) 0 0 p0.length, vI p1, vI p2, vI p3, .fn (.yield 4) [] []] [⟨0, true, 39, 5, Zaa Zap p0⟩] (ZkI pf4) (Zan fu p0 p1 p2 p3 pf4) Zdv (Zdw)
 | 0, p0, p1, p2, p3, pf4 => ⟨fun _ _ _ _ _ _ _ _ _ _ _ h => by cases h⟩
 | fu + 1, p0, p1, p2, p3, pf4 => ZDt (Zan fu) (ZyW fu) p0 p1 p2 p3 pf4
section
variable {α : Type} [Rw α] [Tid α]
abbrev E95 : List α → AV := fun y => .tup []
@[reducible] def G95 : List α → List Blk := fun y => [⟨0, true, Tid.t α, Rw.s α, Zaa Rw.f y⟩]
def H95 (pf2 : α → α → Option Int) : Cl := fun no l H θ => (∀ (z0 : α) (z1 : α) y, pf2 z0 z1 = some y → ZiH tp l no H (θ 2) [.agg ((Rw.f z0).map .d), .agg ((Rw.f z1).map .d)] (vI y))
section
variable (p0 : List α) (p1 : Int) (pf2 : α → α → Option Int) (v2 : Nat) (y4 : List α) (v1 : Nat) (r3 : List α) (v8 v11 : Nat) (y13 : List α) (v10 : Nat) (r12 y16 : List α) (v14 : Nat) (r15 r9 : List α)
abbrev Zj4 (α : Type) := PT 1 (Lv (Nat × Nat × List α) (Nat × List α) (List α))
abbrev Zka (α : Type) := PT 1 (Lv (Nat × List α) (List α) (List α))
abbrev Zun : List (Nat × AV) := [(0, .ref (0, 0) 0 0 p0.length), (1, vI p1), (2, .fn (.yield 2) [] []), (6, vN v8)]
abbrev Zz6 : List (Key × Blk) := [((0, 0), ⟨0, true, Tid.t α, Rw.s α, Zaa Rw.f r3⟩)]
abbrev Zwu : List (Key × Blk) := [((0, 0), ⟨0, true, Tid.t α, Rw.s α, Zaa Rw.f r12⟩)]
abbrev Zw3 : List (Key × Blk) := [((0, 0), ⟨0, true, Tid.t α, Rw.s α, Zaa Rw.f r15⟩)]
abbrev ZDR : List (Nat × AV) := [(0, .ref (0, 0) 0 0 p0.length), (1, vI p1), (2, .fn (.yield 2) [] []), (6, vI 20), (7, vN v1), (8, vN v2)]
abbrev ZCO : List (Nat × AV) := [(0, .ref (0, 0) 0 0 p0.length), (1, vI p1), (2, .fn (.yield 2) [] []), (6, vN v8), (7, vN v10), (8, vN v11)]
abbrev Zip (t : List (Nat × AV)) : List (Nat × AV) := (0, .ref (0, 0) 0 0 p0.length) :: (1, vI p1) :: (2, .fn (.yield 2) [] []) :: t
def Zrj : Nat × Nat × List α → St := fun (v1, v2, r3) => mkS (ZDR p0 p1 v2 v1) (Zz6 r3)
def ZrX : Nat × List α → Nat × St := fun (v5, r6) => (0, mkS (Zip p0 p1 [(6, vI 20), (7, vN v5)]) [((0, 0), ⟨0, true, Tid.t α, Rw.s α, Zaa Rw.f r6⟩)])
def Znx : Zj4 α := vs (wa v2 20) <| vz (fl y4) <| ln (Zrj p0 p1) (v2, v2 + 20, y4)
def ZnO : Zj4 α := vz (fl y4) <| lc (mkS (Zip p0 p1 [(6, vI 20), (8, vN v2)]) [((0, 0), ⟨0, true, Tid.t α, Rw.s α, Zaa Rw.f y4⟩)]) ((Znx p0 p1 v2 y4).m)
def Zn2 : Zj4 α := vz (fl r3) <| lc (mkS (Zip p0 p1 [(6, vI 20), (8, vN v2), (14, .ref (0, 0) 0 0 p0.length), (15, vN v1), (16, vN v2), (17, .fn (.yield 2) [] [])]) (Zz6 r3)) (if p0.length = r3.length then (Zaw r3 (v1 : Int) (v2 : Int) pf2).bind fun y4 => (ZnO p0 p1 v2 y4).m else none)
def Zog : Zj4 α := br (decide ((v2 : Int) ≤ p1)) (vz (fl r3) <| lc (mkS (ZDR p0 p1 v2 v1) (Zz6 r3)) ((Zn2 p0 p1 pf2 v2 v1 r3).m)) (vz (fl r3) <| lxe (ZrX p0 p1) (v1, r3))
def Zij := fun ((v1, v2, r3) : Nat × Nat × List α) => (Zog p0 p1 pf2 v2 v1 r3).m
def Zof : Nat × List α → St := fun (v8, r9) => mkS (Zun p0 p1 v8) [((0, 0), ⟨0, true, Tid.t α, Rw.s α, Zaa Rw.f r9⟩)]
def Zsm : List α → Nat × St := fun r17 => (2, mkS [] [((0, 0), ⟨0, true, Tid.t α, Rw.s α, Zaa Rw.f r17⟩)])
def ZqV : Nat × Nat × List α → St := fun (v10, v11, r12) => mkS (ZCO p0 p1 v8 v11 v10) (Zwu r12)
def Zuc : Nat × List α → Nat × St := fun (v14, r15) => (4, mkS (Zip p0 p1 [(6, vN v8), (7, vN v14)]) (Zw3 r15))
def Zm5 : Zj4 α := vs (wm 2 v8) <| vs (wa v11 (2 * v8)) <| vz (fl y13) <| ln (ZqV p0 p1 v8) (v11, v11 + (2 * v8), y13)
def Znp : Zj4 α := vz (fl y13) <| lc (mkS (Zip p0 p1 [(6, vN v8), (8, vN v11)]) [((0, 0), ⟨0, true, Tid.t α, Rw.s α, Zaa Rw.f y13⟩)]) ((Zm5 p0 p1 v8 v11 y13).m)
def ZnD : Zj4 α := vs (wa v10 v8) <| vz (fl r12) <| lc (mkS (Zip p0 p1 [(6, vN v8), (8, vN v11), (36, .ref (0, 0) 0 0 p0.length), (37, vN v10), (40, vN (v10 + v8)), (41, vN v11), (42, .fn (.yield 2) [] [])]) (Zwu r12)) (if p0.length = r12.length then (Zan ((v11 : Int) - (v10 : Int) + 1).toNat r12 (v10 : Int) ((v10 + v8 : Nat) : Int) (v11 : Int) pf2).bind fun y13 => (Znp p0 p1 v8 v11 y13).m else none)
def ZnX : Zj4 α := br (decide ((v11 : Int) ≤ p1)) (vz (fl r12) <| lc (mkS (ZCO p0 p1 v8 v11 v10) (Zwu r12)) ((ZnD p0 p1 pf2 v8 v11 v10 r12).m)) (vz (fl r12) <| lxe (Zuc p0 p1 v8) (v10, r12))
def Zh7 := fun ((v10, v11, r12) : Nat × Nat × List α) => (ZnX p0 p1 pf2 v8 v11 v10 r12).m
def Zli : Zka α := vs (wm v8 2) <| vz (fl y16) <| ln (Zof p0 p1) (v8 * 2, y16)
def Zg5 : Zka α := vz (fl y16) <| lc (mkS (Zun p0 p1 v8) [((0, 0), ⟨0, true, Tid.t α, Rw.s α, Zaa Rw.f y16⟩)]) ((Zli p0 p1 v8 y16).m)
def ZgP : Zka α := vz (fl r15) <| lc (mkS (Zip p0 p1 [(6, vN v8), (55, .ref (0, 0) 0 0 p0.length), (56, vN v14), (57, vN (v14 + v8)), (58, vI p1), (59, .fn (.yield 2) [] [])]) (Zw3 r15)) (if p0.length = r15.length then (Zan (p1 - (v14 : Int) + 1).toNat r15 (v14 : Int) ((v14 + v8 : Nat) : Int) p1 pf2).bind fun y16 => (Zg5 p0 p1 v8 y16).m else none)
def ZfK : Zka α := vs (wm v8 2) <| vz (fl r15) <| ln (Zof p0 p1) (v8 * 2, r15)
def Zgl : Zka α := vz (fl r15) <| lc (mkS (Zun p0 p1 v8) [((0, 0), ⟨0, true, Tid.t α, Rw.s α, Zaa Rw.f r15⟩)]) ((ZfK p0 p1 v8 r15).m)
def ZfZ : Zka α := vs (wa v14 v8) <| vz (fl r15) <| lc (mkS (Zip p0 p1 [(6, vN v8), (7, vN v14), (9, vN (v14 + v8)), (54, vB (decide (((v14 + v8 : Nat) : Int) < p1)))]) (Zw3 r15)) (if decide (((v14 + v8 : Nat) : Int) < p1) = true then (ZgP p0 p1 pf2 v8 v14 r15).m else (Zgl p0 p1 v8 r15).m)
def Zg2 : Zka α := vs (wm 2 v8) <| vz (fl r9) <| lc (ZqV p0 p1 v8 (0, 2 * v8, r9)) ((Zad (Zh7 p0 p1 pf2 v8) big (0, 2 * v8, r9)).bind (Sum.elim (fun (v14, r15) => (ZfZ p0 p1 pf2 v8 v14 r15).m) (fun z => some (.rt z))))
def Zgf : Zka α := br (decide ((v8 : Int) < p1)) (vz (fl r9) <| lc (mkS (Zun p0 p1 v8) [((0, 0), ⟨0, true, Tid.t α, Rw.s α, Zaa Rw.f r9⟩)]) ((Zg2 p0 p1 pf2 v8 r9).m)) (vz (fl r9) <| lxe (Zsm) r9)
def Zgp := fun ((v8, r9) : Nat × List α) => (Zgf p0 p1 pf2 v8 r9).m
def Zjr (r17 : List α) : PT 1 (List α) := lr E95 (G95) r17
def ZiL (y7 : List α) : PT 1 (List α) := vz (fl y7) <| lc (Zof p0 p1 (20, y7)) ((Zad (Zgp p0 p1 pf2) big (20, y7)).bind (Sum.elim (fun r17 => (Zjr r17).m) some))
def Zje (v5 : Nat) (r6 : List α) : PT 1 (List α) := vz (fl r6) <| lc (mkS (Zip p0 p1 [(6, vI 20), (23, .ref (0, 0) 0 0 p0.length), (24, vN v5), (25, vI p1), (26, .fn (.yield 2) [] [])]) [((0, 0), ⟨0, true, Tid.t α, Rw.s α, Zaa Rw.f r6⟩)]) (if p0.length = r6.length then (Zaw r6 (v5 : Int) p1 pf2).bind fun y7 => (ZiL p0 p1 pf2 y7).m else none)
def Zj0 : PT 1 (List α) := vz (fl p0) <| lc (Zrj p0 p1 (0, 20, p0)) ((Zad (Zij p0 p1 pf2) big (0, 20, p0)).bind (Sum.elim (fun (v5, r6) => (Zje p0 p1 pf2 v5 r6).m) some))
def ZbL (p0 : List α) (p1 : Int) (pf2 : α → α → Option Int) : Option (List α) := (Zj0 p0 p1 pf2).m
end
end
section
variable {C : Cx} (co : CO C 1) (p0 : List Msg) (p1 : Int) (pf2 : Msg → Msg → Option Int) (hT : (H95 pf2) C.no C.l C.H0 C.θ)
section
include co hT
theorem ZyZ : Kl 63 C (pa [0, 0, 0, 1, 1] (Zai Try.f95)) [] 1 (Zrj p0 p1) (ZrX p0 p1) E95 (G95) (Zij p0 p1 pf2) := fun (v1, v2, r3) _ m Q Post hQ L => mi co 1 (Zog p0 p1 pf2 v2 v1 r3) (lf2 [0, 1, 2, 6, 7, 8] [((0, 0), true)]) (lf2 [0, 1, 2, 6, 7] [((0, 0), true)]) hQ m L fun r g => ⟨fun _ m L => bk 1 (sq (rg (Zb8 co tok 4 (Zn2 p0 p1 pf2 v2 v1 r3) (lf2 [0, 1, 2, 6, 8, 14, 15, 16, 17] [((0, 0), true)]) m L fun r g _ m L => Zd4 m fun heq m => ZaS co m 122 [.ref (0, 0) 0 0 p0.length, vN v1, vN v2, .fn (.yield 2) [] []] [(0, 0)] ([((0, 0), ⟨0, true, 39, 5, Zaa Zap r3⟩)] ++ []) (fun z => .tup []) (fun z => [((0, 0), ⟨0, true, 39, 5, Zaa Zap z⟩)]) [] (fun z => ⟨co.W 0 (by decide), trivial⟩) (trivial) (fun z hz r g => Zae (ZBN r3 (v1 : Int) (v2 : Int) pf2) hz co g [((0, 0), ⟨0, true, 39, 5, Zaa Zap r3⟩)] [] [((0, 0), ⟨0, true, 39, 5, Zaa Zap z⟩)] (lkS [(3, r.θ 2)]) (fun H' hg ho => (fun z0 z1 y hz => Za4 co g [((0, 0), ⟨0, true, 39, 5, Zaa Zap r3⟩)] ho (hT z0 z1 y hz))) (fun H => ⟨fun _ => ⟨rfl, bz⟩, by kernel_rfl, trivial⟩) (fun H => ⟨fun _ => ⟨rfl, bz⟩, by kernel_rfl, trivial⟩) (hx := by intro H; rw [heq]; kernel_rfl)) fun y4 m => Zb4 co tok (ZnO p0 p1 v2 y4) (lf2 [0, 1, 2, 6, 8] [((0, 0), true)]) m L fun r g _ m L => en co (Znx p0 p1 v2 y4) (lf2 [0, 1, 2, 6, 7, 8] [((0, 0), true)]) nl hQ m L fun r g => id))), id⟩
theorem Zwe (v8 : Nat) : Kl 63 C (pa [0, 0, 0, 1, 0, 1, 0, 0, 1, 1, 1, 1] (Zai Try.f95)) [] 1 (ZqV p0 p1 v8) (Zuc p0 p1 v8) E95 (G95) (Zh7 p0 p1 pf2 v8) := fun (v10, v11, r12) _ m Q Post hQ L => mi co 1 (ZnX p0 p1 pf2 v8 v11 v10 r12) (lf2 [0, 1, 2, 6, 7, 8] [((0, 0), true)]) (lf2 [0, 1, 2, 6, 7] [((0, 0), true)]) hQ m L fun r g => ⟨fun _ m L => bk 5 (sq (rg (Zb8 co tok 7 (ZnD p0 p1 pf2 v8 v11 v10 r12) (lf2 [0, 1, 2, 6, 8, 36, 37, 40, 41, 42] [((0, 0), true)]) m L fun r g _ m L => Zd4 m fun heq m => ZaS co m 123 [.ref (0, 0) 0 0 p0.length, vN v10, vN (v10 + v8), vN v11, .fn (.yield 2) [] []] [(0, 0)] ([((0, 0), ⟨0, true, 39, 5, Zaa Zap r12⟩)] ++ []) (fun z => .tup []) (fun z => [((0, 0), ⟨0, true, 39, 5, Zaa Zap z⟩)]) [] (fun z => ⟨co.W 0 (by decide), trivial⟩) (trivial) (fun z hz r g => Zae (ZyW ((v11 : Int) - (v10 : Int) + 1).toNat r12 (v10 : Int) ((v10 + v8 : Nat) : Int) (v11 : Int) pf2) hz co g [((0, 0), ⟨0, true, 39, 5, Zaa Zap r12⟩)] [] [((0, 0), ⟨0, true, 39, 5, Zaa Zap z⟩)] (lkS [(4, r.θ 2)]) (fun H' hg ho => (fun z0 z1 y hz => Za4 co g [((0, 0), ⟨0, true, 39, 5, Zaa Zap r12⟩)] ho (hT z0 z1 y hz))) (fun H => ⟨fun _ => ⟨rfl, bz⟩, by kernel_rfl, trivial⟩) (fun H => ⟨fun _ => ⟨rfl, bz⟩, by kernel_rfl, trivial⟩) (hx := by intro H; rw [heq]; kernel_rfl)) fun y13 m => Zb4 co tok (Znp p0 p1 v8 v11 y13) (lf2 [0, 1, 2, 6, 8] [((0, 0), true)]) m L fun r g _ m L => en co (Zm5 p0 p1 v8 v11 y13) (lf2 [0, 1, 2, 6, 7, 8] [((0, 0), true)]) nl hQ m L fun r g => id))), id⟩
theorem Zy8 : Kl 63 C (pa [0, 0, 1, 1, 1, 1] (Zai Try.f95)) [] 1 (Zof p0 p1) (Zsm) E95 (G95) (Zgp p0 p1 pf2) := fun (v8, r9) _ m Q Post hQ L => mi co 1 (Zgf p0 p1 pf2 v8 r9) (lf2 [0, 1, 2, 6] [((0, 0), true)]) (lf2 [] [((0, 0), true)]) hQ m L fun r g => ⟨fun _ m L => bk 3 (mi co 1 (Zg2 p0 p1 pf2 v8 r9) (lf2 [0, 1, 2, 6, 7, 8] [((0, 0), true)]) nl hQ m L fun r g _ m L => sq (bk 4 (lo (lpL (Zwe co p0 p1 pf2 hT v8) hQ m L (fun (v14, r15) m => sq (mi co 2 (ZfZ p0 p1 pf2 v8 v14 r15) (lf2 [0, 1, 2, 6, 7, 9, 54] [((0, 0), true)]) nl hQ m L fun r g _ m L => cd (decide (((v14 + v8 : Nat) : Int) < p1)) m (fun m => rg (Zb8 co tok 5 (ZgP p0 p1 pf2 v8 v14 r15) (lf2 [0, 1, 2, 6, 55, 56, 57, 58, 59] [((0, 0), true)]) m L fun r g _ m L => Zd4 m fun heq m => ZaS co m 123 [.ref (0, 0) 0 0 p0.length, vN v14, vN (v14 + v8), vI p1, .fn (.yield 2) [] []] [(0, 0)] ([((0, 0), ⟨0, true, 39, 5, Zaa Zap r15⟩)] ++ []) (fun z => .tup []) (fun z => [((0, 0), ⟨0, true, 39, 5, Zaa Zap z⟩)]) [] (fun z => ⟨co.W 0 (by decide), trivial⟩) (trivial) (fun z hz r g => Zae (ZyW (p1 - (v14 : Int) + 1).toNat r15 (v14 : Int) ((v14 + v8 : Nat) : Int) p1 pf2) hz co g [((0, 0), ⟨0, true, 39, 5, Zaa Zap r15⟩)] [] [((0, 0), ⟨0, true, 39, 5, Zaa Zap z⟩)] (lkS [(4, r.θ 2)]) (fun H' hg ho => (fun z0 z1 y hz => Za4 co g [((0, 0), ⟨0, true, 39, 5, Zaa Zap r15⟩)] ho (hT z0 z1 y hz))) (fun H => ⟨fun _ => ⟨rfl, bz⟩, by kernel_rfl, trivial⟩) (fun H => ⟨fun _ => ⟨rfl, bz⟩, by kernel_rfl, trivial⟩) (hx := by intro H; rw [heq]; kernel_rfl)) fun y16 m => Zb4 co tok (Zg5 p0 p1 v8 y16) (lf2 [0, 1, 2, 6] [((0, 0), true)]) m L fun r g _ m L => en co (Zli p0 p1 v8 y16) (lf2 [0, 1, 2, 6] [((0, 0), true)]) nl hQ m L fun r g => id)) (fun m => en co (Zgl p0 p1 v8 r15) (lf2 [0, 1, 2, 6] [((0, 0), true)]) nl hQ m L fun r g _ m L => en co (ZfK p0 p1 v8 r15) (lf2 [0, 1, 2, 6] [((0, 0), true)]) nl hQ m L fun r g => id))))))), id⟩
end
end
theorem ZIE (p0 : List Msg) (p1 : Int) (pf2 : Msg → Msg → Option Int) : KO tp 95 1 [.ref (0, 0) 0 0 p0.length, vI p1, .fn (.yield 2) [] []] [⟨0, true, 39, 5, Zaa Zap p0⟩] (H95 pf2) (ZbL p0 p1 pf2) E95 (G95) := ko1 Try.func95 Try.ntmps95 tok [] 1 (fun C co hT y m Post L => mi co 2 (Zj0 p0 p1 pf2) (lf2 [0, 1, 2, 6, 7, 8] [((0, 0), true)]) nl ii m L fun r g _ m L => sq (bk 0 (lo (lpF (ZyZ co p0 p1 pf2 hT) ii m L (fun (v5, r6) m => sq (rg (Zb8 co tok 4 (Zje p0 p1 pf2 v5 r6) (lf2 [0, 1, 2, 6, 23, 24, 25, 26] [((0, 0), true)]) m L fun r g _ m L => Zd4 m fun heq m => ZaS co m 122 [.ref (0, 0) 0 0 p0.length, vN v5, vI p1, .fn (.yield 2) [] []] [(0, 0)] ([((0, 0), ⟨0, true, 39, 5, Zaa Zap r6⟩)] ++ []) (fun z => .tup []) (fun z => [((0, 0), ⟨0, true, 39, 5, Zaa Zap z⟩)]) [] (fun z => ⟨co.W 0 (by decide), trivial⟩) (trivial) (fun z hz r g => Zae (ZBN r6 (v5 : Int) p1 pf2) hz co g [((0, 0), ⟨0, true, 39, 5, Zaa Zap r6⟩)] [] [((0, 0), ⟨0, true, 39, 5, Zaa Zap z⟩)] (lkS [(3, r.θ 2)]) (fun H' hg ho => (fun z0 z1 y hz => Za4 co g [((0, 0), ⟨0, true, 39, 5, Zaa Zap r6⟩)] ho (hT z0 z1 y hz))) (fun H => ⟨fun _ => ⟨rfl, bz⟩, by kernel_rfl, trivial⟩) (fun H => ⟨fun _ => ⟨rfl, bz⟩, by kernel_rfl, trivial⟩) (hx := by intro H; rw [heq]; kernel_rfl)) fun y7 m => Zb4 co tok (ZiL p0 p1 pf2 y7) (lf2 [0, 1, 2, 6] [((0, 0), true)]) m L fun r g _ m L => bk 2 (lo (lpF (Zy8 co p0 p1 pf2 hT) ii m L (fun r17 m => ZeU (Zjr r17) co m L (fun r g => id) r g)))))))))) (hB := fun y => ⟨.inl (Zaj _ _), rfl, trivial⟩)
section
variable {α : Type} [Rw α] [Tid α]
abbrev E59 : List α → AV := fun y => .tup []
@[reducible] def G59 : List α → List Blk := fun y => [⟨0, true, Tid.t α, Rw.s α, Zaa Rw.f y⟩]
def H59 (pf1 : α → α → Option Int) : Cl := fun no l H θ => (∀ (z0 : α) (z1 : α) y, pf1 z0 z1 = some y → ZiH tp l no H (θ 1) [.agg ((Rw.f z0).map .d), .agg ((Rw.f z1).map .d)] (vI y))
section
variable (y1 : List α)
def Zqd : PT 1 (List α) := lr E59 (G59) y1
def Zpe : PT 1 (List α) := vz (fl y1) <| lc (mkS [] [((0, 0), ⟨0, true, Tid.t α, Rw.s α, Zaa Rw.f y1⟩)]) ((Zqd y1).m)
def Zo1 (p0 : List α) (pf1 : α → α → Option Int) : PT 1 (List α) := vz (eqN p0.length) <| vz (fl p0) <| lc (mkS [(4, .ref (0, 0) 0 0 p0.length), (6, vN p0.length), (7, .fn (.yield 1) [] [])] [((0, 0), ⟨0, true, Tid.t α, Rw.s α, Zaa Rw.f p0⟩)]) ((ZbL p0 (p0.length : Int) pf1).bind fun y1 => (Zpe y1).m)
def ZaT (p0 : List α) (pf1 : α → α → Option Int) : Option (List α) := (Zo1 p0 pf1).m
end
end
theorem ZHG (p0 : List Msg) (pf1 : Msg → Msg → Option Int) : KO tp 59 1 [.ref (0, 0) 0 0 p0.length, .fn (.yield 1) [] []] [⟨0, true, 39, 5, Zaa Zap p0⟩] (H59 pf1) (ZaT p0 pf1) E59 (G59) := ko1 Try.func59 Try.ntmps59 tok [] 1 (fun C co hT y m Post L => rg (Zb8 co tok 4 (Zo1 p0 pf1) (lf2 [4, 6, 7] [((0, 0), true)]) m L fun r g _ m L => ZaS co m 95 [.ref (0, 0) 0 0 p0.length, vN p0.length, .fn (.yield 1) [] []] [(0, 0)] ([((0, 0), ⟨0, true, 39, 5, Zaa Zap p0⟩)] ++ []) (fun z => .tup []) (fun z => [((0, 0), ⟨0, true, 39, 5, Zaa Zap z⟩)]) [] (fun z => ⟨co.W 0 (by decide), trivial⟩) (trivial) (fun z hz r g => Zae (ZIE p0 (p0.length : Int) pf1) hz co g [((0, 0), ⟨0, true, 39, 5, Zaa Zap p0⟩)] [] [((0, 0), ⟨0, true, 39, 5, Zaa Zap z⟩)] (lkS [(2, r.θ 1)]) (fun H' hg ho => (fun z0 z1 y hz => Za4 co g [((0, 0), ⟨0, true, 39, 5, Zaa Zap p0⟩)] ho (hT z0 z1 y hz))) (fun H => ⟨fun _ => ⟨rfl, bz⟩, by kernel_rfl, trivial⟩) (fun H => ⟨fun _ => ⟨rfl, bz⟩, by kernel_rfl, trivial⟩)) fun y1 m => Zb4 co tok (Zpe y1) (lf2 [] [((0, 0), true)]) m L fun r g _ m L => ZeU (Zqd y1) co m L (fun r g => id) r g)) (hB := fun y => ⟨.inl (Zaj _ _), rfl, trivial⟩)
abbrev E96 : Bool → AV := fun y => vB y
def ZwZ (p0 : Bt) : PT 0 (Bool) := lr E96 (fun _ => []) (!decide (p0 = p0))
def ZcS (p0 : Bt) : Option (Bool) := (ZwZ p0).m
theorem ZGm (p0 : Bt) : KC tp 96 [vS p0] (ZcS p0) E96 := kc1 Try.func96 Try.ntmps96 tok [.tmp 2] fun C co y m Post L => fo co (ZwZ p0) m L fun r g => id
abbrev E61 : Int → AV := fun y => vI y
def ZyT (p0 : Bt) (p1 : Bt) : PT 0 (Int) := cl (ZGm p0) fun y1 => cl (ZGm p1) fun y2 => br y1 (br y2 (lr E61 (fun _ => []) 0) (lr E61 (fun _ => []) (-1))) (br y2 (lr E61 (fun _ => []) 1) (br (sLt p0 p1) (lr E61 (fun _ => []) (-1)) (br (!(sLt p0 p1 || decide (p0 = p1))) (lr E61 (fun _ => []) 1) (lr E61 (fun _ => []) 0))))
def ZbS (p0 : Bt) (p1 : Bt) : Option (Int) := (ZyT p0 p1).m
theorem ZEV (p0 : Bt) (p1 : Bt) : KC tp 61 [vS p0, vS p1] (ZbS p0 p1) E61 := kc1 Try.func61 Try.ntmps61 tok [.tmp 4] fun C co y m Post L => fo co (ZyT p0 p1) m L fun r g y1 y2 => ⟨⟨id, id⟩, ⟨id, ⟨id, ⟨id, id⟩⟩⟩⟩
abbrev E60 : Int → AV := fun y => vI y
def ZwT (p0 : Msg) (p1 : Msg) : PT 0 (Int) := vw .go <| vw .go <| cl (ZEV p0.name p1.name) fun y1 => lr E60 (fun _ => []) y1
def ZbN (p0 : Msg) (p1 : Msg) : Option (Int) := (ZwT p0 p1).m
theorem ZHs (p0 : Msg) (p1 : Msg) : KC tp 60 [.agg ((Zap p0).map .d), .agg ((Zap p1).map .d)] (ZbN p0 p1) E60 := kc1 Try.func60 Try.ntmps60 tok [.tmp 4] fun C co y m Post L => fo co (ZwT p0 p1) m L fun r g y1 => id
end
end Go.Proofs.Ythagpbkmakocjaa
