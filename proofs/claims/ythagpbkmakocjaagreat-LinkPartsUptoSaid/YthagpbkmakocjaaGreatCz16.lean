import Derived.Test.YthagpbkmakocjaaGreatCz14
import Derived.Test.YthagpbkmakocjaaGreatCz15
import Derived.Test.YthagpbkmakocjaaGreatCz00
namespace Go.Proofs.YthagpbkmakocjaaGreat
set_option linter.all false
set_option maxRecDepth 100000
open Go Go.Eng
noncomputable section
@[reducible] noncomputable def tp : Program := Tryz.prog
abbrev Bt := ByteArray
section
variable {n os : Nat} {C : Cx} {τ : St} {Q : Exit → St → Prop} {p : List Nat} {b c : Code} {β : Type} {Post : AV → List Blk → Prop} {rs : List ResultVar} {L : β → Prop} {y : β}
theorem mi (co : CO C os) (m : Nat) (v : PT os β) (lf lx : Lf) (hQ : ∀ τ, FQ (lkT tl) rs os Post .ret τ → Q .ret τ) (hv : v.m = some y) (hL : HL L y)
 (hn : ∀ r (g : Gd C r), v.n ⟨⟨C.l, r, fun e τ' => match e with | .normal => LW tp n C (pa (up m p) b) τ' Q | e => Q e τ', Post⟩, L, C, co, g, rfl⟩)
 (hq : ∀ l r Q Post, ZFs tp (lkT tl) l n os r m (pa p b) v.a τ (KB (lkT tl) rs os (Zgv os) r Post lf lx Q) = v.q ⟨l, r, Q, Post⟩ := by intro l r Q P; kernel_rfl) (hl : lng m (pa p b) = true := by kernel_rfl) : LW tp n C (pa p b) τ Q := ZLZ co tok tmo m v lf lx hQ hv hL hn hq hl
theorem en (co : CO C os) (v : PT os β) (lf lx : Lf) (hQ : ∀ τ, FQ (lkT tl) rs os Post .ret τ → Q .ret τ) (h : v.m = some y) (hL : HL L y)
 (hn : ∀ r (g : Gd C r), v.n ⟨⟨C.l, r, Q, Post⟩, L, C, co, g, rfl⟩) (hq : ∀ l r Q Post, Zdu tp (lkT tl) l n os r c v.a τ (KB (lkT tl) rs os (Zgv os) r Post lf lx Q) = v.q ⟨l, r, Q, Post⟩ := by intro l r Q P; kernel_rfl) : LW tp n C c τ Q := ZO6 co tok tmo v lf lx hQ h hL hn hq
theorem fo (co : CO C os) (v : PT os β) (h : v.m = some y) (hL : HL L y) (hn : ∀ r (g : Gd C r), v.n ⟨⟨C.l, r, fun _ _ => False, Post⟩, L, C, co, g, rfl⟩)
 (hq : ∀ l r Q Post, Zdu tp (lkT tl) l n os r c v.a τ (KF (lkT tl) rs os Post) = v.q ⟨l, r, Q, Post⟩ := by intro l r Q P; kernel_rfl) : LW tp n C c τ (FQ (lkT tl) rs os Post) := ZO9 co tok tmo v h hL hn hq
abbrev Kl {σ ξ ρ : Type} (n : Nat) (C : Cx) (c : Code) (rs : List ResultVar) (os : Nat) (S : σ → St) (X : ξ → Nat × St) (er : ρ → AV) (bs : ρ → List Blk) (B : σ → Option (Lv σ ξ ρ)) : Prop := KL tp (lkT tl) n C c rs os S X er bs B
end
section
variable {n os : Nat} {C : Cx} {τ : St} {Q : Exit → St → Prop} {p : List Nat} {b c : Code} {β : Type} {Post : AV → List Blk → Prop} {rs : List ResultVar} {L : β → Prop} {y : β}
theorem mJ (co : CO C os) (m : Nat) {v : PT os β} (lf lx : Lf) (hQ : ∀ τ, FQ (lkT tl) rs os Post .ret τ → Q .ret τ) (hv : v.m = some y) (hL : HL L y)
 (hn : ∀ r (g : Gd C r), v.n ⟨⟨C.l, r, fun e τ' => match e with | .normal => LW tp n C (pa (up m p) b) τ' Q | e => Q e τ', Post⟩, L, C, co, g, rfl⟩)
 (hq : ∀ l r Q Post, ZFs tp (lkT tl) l n os r m (pa p b) v.a τ (KB (lkT tl) rs os (Zgv os) r Post lf lx Q) = v.q ⟨l, r, Q, Post⟩ := by intro l r Q P; kernel_rfl) (hl : lng m (pa p b) = true := by kernel_rfl) : LW tp n C (pa p b) τ Q := ZLZ co tok tmo m v lf lx hQ hv hL hn hq hl
theorem mK (co : CO C os) (m : Nat) {v : PT os β} (lf : Lf) (hv : v.m = some y) (hL : HL L y)
 (hn : ∀ r (g : Gd C r), v.n ⟨⟨C.l, r, fun e τ' => match e with | .normal => LW tp n C (pa (up m p) b) τ' Q | e => Q e τ', Post⟩, L, C, co, g, rfl⟩)
 (hQ : ∀ τ, FQ (lkT tl) rs os Post .ret τ → Q .ret τ := by exact fun _ h => h)
 (hq : ∀ l r Q Post, ZFs tp (lkT tl) l n os r m (pa p b) v.a τ (KB (lkT tl) rs os (Zgv os) r Post lf nl Q) = v.q ⟨l, r, Q, Post⟩ := by intro l r Q P; kernel_rfl) (hl : lng m (pa p b) = true := by kernel_rfl) : LW tp n C (pa p b) τ Q := ZLZ co tok tmo m v lf nl hQ hv hL hn hq hl
theorem eN (co : CO C os) {v : PT os β} (lf lx : Lf) (hQ : ∀ τ, FQ (lkT tl) rs os Post .ret τ → Q .ret τ) (h : v.m = some y) (hL : HL L y)
 (hn : ∀ r (g : Gd C r), v.n ⟨⟨C.l, r, Q, Post⟩, L, C, co, g, rfl⟩ := by
  intro r g
  repeat' (first | exact id | exact trivial | refine ⟨?_, ?_⟩ | intro _ | (rename_i b h; subst h; cases b <;> rfl))) (hq : ∀ l r Q Post, Zdu tp (lkT tl) l n os r c v.a τ (KB (lkT tl) rs os (Zgv os) r Post lf lx Q) = v.q ⟨l, r, Q, Post⟩ := by intro l r Q P; kernel_rfl) : LW tp n C c τ Q := ZO6 co tok tmo v lf lx hQ h hL hn hq
theorem fO (co : CO C os) {v : PT os β} (h : v.m = some y) (hL : HL L y) (hn : ∀ r (g : Gd C r), v.n ⟨⟨C.l, r, fun _ _ => False, Post⟩, L, C, co, g, rfl⟩ := by
  intro r g
  repeat' (first | exact id | exact trivial | refine ⟨?_, ?_⟩ | intro _ | (rename_i b h; subst h; cases b <;> rfl)))
 (hq : ∀ l r Q Post, Zdu tp (lkT tl) l n os r c v.a τ (KF (lkT tl) rs os Post) = v.q ⟨l, r, Q, Post⟩ := by intro l r Q P; kernel_rfl) : LW tp n C c τ (FQ (lkT tl) rs os Post) := ZO9 co tok tmo v h hL hn hq
theorem pR {k : Nat} (co : CO C os) (m : Nat) {v : PT os β} (lf : Lf) (hv : v.m = some y) (hL : HL L y) (hn : ∀ r (g : Gd C r), v.n ⟨⟨C.l, r, fun _ τ' => LO tp n C c (k + m) τ' Q, fun _ _ => False⟩, L, C, co, g, rfl⟩)
 (hq : ∀ l r Q Post, Zd1 r os v.a τ (fun τ a => Zjr tp (lkT tl) l n r ((Zdf c).toList.map (·.dst)) (Zmp m (ZhR k (Zdf c).toList)) [] a (fun τ' env a' => Zd1 r os a' (Zls env τ') (fun τ _ => Zf5 (Zgv os) lf τ (Q .normal))) τ) = v.q ⟨l, r, Q, Post⟩ := by intro l r Q P; kernel_rfl) : LO tp n C c k τ Q := ZPF co tok m v lf hv hL hn hq
theorem eR {k : Nat} (co : CO C os) {v : PT os β} (lf : Lf) (hv : v.m = some y) (hL : HL L y) (hn : ∀ r (g : Gd C r), v.n ⟨⟨C.l, r, Q, fun _ _ => False⟩, L, C, co, g, rfl⟩ := by
  intro r g
  repeat' (first | exact id | exact trivial | refine ⟨?_, ?_⟩ | intro _ | (rename_i b h; subst h; cases b <;> rfl)))
 (hq : ∀ l r Q Post, Zd1 r os v.a τ (fun τ a => Zjr tp (lkT tl) l n r ((Zdf c).toList.map (·.dst)) (ZhR k (Zdf c).toList) [] a (fun τ' env a' => Zd1 r os a' (Zls env τ') (fun τ _ => Zf5 (Zgv os) lf τ (Q .normal))) τ) = v.q ⟨l, r, Q, Post⟩ := by intro l r Q P; kernel_rfl) : LO tp n C c k τ Q := ZP1 co tok v lf hv hL hn hq
theorem cM (co : CO C os) {v : PT os β} (lf : Lf) (hv : v.m = some y) (hL : HL L y) (hn : ∀ r (g : Gd C r), v.n ⟨⟨C.l, r, fun _ τ' => LW tp n C c τ' Q, fun _ _ => False⟩, L, C, co, g, rfl⟩)
 (hq : ∀ l r Q Post, Zd1 r os v.a τ (fun τ _ => Zf5 (Zgv os) lf τ (Q .normal)) = v.q ⟨l, r, Q, Post⟩ := by intro l r Q P; kernel_rfl) : LW tp n C c τ Q := ZQJ co v lf hv hL hn hq
theorem kC {f : FuncId} {fn : Func} {xs : List AV} {γ : Type} {M : Option γ} {e : γ → AV} (hf : tp.funcs[f]? = some fn) (hn : fn.ntmps = n) (rs : List ResultVar)
  (h : ∀ {C : Cx} {y : γ} {Post : AV → List Blk → Prop}, CO C 0 → M = some y → HL (fun y => Post (e y) []) y → LW tp n C (pa [] (Zac fn)) (mkS (ZmF 0 xs) []) (FQ (lkT tl) rs 0 Post))
  (hx : ∀ r, Zao r xs = xs := by intro r; kernel_rfl) (he : ∀ r y, ren r (e y) = e y := by intro r y; kernel_rfl)
  (hb : fn.body = some (Zac fn) := by kernel_rfl) (hname : (fn.name == "runtime.NumGoroutine") = false := by kernel_rfl) (hr : fn.results.toList = rs := by kernel_rfl) (hl : Nat.ble xs.length n = true := by kernel_rfl) : KC tp f xs M e := kc1 hf hn tok rs (fun C co y m Post L => h co m L) hx he hb hname hr hl
theorem kO {f : FuncId} {fn : Func} {ys : List AV} {bi : List Blk} {Θ : Cl} {γ : Type} {M : Option γ} {e : γ → AV} {bs : γ → List Blk} (hf : tp.funcs[f]? = some fn) (hn : fn.ntmps = n) (rs : List ResultVar) (os : Nat)
  (h : ∀ {C : Cx} {y : γ} {Post : AV → List Blk → Prop}, CO C os → Θ C.no C.l C.H0 C.θ → M = some y → HL (fun y => Post (e y) (bs y)) y → LW tp n C (pa [] (Zac fn)) (mkS (ZmF 0 ys) (Zod 0 bi)) (FQ (lkT tl) rs os Post))
  (he : ∀ y, kno os (e y) = true := by intro y; kernel_rfl) (hB : ∀ y, ZuL os (bs y) := by intro y; repeat (first | exact trivial | refine ⟨.inl (Zb2 _ _), rfl, ?_⟩ | refine ⟨.inl Zr8, rfl, ?_⟩ | refine ⟨.inr (by kernel_rfl), rfl, ?_⟩)) (hl : ∀ y, (bs y).length = os := by intro y; rfl) (hin : ZyW os (Zod 0 bi) = true := by kernel_rfl)
  (hb : fn.body = some (Zac fn) := by kernel_rfl) (hname : (fn.name == "runtime.NumGoroutine") = false := by kernel_rfl) (hr : fn.results.toList = rs := by kernel_rfl) (hx : Nat.ble ys.length n = true := by kernel_rfl) : KO tp f os ys bi Θ M e bs := ko1 hf hn tok rs os (fun C co hT y m Post L => h co hT m L) he hB hl hin hb hname hr hx
theorem cD {P : Program} {x : Bool} {m1 m2 : Option β} (hm : (if x = true then m1 else m2) = some y) (h1 : m1 = some y → LW P n C (pa (0 :: p) b) τ Q) (h2 : m2 = some y → LW P n C (pa (1 :: p) b) τ Q) (hs : ZK3 (pa p b) = true := by kernel_rfl) (he : ev τ.s (ZzS (pa p b)) = .d (.bool x) := by kernel_rfl) : LW P n C (pa p b) τ Q := cd x hm h1 h2 hs he
end
theorem ii {α : Type} {P : α → Prop} : ∀ x, P x → P x := fun _ h => h
theorem bz {r r' : Ren} {k k' : Key} {g g' : Nat} {e : TypeId} {sz : Nat} {α : Type} {en : α → List D} {xs : List α} (h : r.γ k + g = r'.γ k' + g' := by kernel_rfl) : Zb7 r k ⟨g, true, e, sz, Zav en xs⟩ = Zb7 r' k' ⟨g', true, e, sz, Zav en xs⟩ := Zfj (Zb2 _ _) h
class Tid (α : Type) where
 t : Nat
instance : Tid Msg := ⟨48⟩
instance : Tid Enm := ⟨55⟩
instance : Tid Svc := ⟨62⟩
abbrev o9 (x : List Bt) : Blk := ⟨0, true, 9, 1, Zav Zal x⟩
abbrev u9 (x : List Bt) : Blk := ⟨1, true, 9, 1, Zav Zal x⟩
abbrev o3 (x : List Int) : Blk := ⟨0, true, 3, 1, Zav ZqK x⟩
abbrev o4 (x : List Bool) : Blk := ⟨0, true, 4, 1, Zav ZLK x⟩
abbrev o48 (x : List Msg) : Blk := ⟨0, true, 48, 5, Zav ZaC x⟩
abbrev u48 (x : List Msg) : Blk := ⟨1, true, 48, 5, Zav ZaC x⟩
abbrev o55 (x : List Enm) : Blk := ⟨0, true, 55, 5, Zav Zan x⟩
abbrev u55 (x : List Enm) : Blk := ⟨1, true, 55, 5, Zav Zan x⟩
abbrev o62 (x : List Svc) : Blk := ⟨0, true, 62, 3, Zav ZaG x⟩
abbrev u62 (x : List Svc) : Blk := ⟨1, true, 62, 3, Zav ZaG x⟩
abbrev og {α : Type} [Rw α] [Tid α] (x : List α) : Blk := ⟨0, true, Tid.t α, Rw.s α, Zav Rw.f x⟩
abbrev z0 : Key × Bool := ((0, 0), true)
abbrev rz (n : Nat) : AV := .ref (0, 0) 0 0 n
abbrev ct : Cl := fun _ _ _ _ => True
def ZlP : Go.Shelf.Ren := ⟨fun | 190 => 41 | 125 => 83 | 258 => 82 | 128 => 116 | 129 => 117 | 302 => 107 | 303 => 108 | 304 => 109 | 305 => 110 | 306 => 111 | 307 => 112 | 308 => 113 | 309 => 114 | 310 => 115 | 333 => 130 | 329 => 131 | 330 => 132 | 334 => 133 | 335 => 134 | 336 => 94 | 344 => 140 | n => n, fun | 31 => 36 | 9 => 9 | 3 => 3 | 46 => 152 | 0 => 0 | 51 => 185 | 53 => 76 | 4 => 4 | 183 => 177 | 182 => 176 | 131 => 182 | 5 => 5 | 218 => 198 | 222 => 202 | 228 => 206 | 229 => 207 | n => n, fun | n => n⟩
theorem ZFe : Go.Proofs.Lays.n190 tp ZlP := { mixed := by kernel_rfl, f125 := Tryz.func83.trans (congrArg some (by kernel_rfl)), f128 := Tryz.func116.trans (congrArg some (by kernel_rfl)), f129 := Tryz.func117.trans (congrArg some (by kernel_rfl)), f190 := Tryz.func41.trans (congrArg some (by kernel_rfl)), f258 := Tryz.func82.trans (congrArg some (by kernel_rfl)), f302 := Tryz.func107.trans (congrArg some (by kernel_rfl)), f303 := Tryz.func108.trans (congrArg some (by kernel_rfl)), f304 := Tryz.func109.trans (congrArg some (by kernel_rfl)), f305 := Tryz.func110.trans (congrArg some (by kernel_rfl)), f306 := Tryz.func111.trans (congrArg some (by kernel_rfl)), f307 := Tryz.func112.trans (congrArg some (by kernel_rfl)), f308 := Tryz.func113.trans (congrArg some (by kernel_rfl)), f309 := Tryz.func114.trans (congrArg some (by kernel_rfl)), f310 := Tryz.func115.trans (congrArg some (by kernel_rfl)), f329 := Tryz.func131.trans (congrArg some (by kernel_rfl)), f330 := Tryz.func132.trans (congrArg some (by kernel_rfl)), f333 := Tryz.func130.trans (congrArg some (by kernel_rfl)), f334 := Tryz.func133.trans (congrArg some (by kernel_rfl)), f335 := Tryz.func134.trans (congrArg some (by kernel_rfl)), f336 := Tryz.func94.trans (congrArg some (by kernel_rfl)), f344 := Tryz.func140.trans (congrArg some (by kernel_rfl)), t0 := Tryz.underlying0, a0 := Tryz.isAgg0, z0 := Tryz.sizeOf0, v0 := Tryz.zeroValue0, t3 := Tryz.underlying3, a3 := Tryz.isAgg3, z3 := Tryz.sizeOf3, v3 := Tryz.zeroValue3, t4 := Tryz.underlying4, a4 := Tryz.isAgg4, z4 := Tryz.sizeOf4, v4 := Tryz.zeroValue4, t5 := Tryz.underlying5, a5 := Tryz.isAgg5, z5 := Tryz.sizeOf5, v5 := Tryz.zeroValue5, t9 := Tryz.underlying9, a9 := Tryz.isAgg9, z9 := Tryz.sizeOf9, v9 := Tryz.zeroValue9, t31 := Tryz.underlying36, a31 := Tryz.isAgg36, z31 := Tryz.sizeOf36, v31 := Tryz.zeroValue36, t46 := Tryz.underlying152, a46 := Tryz.isAgg152, z46 := Tryz.sizeOf152, v46 := Tryz.zeroValue152, t51 := Tryz.underlying185, a51 := Tryz.isAgg185, z51 := Tryz.sizeOf185, v51 := Tryz.zeroValue185, t53 := Tryz.underlying76, a53 := Tryz.isAgg76, z53 := Tryz.sizeOf76, v53 := Tryz.zeroValue76, t131 := Tryz.underlying182, a131 := Tryz.isAgg182, z131 := Tryz.sizeOf182, v131 := Tryz.zeroValue182, t182 := Tryz.underlying176, a182 := Tryz.isAgg176, z182 := Tryz.sizeOf176, v182 := Tryz.zeroValue176, t183 := Tryz.underlying177, a183 := Tryz.isAgg177, z183 := Tryz.sizeOf177, v183 := Tryz.zeroValue177, t218 := Tryz.underlying198, a218 := Tryz.isAgg198, z218 := Tryz.sizeOf198, v218 := Tryz.zeroValue198, t222 := Tryz.underlying202, a222 := Tryz.isAgg202, z222 := Tryz.sizeOf202, v222 := Tryz.zeroValue202, t228 := Tryz.underlying206, a228 := Tryz.isAgg206, z228 := Tryz.sizeOf206, v228 := Tryz.zeroValue206, t229 := Tryz.underlying207, a229 := Tryz.isAgg207, z229 := Tryz.sizeOf207, v229 := Tryz.zeroValue207 }
abbrev E41 : List Bt → AV := fun y => .tup []
@[reducible] def G41 : List Bt → List Blk := fun y => [o9 y]
def Zd3 (p0 : List Bt) : Option (List Bt) := if p0.length < 4611686018427387904 then some (ZeZ p0) else none
theorem ZPW (p0 : List Bt) : KO tp 41 1 [rz p0.length] [o9 p0] ct (Zd3 p0) E41 (G41) := ⟨fun l H ks gs θ hks hlow hnd hH _ y hy => by
 obtain ⟨h0, hy⟩ := Zas hy
 cases hy
 match ks, hks with
 | [k0], _ => exact ZpA ZFe ⟨_, Zac Tryz.f41, Tryz.func41, by kernel_rfl, by kernel_rfl⟩ hlow.1 p0 ((hH.1.2 rfl).trans (ZfE (Zb2 _ _))) h0 ⟨rfl, (congrArg (updH H k0) (ZfE (Zb2 _ _))).symm⟩⟩
def ZmM : Go.Shelf.Ren := ⟨fun | 194 => 42 | n => n, fun | 31 => 36 | 9 => 9 | 3 => 3 | 4 => 4 | 0 => 0 | n => n, fun | n => n⟩
theorem ZAC : Go.Proofs.Lays.n194 tp ZmM := { mixed := by kernel_rfl, f194 := Tryz.func42.trans (congrArg some (by kernel_rfl)), t0 := Tryz.underlying0, a0 := Tryz.isAgg0, z0 := Tryz.sizeOf0, v0 := Tryz.zeroValue0, t3 := Tryz.underlying3, a3 := Tryz.isAgg3, z3 := Tryz.sizeOf3, v3 := Tryz.zeroValue3, t4 := Tryz.underlying4, a4 := Tryz.isAgg4, z4 := Tryz.sizeOf4, v4 := Tryz.zeroValue4, t9 := Tryz.underlying9, a9 := Tryz.isAgg9, z9 := Tryz.sizeOf9, v9 := Tryz.zeroValue9, t31 := Tryz.underlying36, a31 := Tryz.isAgg36, z31 := Tryz.sizeOf36, v31 := Tryz.zeroValue36 }
abbrev E42 : List Bt → AV := fun y => rz y.length
def Zdg (p0 : List Bt) : Option (List Bt) := if p0.length < 4611686018427387904 then some (Zep p0) else none
theorem ZQg (p0 : List Bt) : KO tp 42 1 [rz p0.length] [o9 p0] ct (Zdg p0) E42 (G41) := ⟨fun l H ks gs θ hks hlow hnd hH _ y hy => by
 obtain ⟨h0, hy⟩ := Zas hy
 cases hy
 match ks, hks with
 | [k0], _ => exact Ziy ZAC ⟨_, Zac Tryz.f42, Tryz.func42, by kernel_rfl, by kernel_rfl⟩ hlow.1 p0 ((hH.1.2 rfl).trans (ZfE (Zb2 _ _))) h0 ⟨rfl, (congrArg (updH H k0) (ZfE (Zb2 _ _))).symm⟩⟩
abbrev E14 : Bt → AV := fun y => vS y
def ZMd (p0 : Msg) : PT 0 (Bt) := vw .go <| lr E14 (fun _ => []) p0.name
def ZfR (p0 : Msg) : Option (Bt) := (ZMd p0).m
theorem ZMQ (p0 : Msg) : KC tp 14 [.agg ((ZaC p0).map .d)] (ZfR p0) E14 := kC Tryz.func14 Tryz.ntmps14 [.tmp 2] fun co m L => fO co m L
def ZM6 (p0 : Enm) : PT 0 (Bt) := vw .go <| lr E14 (fun _ => []) p0.name
def ZfA (p0 : Enm) : Option (Bt) := (ZM6 p0).m
theorem ZNf (p0 : Enm) : KC tp 17 [.agg ((Zan p0).map .d)] (ZfA p0) E14 := kC Tryz.func17 Tryz.ntmps17 [.tmp 2] fun co m L => fO co m L
def ZNh (p0 : Svc) : PT 0 (Bt) := vw .go <| lr E14 (fun _ => []) p0.name
def ZfS (p0 : Svc) : Option (Bt) := (ZNh p0).m
theorem ZMA (p0 : Svc) : KC tp 20 [.agg ((ZaG p0).map .d)] (ZfS p0) E14 := kC Tryz.func20 Tryz.ntmps20 [.tmp 2] fun co m L => fO co m L
abbrev E49 : Bool → AV := fun y => vB y
def H49 (pf2 : Fld → Fld → Option Bool) : Cl := fun no l H θ => (∀ (z0 : Fld) (z1 : Fld) y, pf2 z0 z1 = some y → Zfq tp l no H (θ 2) [.agg ((Zdb z0).map .d), .agg ((Zdb z1).map .d)] (vB y))
section
variable {C : Cx} (p0 p1 : List Fld) (pf2 : Fld → Fld → Option Bool)
def ZDZ : Nat → St := fun v1 => mkS [(1, vL Zdb p1), (2, .fn (.yield 2) [] []), (15, vL Zdb p0), (16, vN p0.length), (17, vN v1)] []
def ZKx : Unit → Nat × St := fun _ => (0, mkS [] [])
def ZDo (v1 : Nat) : PT 0 (Lv (Nat) (Unit) (Bool)) := br (decide ((v1 : Int) < (p0.length : Int))) (ix p0 v1 fun e2 => vw .go <| ix p1 v1 fun e3 => vw .go <| vw .go <| vw .go <| cf tp 2 [.agg ((Zdb e2).map .d), .agg ((Zdb e3).map .d)] (pf2 e2 e3) (fun y => vB y) fun y4 => br (!y4) (lrt E49 (fun _ => []) false) (vs (wa v1 1) <| ln (ZDZ p0 p1) (v1 + 1))) (lxe (ZKx) ())
def ZwP := fun (v1 : Nat) => (ZDo p0 p1 pf2 v1).m
def ZGt : PT 0 (Bool) := lr E49 (fun _ => []) true
def ZJh : PT 0 (Bool) := vz (eqL p0) <| lc (ZDZ p0 p1 0) ((Zaa (ZwP p0 p1 pf2) big 0).bind (Sum.elim (fun _ => (ZGt).m) some))
def ZGN : PT 0 (Bool) := vz (eqL p0) <| vz (eqL p1) <| br (!decide ((p0.length : Int) = (p1.length : Int))) (lr E49 (fun _ => []) false) (lc (mkS [(0, vL Zdb p0), (1, vL Zdb p1), (2, .fn (.yield 2) [] [])] []) ((ZJh p0 p1 pf2).m))
def Zcm (p0 : List Fld) (p1 : List Fld) (pf2 : Fld → Fld → Option Bool) : Option (Bool) := (ZGN p0 p1 pf2).m
theorem ZEk (co : CO C 0) (hT : (H49 pf2) C.no C.l C.H0 C.θ) : Kl 32 C (pa [0, 0, 1, 0, 1, 1] (Zac Tryz.f49)) [.tmp 6] 0 (ZDZ p0 p1) (ZKx) E49 (fun _ => []) (ZwP p0 p1 pf2) := fun v1 _ m Q Post hQ L => eN co (lf1 [1, 2, 15, 16, 17]) nl hQ m L fun r g => ⟨fun e2 e3 => ⟨⟨fun y hy => hT _ _ y hy, by intro r; kernel_rfl, by intro r y; kernel_rfl⟩, fun y4 => ⟨id, id⟩⟩, id⟩
end
theorem ZQt (p0 : List Fld) (p1 : List Fld) (pf2 : Fld → Fld → Option Bool) : KO tp 49 0 [vL Zdb p0, vL Zdb p1, .fn (.yield 2) [] []] [] (H49 pf2) (Zcm p0 p1 pf2) E49 (fun _ => []) := kO Tryz.func49 Tryz.ntmps49 [.tmp 6] 0 (fun co hT m L => mK co 2 (lf1 [0, 1, 2]) m L fun r g => ⟨id, fun _ m L => sq (mK co 1 (lf1 [1, 2, 15, 16, 17]) m L fun r g _ m L => bk 0 (lo (lpF (ZEk p0 p1 pf2 co hT) ii m L (fun _ m => fO co m L))))⟩)
def H91 (pf2 : Nt → Nt → Option Bool) : Cl := fun no l H θ => (∀ (z0 : Nt) (z1 : Nt) y, pf2 z0 z1 = some y → Zfq tp l no H (θ 2) [.agg ((eNt z0).map .d), .agg ((eNt z1).map .d)] (vB y))
section
variable {C : Cx} (p0 p1 : List Nt) (pf2 : Nt → Nt → Option Bool)
def ZAh : Nat → St := fun v1 => mkS [(1, vL eNt p1), (2, .fn (.yield 2) [] []), (15, vL eNt p0), (16, vN p0.length), (17, vN v1)] []
def ZKg : Unit → Nat × St := fun _ => (0, mkS [] [])
def ZEc (v1 : Nat) : PT 0 (Lv (Nat) (Unit) (Bool)) := br (decide ((v1 : Int) < (p0.length : Int))) (ix p0 v1 fun e2 => vw .go <| ix p1 v1 fun e3 => vw .go <| vw .go <| vw .go <| cf tp 2 [.agg ((eNt e2).map .d), .agg ((eNt e3).map .d)] (pf2 e2 e3) (fun y => vB y) fun y4 => br (!y4) (lrt E49 (fun _ => []) false) (vs (wa v1 1) <| ln (ZAh p0 p1) (v1 + 1))) (lxe (ZKg) ())
def Zvc := fun (v1 : Nat) => (ZEc p0 p1 pf2 v1).m
def ZIE : PT 0 (Bool) := lr E49 (fun _ => []) true
def ZJe : PT 0 (Bool) := vz (eqL p0) <| lc (ZAh p0 p1 0) ((Zaa (Zvc p0 p1 pf2) big 0).bind (Sum.elim (fun _ => (ZIE).m) some))
def ZJH : PT 0 (Bool) := vz (eqL p0) <| vz (eqL p1) <| br (!decide ((p0.length : Int) = (p1.length : Int))) (lr E49 (fun _ => []) false) (lc (mkS [(0, vL eNt p0), (1, vL eNt p1), (2, .fn (.yield 2) [] [])] []) ((ZJe p0 p1 pf2).m))
def ZcA (p0 : List Nt) (p1 : List Nt) (pf2 : Nt → Nt → Option Bool) : Option (Bool) := (ZJH p0 p1 pf2).m
theorem ZAo (co : CO C 0) (hT : (H91 pf2) C.no C.l C.H0 C.θ) : Kl 32 C (pa [0, 0, 1, 0, 1, 1] (Zac Tryz.f91)) [.tmp 6] 0 (ZAh p0 p1) (ZKg) E49 (fun _ => []) (Zvc p0 p1 pf2) := fun v1 _ m Q Post hQ L => eN co (lf1 [1, 2, 15, 16, 17]) nl hQ m L fun r g => ⟨fun e2 e3 => ⟨⟨fun y hy => hT _ _ y hy, by intro r; kernel_rfl, by intro r y; kernel_rfl⟩, fun y4 => ⟨id, id⟩⟩, id⟩
end
theorem ZQr (p0 : List Nt) (p1 : List Nt) (pf2 : Nt → Nt → Option Bool) : KO tp 91 0 [vL eNt p0, vL eNt p1, .fn (.yield 2) [] []] [] (H91 pf2) (ZcA p0 p1 pf2) E49 (fun _ => []) := kO Tryz.func91 Tryz.ntmps91 [.tmp 6] 0 (fun co hT m L => mK co 2 (lf1 [0, 1, 2]) m L fun r g => ⟨id, fun _ m L => sq (mK co 1 (lf1 [1, 2, 15, 16, 17]) m L fun r g _ m L => bk 0 (lo (lpF (ZAo p0 p1 pf2 co hT) ii m L (fun _ m => fO co m L))))⟩)
def ZM7 (p0 : Val) (p1 : Val) : PT 0 (Bool) := vw .go <| vw .go <| vw .go <| vw .go <| vw .go <| vw .go <| lr E49 (fun _ => []) ((decide (p0.kind = p1.kind) && decide (p0.bits = p1.bits)) && decide (p0.text = p1.text))
def Zeo (p0 : Val) (p1 : Val) : Option (Bool) := (ZM7 p0 p1).m
theorem ZO2 (p0 : Val) (p1 : Val) : KC tp 90 [.agg ((Zv5 p0).map .d), .agg ((Zv5 p1).map .d)] (Zeo p0 p1) E49 := kC Tryz.func90 Tryz.ntmps90 [.tmp 4] fun co m L => fO co m L
def ZIW (p0 : Nt) (p1 : Nt) : PT 0 (Bool) := vw .go <| vw .go <| vw .go <| vw .go <| clg (decide (p0.name = p1.name)) (ZO2 p0.val p1.val) fun y1 => lr E49 (fun _ => []) (decide (p0.name = p1.name) && y1)
def Zbu (p0 : Nt) (p1 : Nt) : Option (Bool) := (ZIW p0 p1).m
theorem ZQp (p0 : Nt) (p1 : Nt) : KC tp 92 [.agg ((eNt p0).map .d), .agg ((eNt p1).map .d)] (Zbu p0 p1) E49 := kC Tryz.func92 Tryz.ntmps92 [.tmp 4] fun co m L => fO co m L
def ZJ2 (p0 : List Nt) (p1 : List Nt) : PT 0 (Bool) := cs tp 91 [vL eNt p0, vL eNt p1, .fn (.func 92) [] []] [] [] (ZcA p0 p1 (fun (z0 : Nt) (z1 : Nt) => Zbu z0 z1)) (fun y => vB y) fun y1 => lr E49 (fun _ => []) y1
def Zdc (p0 : List Nt) (p1 : List Nt) : Option (Bool) := (ZJ2 p0 p1).m
theorem ZFP (p0 : List Nt) (p1 : List Nt) : KC tp 53 [vL eNt p0, vL eNt p1] (Zdc p0 p1) E49 := kc1 Tryz.func53 Tryz.ntmps53 tok [.tmp 4] fun C co y m Post L => fO co m L fun r g => ⟨fun y hy => Zbm (ZQr p0 p1 (fun (z0 : Nt) (z1 : Nt) => Zbu z0 z1)) hy co g [] [] (lkS [(2, .fn (.func 92) [] [])]) (fun H' hg ho => (fun z0 z1 y hz => Zhr (ZQp z0 z1) hz)) (fun H => trivial), fun y1 => id⟩
def ZJY (p0 : Fld) (p1 : Fld) : PT 0 (Bool) := vw .go <| vw .go <| vw .go <| vw .go <| vw .go <| vw .go <| vw .go <| vw .go <| vw .go <| vw .go <| vw .go <| vw .go <| vw .go <| vw .go <| vw .go <| vw .go <| clg ((((((decide (p0.num = p1.num) && decide (p0.name = p1.name)) && decide (p0.card = p1.card)) && decide (p0.key = p1.key)) && (decide (p0.type.kind = p1.type.kind) && (decide (p0.type.name = p1.type.name) && true))) && decide (p0.union = p1.union)) && (p0.hasDefault == p1.hasDefault)) (ZO2 p0.dflt p1.dflt) fun y1 => vw .go <| vw .go <| clg (((((((decide (p0.num = p1.num) && decide (p0.name = p1.name)) && decide (p0.card = p1.card)) && decide (p0.key = p1.key)) && (decide (p0.type.kind = p1.type.kind) && (decide (p0.type.name = p1.type.name) && true))) && decide (p0.union = p1.union)) && (p0.hasDefault == p1.hasDefault)) && y1) (ZFP p0.notes p1.notes) fun y2 => lr E49 (fun _ => []) ((((((((decide (p0.num = p1.num) && decide (p0.name = p1.name)) && decide (p0.card = p1.card)) && decide (p0.key = p1.key)) && (decide (p0.type.kind = p1.type.kind) && (decide (p0.type.name = p1.type.name) && true))) && decide (p0.union = p1.union)) && (p0.hasDefault == p1.hasDefault)) && y1) && y2)
def Zb3 (p0 : Fld) (p1 : Fld) : Option (Bool) := (ZJY p0 p1).m
theorem ZQo (p0 : Fld) (p1 : Fld) : KC tp 50 [.agg ((Zdb p0).map .d), .agg ((Zdb p1).map .d)] (Zb3 p0 p1) E49 := kC Tryz.func50 Tryz.ntmps50 [.tmp 4] fun co m L => fO co m L
section
variable {C : Cx} (p0 p1 : List Spn)
def ZE0 : Nat → St := fun v1 => mkS [(0, vL Zd0 p0), (1, vL Zd0 p1), (12, vN p0.length), (13, vN v1)] []
def ZJa : Unit → Nat × St := fun _ => (0, mkS [] [])
def ZCj (v1 : Nat) : PT 0 (Lv (Nat) (Unit) (Bool)) := br (decide ((v1 : Int) < (p0.length : Int))) (ix p0 v1 fun e2 => ix p1 v1 fun e3 => br (!(decide (e2.lo = e3.lo) && (decide (e2.hi = e3.hi) && true))) (lrt E49 (fun _ => []) false) (vs (wa v1 1) <| ln (ZE0 p0 p1) (v1 + 1))) (lxe (ZJa) ())
def Zvt := fun (v1 : Nat) => (ZCj p0 p1 v1).m
def ZI1 : PT 0 (Bool) := lr E49 (fun _ => []) true
def ZJV : PT 0 (Bool) := vz (eqL p0) <| lc (ZE0 p0 p1 0) ((Zaa (Zvt p0 p1) big 0).bind (Sum.elim (fun _ => (ZI1).m) some))
def ZIS : PT 0 (Bool) := vz (eqL p0) <| vz (eqL p1) <| br (!decide ((p0.length : Int) = (p1.length : Int))) (lr E49 (fun _ => []) false) (lc (mkS [(0, vL Zd0 p0), (1, vL Zd0 p1)] []) ((ZJV p0 p1).m))
def Zeu (p0 : List Spn) (p1 : List Spn) : Option (Bool) := (ZIS p0 p1).m
theorem ZBG (co : CO C 0) : Kl 26 C (pa [0, 0, 1, 0, 1, 1] (Zac Tryz.f51)) [.tmp 4] 0 (ZE0 p0 p1) (ZJa) E49 (fun _ => []) (Zvt p0 p1) := fun v1 _ m Q Post hQ L => eN co (lf1 [0, 1, 12, 13]) nl hQ m L
end
theorem ZOE (p0 : List Spn) (p1 : List Spn) : KC tp 51 [vL Zd0 p0, vL Zd0 p1] (Zeu p0 p1) E49 := kC Tryz.func51 Tryz.ntmps51 [.tmp 4] fun co m L => mK co 2 (lf1 [0, 1]) m L fun r g => ⟨id, fun _ m L => sq (mK co 1 (lf1 [0, 1, 12, 13]) m L fun r g _ m L => bk 0 (lo (lpF (ZBG p0 p1 co) ii m L (fun _ m => fO co m L))))⟩
section
variable {C : Cx} (p0 p1 : List Bt)
def ZEv : Nat → St := fun v1 => mkS [(0, vL Zal p0), (1, vL Zal p1), (12, vN p0.length), (13, vN v1)] []
def ZJo : Unit → Nat × St := fun _ => (0, mkS [] [])
def ZBv (v1 : Nat) : PT 0 (Lv (Nat) (Unit) (Bool)) := br (decide ((v1 : Int) < (p0.length : Int))) (ix p0 v1 fun e2 => ix p1 v1 fun e3 => br (!decide (e2 = e3)) (lrt E49 (fun _ => []) false) (vs (wa v1 1) <| ln (ZEv p0 p1) (v1 + 1))) (lxe (ZJo) ())
def Zwn := fun (v1 : Nat) => (ZBv p0 p1 v1).m
def ZKj : PT 0 (Bool) := lr E49 (fun _ => []) true
def ZKn : PT 0 (Bool) := vz (eqL p0) <| lc (ZEv p0 p1 0) ((Zaa (Zwn p0 p1) big 0).bind (Sum.elim (fun _ => (ZKj).m) some))
def ZKU : PT 0 (Bool) := vz (eqL p0) <| vz (eqL p1) <| br (!decide ((p0.length : Int) = (p1.length : Int))) (lr E49 (fun _ => []) false) (lc (mkS [(0, vL Zal p0), (1, vL Zal p1)] []) ((ZKn p0 p1).m))
def ZdF (p0 : List Bt) (p1 : List Bt) : Option (Bool) := (ZKU p0 p1).m
theorem ZBl (co : CO C 0) : Kl 26 C (pa [0, 0, 1, 0, 1, 1] (Zac Tryz.f52)) [.tmp 4] 0 (ZEv p0 p1) (ZJo) E49 (fun _ => []) (Zwn p0 p1) := fun v1 _ m Q Post hQ L => eN co (lf1 [0, 1, 12, 13]) nl hQ m L
end
theorem ZQf (p0 : List Bt) (p1 : List Bt) : KC tp 52 [vL Zal p0, vL Zal p1] (ZdF p0 p1) E49 := kC Tryz.func52 Tryz.ntmps52 [.tmp 4] fun co m L => mK co 2 (lf1 [0, 1]) m L fun r g => ⟨id, fun _ m L => sq (mK co 1 (lf1 [0, 1, 12, 13]) m L fun r g _ m L => bk 0 (lo (lpF (ZBl p0 p1 co) ii m L (fun _ m => fO co m L))))⟩
def ZGb (p0 : Msg) (p1 : Msg) : PT 0 (Bool) := vw .go <| vw .go <| vw .go <| vw .go <| csg (decide (p0.name = p1.name)) tp 49 [vL Zdb p0.fields, vL Zdb p1.fields, .fn (.func 50) [] []] [] [] (Zcm p0.fields p1.fields (fun (z0 : Fld) (z1 : Fld) => Zb3 z0 z1)) (fun y => vB y) fun y1 => vw .go <| vw .go <| clg (decide (p0.name = p1.name) && y1) (ZOE p0.reserved p1.reserved) fun y2 => vw .go <| vw .go <| clg ((decide (p0.name = p1.name) && y1) && y2) (ZQf p0.gone p1.gone) fun y3 => vw .go <| vw .go <| clg (((decide (p0.name = p1.name) && y1) && y2) && y3) (ZFP p0.notes p1.notes) fun y4 => lr E49 (fun _ => []) ((((decide (p0.name = p1.name) && y1) && y2) && y3) && y4)
def ZcQ (p0 : Msg) (p1 : Msg) : Option (Bool) := (ZGb p0 p1).m
theorem ZPH (p0 : Msg) (p1 : Msg) : KC tp 15 [.agg ((ZaC p0).map .d), .agg ((ZaC p1).map .d)] (ZcQ p0 p1) E49 := kc1 Tryz.func15 Tryz.ntmps15 tok [.tmp 4] fun C co y m Post L => fO co m L fun r g => ⟨fun y hy => Zbm (ZQt p0.fields p1.fields (fun (z0 : Fld) (z1 : Fld) => Zb3 z0 z1)) hy co g [] [] (lkS [(2, .fn (.func 50) [] [])]) (fun H' hg ho => (fun z0 z1 y hz => Zhr (ZQo z0 z1) hz)) (fun H => trivial), fun y1 y2 y3 y4 => id⟩
def H56 (pf2 : Itm → Itm → Option Bool) : Cl := fun no l H θ => (∀ (z0 : Itm) (z1 : Itm) y, pf2 z0 z1 = some y → Zfq tp l no H (θ 2) [.agg ((Ze1 z0).map .d), .agg ((Ze1 z1).map .d)] (vB y))
section
variable {C : Cx} (p0 p1 : List Itm) (pf2 : Itm → Itm → Option Bool)
def ZCe : Nat → St := fun v1 => mkS [(1, vL Ze1 p1), (2, .fn (.yield 2) [] []), (15, vL Ze1 p0), (16, vN p0.length), (17, vN v1)] []
def ZLy : Unit → Nat × St := fun _ => (0, mkS [] [])
def ZEe (v1 : Nat) : PT 0 (Lv (Nat) (Unit) (Bool)) := br (decide ((v1 : Int) < (p0.length : Int))) (ix p0 v1 fun e2 => vw .go <| ix p1 v1 fun e3 => vw .go <| vw .go <| vw .go <| cf tp 2 [.agg ((Ze1 e2).map .d), .agg ((Ze1 e3).map .d)] (pf2 e2 e3) (fun y => vB y) fun y4 => br (!y4) (lrt E49 (fun _ => []) false) (vs (wa v1 1) <| ln (ZCe p0 p1) (v1 + 1))) (lxe (ZLy) ())
def ZxB := fun (v1 : Nat) => (ZEe p0 p1 pf2 v1).m
def ZHY : PT 0 (Bool) := lr E49 (fun _ => []) true
def ZLa : PT 0 (Bool) := vz (eqL p0) <| lc (ZCe p0 p1 0) ((Zaa (ZxB p0 p1 pf2) big 0).bind (Sum.elim (fun _ => (ZHY).m) some))
def ZIL : PT 0 (Bool) := vz (eqL p0) <| vz (eqL p1) <| br (!decide ((p0.length : Int) = (p1.length : Int))) (lr E49 (fun _ => []) false) (lc (mkS [(0, vL Ze1 p0), (1, vL Ze1 p1), (2, .fn (.yield 2) [] [])] []) ((ZLa p0 p1 pf2).m))
def Zcu (p0 : List Itm) (p1 : List Itm) (pf2 : Itm → Itm → Option Bool) : Option (Bool) := (ZIL p0 p1 pf2).m
theorem ZEf (co : CO C 0) (hT : (H56 pf2) C.no C.l C.H0 C.θ) : Kl 32 C (pa [0, 0, 1, 0, 1, 1] (Zac Tryz.f56)) [.tmp 6] 0 (ZCe p0 p1) (ZLy) E49 (fun _ => []) (ZxB p0 p1 pf2) := fun v1 _ m Q Post hQ L => eN co (lf1 [1, 2, 15, 16, 17]) nl hQ m L fun r g => ⟨fun e2 e3 => ⟨⟨fun y hy => hT _ _ y hy, by intro r; kernel_rfl, by intro r y; kernel_rfl⟩, fun y4 => ⟨id, id⟩⟩, id⟩
end
theorem ZPk (p0 : List Itm) (p1 : List Itm) (pf2 : Itm → Itm → Option Bool) : KO tp 56 0 [vL Ze1 p0, vL Ze1 p1, .fn (.yield 2) [] []] [] (H56 pf2) (Zcu p0 p1 pf2) E49 (fun _ => []) := kO Tryz.func56 Tryz.ntmps56 [.tmp 6] 0 (fun co hT m L => mK co 2 (lf1 [0, 1, 2]) m L fun r g => ⟨id, fun _ m L => sq (mK co 1 (lf1 [1, 2, 15, 16, 17]) m L fun r g _ m L => bk 0 (lo (lpF (ZEf p0 p1 pf2 co hT) ii m L (fun _ m => fO co m L))))⟩)
def ZKw (p0 : Itm) (p1 : Itm) : PT 0 (Bool) := vw .go <| vw .go <| vw .go <| vw .go <| vw .go <| vw .go <| clg (decide (p0.name = p1.name) && decide (p0.num = p1.num)) (ZFP p0.notes p1.notes) fun y1 => lr E49 (fun _ => []) ((decide (p0.name = p1.name) && decide (p0.num = p1.num)) && y1)
def Zch (p0 : Itm) (p1 : Itm) : Option (Bool) := (ZKw p0 p1).m
theorem ZQU (p0 : Itm) (p1 : Itm) : KC tp 57 [.agg ((Ze1 p0).map .d), .agg ((Ze1 p1).map .d)] (Zch p0 p1) E49 := kC Tryz.func57 Tryz.ntmps57 [.tmp 4] fun co m L => fO co m L
def ZKf (p0 : Enm) (p1 : Enm) : PT 0 (Bool) := vw .go <| vw .go <| vw .go <| vw .go <| vw .go <| vw .go <| csg (decide (p0.name = p1.name) && (p0.opn == p1.opn)) tp 56 [vL Ze1 p0.items, vL Ze1 p1.items, .fn (.func 57) [] []] [] [] (Zcu p0.items p1.items (fun (z0 : Itm) (z1 : Itm) => Zch z0 z1)) (fun y => vB y) fun y1 => vw .go <| vw .go <| clg ((decide (p0.name = p1.name) && (p0.opn == p1.opn)) && y1) (ZOE p0.reserved p1.reserved) fun y2 => vw .go <| vw .go <| clg (((decide (p0.name = p1.name) && (p0.opn == p1.opn)) && y1) && y2) (ZFP p0.notes p1.notes) fun y3 => lr E49 (fun _ => []) ((((decide (p0.name = p1.name) && (p0.opn == p1.opn)) && y1) && y2) && y3)
def Zdr (p0 : Enm) (p1 : Enm) : Option (Bool) := (ZKf p0 p1).m
theorem ZRg (p0 : Enm) (p1 : Enm) : KC tp 18 [.agg ((Zan p0).map .d), .agg ((Zan p1).map .d)] (Zdr p0 p1) E49 := kc1 Tryz.func18 Tryz.ntmps18 tok [.tmp 4] fun C co y m Post L => fO co m L fun r g => ⟨fun y hy => Zbm (ZPk p0.items p1.items (fun (z0 : Itm) (z1 : Itm) => Zch z0 z1)) hy co g [] [] (lkS [(2, .fn (.func 57) [] [])]) (fun H' hg ho => (fun z0 z1 y hz => Zhr (ZQU z0 z1) hz)) (fun H => trivial), fun y1 y2 y3 => id⟩
def H61 (pf2 : Mth → Mth → Option Bool) : Cl := fun no l H θ => (∀ (z0 : Mth) (z1 : Mth) y, pf2 z0 z1 = some y → Zfq tp l no H (θ 2) [.agg ((Zdv z0).map .d), .agg ((Zdv z1).map .d)] (vB y))
section
variable {C : Cx} (p0 p1 : List Mth) (pf2 : Mth → Mth → Option Bool)
def ZBW : Nat → St := fun v1 => mkS [(1, vL Zdv p1), (2, .fn (.yield 2) [] []), (15, vL Zdv p0), (16, vN p0.length), (17, vN v1)] []
def ZLd : Unit → Nat × St := fun _ => (0, mkS [] [])
def Zz4 (v1 : Nat) : PT 0 (Lv (Nat) (Unit) (Bool)) := br (decide ((v1 : Int) < (p0.length : Int))) (ix p0 v1 fun e2 => vw .go <| ix p1 v1 fun e3 => vw .go <| vw .go <| vw .go <| cf tp 2 [.agg ((Zdv e2).map .d), .agg ((Zdv e3).map .d)] (pf2 e2 e3) (fun y => vB y) fun y4 => br (!y4) (lrt E49 (fun _ => []) false) (vs (wa v1 1) <| ln (ZBW p0 p1) (v1 + 1))) (lxe (ZLd) ())
def Zwv := fun (v1 : Nat) => (Zz4 p0 p1 pf2 v1).m
def ZKY : PT 0 (Bool) := lr E49 (fun _ => []) true
def ZHD : PT 0 (Bool) := vz (eqL p0) <| lc (ZBW p0 p1 0) ((Zaa (Zwv p0 p1 pf2) big 0).bind (Sum.elim (fun _ => (ZKY).m) some))
def ZKy : PT 0 (Bool) := vz (eqL p0) <| vz (eqL p1) <| br (!decide ((p0.length : Int) = (p1.length : Int))) (lr E49 (fun _ => []) false) (lc (mkS [(0, vL Zdv p0), (1, vL Zdv p1), (2, .fn (.yield 2) [] [])] []) ((ZHD p0 p1 pf2).m))
def Zcb (p0 : List Mth) (p1 : List Mth) (pf2 : Mth → Mth → Option Bool) : Option (Bool) := (ZKy p0 p1 pf2).m
theorem ZBX (co : CO C 0) (hT : (H61 pf2) C.no C.l C.H0 C.θ) : Kl 32 C (pa [0, 0, 1, 0, 1, 1] (Zac Tryz.f61)) [.tmp 6] 0 (ZBW p0 p1) (ZLd) E49 (fun _ => []) (Zwv p0 p1 pf2) := fun v1 _ m Q Post hQ L => eN co (lf1 [1, 2, 15, 16, 17]) nl hQ m L fun r g => ⟨fun e2 e3 => ⟨⟨fun y hy => hT _ _ y hy, by intro r; kernel_rfl, by intro r y; kernel_rfl⟩, fun y4 => ⟨id, id⟩⟩, id⟩
end
theorem ZPu (p0 : List Mth) (p1 : List Mth) (pf2 : Mth → Mth → Option Bool) : KO tp 61 0 [vL Zdv p0, vL Zdv p1, .fn (.yield 2) [] []] [] (H61 pf2) (Zcb p0 p1 pf2) E49 (fun _ => []) := kO Tryz.func61 Tryz.ntmps61 [.tmp 6] 0 (fun co hT m L => mK co 2 (lf1 [0, 1, 2]) m L fun r g => ⟨id, fun _ m L => sq (mK co 1 (lf1 [1, 2, 15, 16, 17]) m L fun r g _ m L => bk 0 (lo (lpF (ZBX p0 p1 pf2 co hT) ii m L (fun _ m => fO co m L))))⟩)
def ZGm (p0 : Mth) (p1 : Mth) : PT 0 (Bool) := vw .go <| vw .go <| vw .go <| vw .go <| vw .go <| vw .go <| vw .go <| vw .go <| vw .go <| vw .go <| clg (((decide (p0.name = p1.name) && decide (p0.inn = p1.inn)) && decide (p0.out = p1.out)) && decide (p0.shape = p1.shape)) (ZFP p0.notes p1.notes) fun y1 => lr E49 (fun _ => []) ((((decide (p0.name = p1.name) && decide (p0.inn = p1.inn)) && decide (p0.out = p1.out)) && decide (p0.shape = p1.shape)) && y1)
def ZbG (p0 : Mth) (p1 : Mth) : Option (Bool) := (ZGm p0 p1).m
theorem ZPG (p0 : Mth) (p1 : Mth) : KC tp 62 [.agg ((Zdv p0).map .d), .agg ((Zdv p1).map .d)] (ZbG p0 p1) E49 := kC Tryz.func62 Tryz.ntmps62 [.tmp 4] fun co m L => fO co m L
def ZIA (p0 : Svc) (p1 : Svc) : PT 0 (Bool) := vw .go <| vw .go <| vw .go <| vw .go <| csg (decide (p0.name = p1.name)) tp 61 [vL Zdv p0.methods, vL Zdv p1.methods, .fn (.func 62) [] []] [] [] (Zcb p0.methods p1.methods (fun (z0 : Mth) (z1 : Mth) => ZbG z0 z1)) (fun y => vB y) fun y1 => vw .go <| vw .go <| clg (decide (p0.name = p1.name) && y1) (ZFP p0.notes p1.notes) fun y2 => lr E49 (fun _ => []) ((decide (p0.name = p1.name) && y1) && y2)
def ZcP (p0 : Svc) (p1 : Svc) : Option (Bool) := (ZIA p0 p1).m
theorem ZQj (p0 : Svc) (p1 : Svc) : KC tp 21 [.agg ((ZaG p0).map .d), .agg ((ZaG p1).map .d)] (ZcP p0 p1) E49 := kc1 Tryz.func21 Tryz.ntmps21 tok [.tmp 4] fun C co y m Post L => fO co m L fun r g => ⟨fun y hy => Zbm (ZPu p0.methods p1.methods (fun (z0 : Mth) (z1 : Mth) => ZbG z0 z1)) hy co g [] [] (lkS [(2, .fn (.func 62) [] [])]) (fun H' hg ho => (fun z0 z1 y hz => Zhr (ZPG z0 z1) hz)) (fun H => trivial), fun y1 y2 => id⟩
abbrev ZJW : List (Bt × Bool) → AV := fun y => .mp (0, 0) 1
@[reducible] def ZIH : List (Bt × Bool) → List Blk := fun y => [⟨1, true, .m false (y.map eEt), 0, []⟩]
def Zze (p0 : Scm) : Nat × List (Bt × Bool) → St := fun (v1, r2) => mkS [(1, .ptr (1, 1) 0 0), (3, .mp (1, 10) 0), (12, vL ZaC p0.messages), (13, vN p0.messages.length), (14, vN v1)] [((1, 1), ⟨0, true, 26, 3, [vL ZaC p0.messages, vL Zan p0.enums, vL ZaG p0.services]⟩), ((1, 10), ⟨0, true, .m false (r2.map eEt), 0, []⟩)]
def ZyD (p0 : Scm) : List (Bt × Bool) → Nat × St := fun r4 => (0, mkS [(1, .ptr (1, 1) 0 0), (3, .mp (1, 10) 0)] [((1, 1), ⟨0, true, 26, 3, [vL ZaC p0.messages, vL Zan p0.enums, vL ZaG p0.services]⟩), ((1, 10), ⟨0, true, .m false (r4.map eEt), 0, []⟩)])
def Zig (p0 : Scm) (v1 : Nat) (r2 : List (Bt × Bool)) : PT 1 (Lv (Nat × List (Bt × Bool)) (List (Bt × Bool)) (List (Bt × Bool))) := br (decide ((v1 : Int) < (p0.messages.length : Int))) (ix p0.messages v1 fun e3 => vw .go <| vw .go <| mpu r2 e3.name (true : Bool) <| vs (wa v1 1) <| ln (Zze p0) (v1 + 1, ZgC e3.name (true : Bool) r2)) (lxe (ZyD p0) r2)
def Zik (p0 : Scm) := fun ((v1, r2) : Nat × List (Bt × Bool)) => (Zig p0 v1 r2).m
def Zza (p0 : Scm) : Nat × List (Bt × Bool) → St := fun (v5, r6) => mkS [(1, .ptr (1, 1) 0 0), (3, .mp (1, 10) 0), (23, vL Zan p0.enums), (24, vN p0.enums.length), (25, vN v5)] [((1, 1), ⟨0, true, 26, 3, [vL ZaC p0.messages, vL Zan p0.enums, vL ZaG p0.services]⟩), ((1, 10), ⟨0, true, .m false (r6.map eEt), 0, []⟩)]
def ZzF (p0 : Scm) : List (Bt × Bool) → Nat × St := fun r8 => (2, mkS [(1, .ptr (1, 1) 0 0), (3, .mp (1, 10) 0)] [((1, 1), ⟨0, true, 26, 3, [vL ZaC p0.messages, vL Zan p0.enums, vL ZaG p0.services]⟩), ((1, 10), ⟨0, true, .m false (r8.map eEt), 0, []⟩)])
def Zio (p0 : Scm) (v5 : Nat) (r6 : List (Bt × Bool)) : PT 1 (Lv (Nat × List (Bt × Bool)) (List (Bt × Bool)) (List (Bt × Bool))) := br (decide ((v5 : Int) < (p0.enums.length : Int))) (ix p0.enums v5 fun e7 => vw .go <| vw .go <| mpu r6 e7.name (true : Bool) <| vs (wa v5 1) <| ln (Zza p0) (v5 + 1, ZgC e7.name (true : Bool) r6)) (lxe (ZzF p0) r6)
def ZhV (p0 : Scm) := fun ((v5, r6) : Nat × List (Bt × Bool)) => (Zio p0 v5 r6).m
def Zyo (p0 : Scm) : Nat × List (Bt × Bool) → St := fun (v9, r10) => mkS [(3, .mp (1, 10) 0), (34, vL ZaG p0.services), (35, vN p0.services.length), (36, vN v9)] [((1, 10), ⟨0, true, .m false (r10.map eEt), 0, []⟩)]
def ZzX : List (Bt × Bool) → Nat × St := fun r12 => (4, mkS [(3, .mp (1, 10) 0)] [((1, 10), ⟨0, true, .m false (r12.map eEt), 0, []⟩)])
def Zif (p0 : Scm) (v9 : Nat) (r10 : List (Bt × Bool)) : PT 1 (Lv (Nat × List (Bt × Bool)) (List (Bt × Bool)) (List (Bt × Bool))) := br (decide ((v9 : Int) < (p0.services.length : Int))) (ix p0.services v9 fun e11 => vw .go <| vw .go <| mpu r10 e11.name (true : Bool) <| vs (wa v9 1) <| ln (Zyo p0) (v9 + 1, ZgC e11.name (true : Bool) r10)) (lxe (ZzX) r10)
def Zh7 (p0 : Scm) := fun ((v9, r10) : Nat × List (Bt × Bool)) => (Zif p0 v9 r10).m
def ZjS (r12 : List (Bt × Bool)) : PT 1 (List (Bt × Bool)) := vw .sep <| mvm 10 0 <| lr ZJW (ZIH) r12
def ZkP (p0 : Scm) (r8 : List (Bt × Bool)) : PT 1 (List (Bt × Bool)) := vw .go <| vz (eqL p0.services) <| lc (mkS [(3, .mp (1, 10) 0), (34, vL ZaG p0.services), (35, vN p0.services.length), (36, vI 0)] [((1, 10), ⟨0, true, .m false (r8.map eEt), 0, []⟩)]) ((Zaa (Zh7 p0) big (0, r8)).bind (Sum.elim (fun r12 => (ZjS r12).m) some))
def Zkf (p0 : Scm) (r4 : List (Bt × Bool)) : PT 1 (List (Bt × Bool)) := vw .go <| vz (eqL p0.enums) <| lc (mkS [(1, .ptr (1, 1) 0 0), (3, .mp (1, 10) 0), (23, vL Zan p0.enums), (24, vN p0.enums.length), (25, vI 0)] [((1, 1), ⟨0, true, 26, 3, [vL ZaC p0.messages, vL Zan p0.enums, vL ZaG p0.services]⟩), ((1, 10), ⟨0, true, .m false (r4.map eEt), 0, []⟩)]) ((Zaa (ZhV p0) big (0, r4)).bind (Sum.elim (fun r8 => (ZkP p0 r8).m) some))
def Zjw (p0 : Scm) : PT 1 (List (Bt × Bool)) := vw .go <| vz (eqL p0.messages) <| lc (mkS [(1, .ptr (1, 1) 0 0), (3, .mp (1, 10) 0), (12, vL ZaC p0.messages), (13, vN p0.messages.length), (14, vI 0)] [((1, 1), ⟨0, true, 26, 3, [vL ZaC p0.messages, vL Zan p0.enums, vL ZaG p0.services]⟩), ((1, 10), ⟨0, true, .m false (([] : List (Bt × Bool)).map eEt), 0, []⟩)]) ((Zaa (Zik p0) big (0, ([] : List (Bt × Bool)))).bind (Sum.elim (fun r4 => (Zkf p0 r4).m) some))
def Zk1 (p0 : Scm) : PT 1 (List (Bt × Bool)) := lc (mkS [(1, .ptr (1, 1) 0 0), (3, .mp (1, 10) 0)] [((1, 1), ⟨0, true, 26, 3, [vL ZaC p0.messages, vL Zan p0.enums, vL ZaG p0.services]⟩), ((1, 10), ⟨0, true, .m false (([] : List (Bt × Bool)).map eEt), 0, []⟩)]) ((Zjw p0).m)
def Zed (p0 : Scm) : Option (List (Bt × Bool)) := (Zk1 p0).m
theorem Zw3 {C : Cx} (co : CO C 1) (p0 : Scm) : Kl 45 C (pa [0, 0, 1, 0, 1, 1] (Zac Tryz.f12)) [.tmp 2] 1 (Zze p0) (ZyD p0) ZJW (ZIH) (Zik p0) := fun (v1, r2) _ m Q Post hQ L => eN co (lf2 [1, 3, 12, 13, 14] [((1, 1), false), ((1, 10), false)]) (lf2 [1, 3] [((1, 1), false), ((1, 10), false)]) hQ m L
theorem Zv8 {C : Cx} (co : CO C 1) (p0 : Scm) : Kl 45 C (pa [0, 0, 1, 0, 1, 1, 1] (Zac Tryz.f12)) [.tmp 2] 1 (Zza p0) (ZzF p0) ZJW (ZIH) (ZhV p0) := fun (v5, r6) _ m Q Post hQ L => eN co (lf2 [1, 3, 23, 24, 25] [((1, 1), false), ((1, 10), false)]) (lf2 [1, 3] [((1, 1), false), ((1, 10), false)]) hQ m L
theorem ZxC {C : Cx} (co : CO C 1) (p0 : Scm) : Kl 45 C (pa [0, 0, 1, 0, 1, 1, 1, 1] (Zac Tryz.f12)) [.tmp 2] 1 (Zyo p0) (ZzX) ZJW (ZIH) (Zh7 p0) := fun (v9, r10) _ m Q Post hQ L => eN co (lf2 [3, 34, 35, 36] [((1, 10), false)]) (lf2 [3] [((1, 10), false)]) hQ m L
theorem ZNb (p0 : Scm) : KO tp 12 1 [.agg ((Zj4 p0).map .d)] [⟨0, false, 0, 0, []⟩] ct (Zed p0) ZJW (ZIH) := kO Tryz.func12 Tryz.ntmps12 [.tmp 2] 1 (fun co hT m L => mK co 2 (lf2 [1, 3] [((1, 1), false), ((1, 10), false)]) m L fun r g _ m L => sq (mK co 1 (lf2 [1, 3, 12, 13, 14] [((1, 1), false), ((1, 10), false)]) m L fun r g _ m L => bk 0 (lo (lpF (Zw3 co p0) ii m L (fun r4 m => sq (mK co 1 (lf2 [1, 3, 23, 24, 25] [((1, 1), false), ((1, 10), false)]) m L fun r g _ m L => bk 2 (lo (lpF (Zv8 co p0) ii m L (fun r8 m => sq (mK co 1 (lf2 [3, 34, 35, 36] [((1, 10), false)]) m L fun r g _ m L => bk 4 (lo (lpF (ZxC co p0) ii m L (fun r12 m => fO co m L)))))))))))))
abbrev E12 : List (Bt × Bool) → AV := fun y => .d (.map false (y.map eEt))
section
variable {C : Cx} (co : CO C 0) (p0 : Scm)
abbrev Zr1 : Blk := ⟨0, true, 26, 3, [vL ZaC p0.messages, vL Zan p0.enums, vL ZaG p0.services]⟩
abbrev Zwi : List (Key × Bool) := [((1, 1), false), ((1, 10), false)]
abbrev ZE6 : List (Nat × AV) := [(1, .ptr (1, 1) 0 0), (3, .mp (1, 10) 0)]
def ZFh : Nat × List (Bt × Bool) → St := fun (v1, r2) => mkS [(1, .ptr (1, 1) 0 0), (3, .mp (1, 10) 0), (12, vL ZaC p0.messages), (13, vN p0.messages.length), (14, vN v1)] [((1, 1), (Zr1 p0)), ((1, 10), ⟨0, true, .m false (r2.map eEt), 0, []⟩)]
def ZGf : List (Bt × Bool) → Nat × St := fun r4 => (0, mkS ZE6 [((1, 1), (Zr1 p0)), ((1, 10), ⟨0, true, .m false (r4.map eEt), 0, []⟩)])
def ZqQ (v1 : Nat) (r2 : List (Bt × Bool)) : PT 0 (Lv (Nat × List (Bt × Bool)) (List (Bt × Bool)) (List (Bt × Bool))) := br (decide ((v1 : Int) < (p0.messages.length : Int))) (ix p0.messages v1 fun e3 => vw .go <| vw .go <| mpu r2 e3.name (true : Bool) <| vs (wa v1 1) <| ln (ZFh p0) (v1 + 1, ZgC e3.name (true : Bool) r2)) (lxe (ZGf p0) r2)
def ZhE := fun ((v1, r2) : Nat × List (Bt × Bool)) => (ZqQ p0 v1 r2).m
def ZAP : Nat × List (Bt × Bool) → St := fun (v5, r6) => mkS [(1, .ptr (1, 1) 0 0), (3, .mp (1, 10) 0), (23, vL Zan p0.enums), (24, vN p0.enums.length), (25, vN v5)] [((1, 1), (Zr1 p0)), ((1, 10), ⟨0, true, .m false (r6.map eEt), 0, []⟩)]
def ZH3 : List (Bt × Bool) → Nat × St := fun r8 => (2, mkS ZE6 [((1, 1), (Zr1 p0)), ((1, 10), ⟨0, true, .m false (r8.map eEt), 0, []⟩)])
def ZtZ (v5 : Nat) (r6 : List (Bt × Bool)) : PT 0 (Lv (Nat × List (Bt × Bool)) (List (Bt × Bool)) (List (Bt × Bool))) := br (decide ((v5 : Int) < (p0.enums.length : Int))) (ix p0.enums v5 fun e7 => vw .go <| vw .go <| mpu r6 e7.name (true : Bool) <| vs (wa v5 1) <| ln (ZAP p0) (v5 + 1, ZgC e7.name (true : Bool) r6)) (lxe (ZH3 p0) r6)
def ZhG := fun ((v5, r6) : Nat × List (Bt × Bool)) => (ZtZ p0 v5 r6).m
def ZDW : Nat × List (Bt × Bool) → St := fun (v9, r10) => mkS [(3, .mp (1, 10) 0), (34, vL ZaG p0.services), (35, vN p0.services.length), (36, vN v9)] [((1, 10), ⟨0, true, .m false (r10.map eEt), 0, []⟩)]
def ZJj : List (Bt × Bool) → Nat × St := fun r12 => (4, mkS [(3, .mp (1, 10) 0)] [((1, 10), ⟨0, true, .m false (r12.map eEt), 0, []⟩)])
def Zri (v9 : Nat) (r10 : List (Bt × Bool)) : PT 0 (Lv (Nat × List (Bt × Bool)) (List (Bt × Bool)) (List (Bt × Bool))) := br (decide ((v9 : Int) < (p0.services.length : Int))) (ix p0.services v9 fun e11 => vw .go <| vw .go <| mpu r10 e11.name (true : Bool) <| vs (wa v9 1) <| ln (ZDW p0) (v9 + 1, ZgC e11.name (true : Bool) r10)) (lxe (ZJj) r10)
def ZhJ := fun ((v9, r10) : Nat × List (Bt × Bool)) => (Zri p0 v9 r10).m
def ZFd (r12 : List (Bt × Bool)) : PT 0 (List (Bt × Bool)) := lr E12 (fun _ => []) r12
def ZBE (r8 : List (Bt × Bool)) : PT 0 (List (Bt × Bool)) := vw .go <| vz (eqL p0.services) <| lc (ZDW p0 (0, r8)) ((Zaa (ZhJ p0) big (0, r8)).bind (Sum.elim (fun r12 => (ZFd r12).m) some))
def ZCh (r4 : List (Bt × Bool)) : PT 0 (List (Bt × Bool)) := vw .go <| vz (eqL p0.enums) <| lc (ZAP p0 (0, r4)) ((Zaa (ZhG p0) big (0, r4)).bind (Sum.elim (fun r8 => (ZBE p0 r8).m) some))
def Zz7 : PT 0 (List (Bt × Bool)) := vw .go <| vz (eqL p0.messages) <| lc (ZFh p0 (0, ([] : List (Bt × Bool)))) ((Zaa (ZhE p0) big (0, ([] : List (Bt × Bool)))).bind (Sum.elim (fun r4 => (ZCh p0 r4).m) some))
def ZAs : PT 0 (List (Bt × Bool)) := lc (mkS ZE6 [((1, 1), (Zr1 p0)), ((1, 10), ⟨0, true, .m false (([] : List (Bt × Bool)).map eEt), 0, []⟩)]) ((Zz7 p0).m)
def ZdX (p0 : Scm) : Option (List (Bt × Bool)) := (ZAs p0).m
section
include co
theorem ZBx : Kl 45 C (pa [0, 0, 1, 0, 1, 1] (Zac Tryz.f12)) [.tmp 2] 0 (ZFh p0) (ZGf p0) E12 (fun _ => []) (ZhE p0) := fun (v1, r2) _ m Q Post hQ L => eN co (lf2 [1, 3, 12, 13, 14] Zwi) (lf2 [1, 3] Zwi) hQ m L
theorem ZBU : Kl 45 C (pa [0, 0, 1, 0, 1, 1, 1] (Zac Tryz.f12)) [.tmp 2] 0 (ZAP p0) (ZH3 p0) E12 (fun _ => []) (ZhG p0) := fun (v5, r6) _ m Q Post hQ L => eN co (lf2 [1, 3, 23, 24, 25] Zwi) (lf2 [1, 3] Zwi) hQ m L
theorem ZAa : Kl 45 C (pa [0, 0, 1, 0, 1, 1, 1, 1] (Zac Tryz.f12)) [.tmp 2] 0 (ZDW p0) (ZJj) E12 (fun _ => []) (ZhJ p0) := fun (v9, r10) _ m Q Post hQ L => eN co (lf2 [3, 34, 35, 36] [((1, 10), false)]) (lf2 [3] [((1, 10), false)]) hQ m L
end
end
theorem ZNW (p0 : Scm) : KC tp 12 [.agg ((Zj4 p0).map .d)] (ZdX p0) E12 := kC Tryz.func12 Tryz.ntmps12 [.tmp 2] fun co m L => mK co 2 (lf2 [1, 3] [((1, 1), false), ((1, 10), false)]) m L fun r g _ m L => sq (mK co 1 (lf2 [1, 3, 12, 13, 14] [((1, 1), false), ((1, 10), false)]) m L fun r g _ m L => bk 0 (lo (lpF (ZBx co p0) ii m L (fun r4 m => sq (mK co 1 (lf2 [1, 3, 23, 24, 25] [((1, 1), false), ((1, 10), false)]) m L fun r g _ m L => bk 2 (lo (lpF (ZBU co p0) ii m L (fun r8 m => sq (mK co 1 (lf2 [3, 34, 35, 36] [((1, 10), false)]) m L fun r g _ m L => bk 4 (lo (lpF (ZAa co p0) ii m L (fun r12 m => fO co m L))))))))))))
abbrev E46 : List Msg → AV := fun y => .ref (0, 0) 1 0 y.length
@[reducible] def G46 : List Msg → List Blk := fun y => [u48 y]
def ZCD (p0 : List Msg) : PT 1 (List Msg) := al ZaC p0 false fun b1 => br b1 (vw .sep <| vw (.ads 2 2 48 5) <| mv 2 0 ([] : List Msg) <| lr E46 (G46) ([] : List Msg)) (a0 p0 <| mv 7 0 p0 <| lr E46 (G46) p0)
def Zbh (p0 : List Msg) : Option (List Msg) := (ZCD p0).m
theorem ZOj (p0 : List Msg) : KO tp 46 1 [vL ZaC p0] [⟨0, false, 0, 0, []⟩] ct (Zbh p0) E46 (G46) := kO Tryz.func46 Tryz.ntmps46 [.tmp 2] 1 (fun co hT m L => fO co m L)
abbrev E47 : Int → AV := fun y => vI y
def H47 (pf1 : Msg → Option Bool) : Cl := fun no l H θ => (∀ (z0 : Msg) y, pf1 z0 = some y → Zfq tp l no H (θ 1) [.agg ((ZaC z0).map .d)] (vB y))
section
variable {C : Cx} (p0 : List Msg) (pf1 : Msg → Option Bool)
def ZCX : Nat → St := fun v1 => mkS [(0, vL ZaC p0), (1, .fn (.yield 1) [] []), (7, vN p0.length), (8, vN v1)] []
def ZGT : Unit → Nat × St := fun _ => (0, mkS [] [])
def ZCp (v1 : Nat) : PT 0 (Lv (Nat) (Unit) (Int)) := br (decide ((v1 : Int) < (p0.length : Int))) (ix p0 v1 fun e2 => cf tp 1 [.agg ((ZaC e2).map .d)] (pf1 e2) (fun y => vB y) fun y3 => br y3 (lrt E47 (fun _ => []) (v1 : Int)) (vs (wa v1 1) <| ln (ZCX p0) (v1 + 1))) (lxe (ZGT) ())
def ZwF := fun (v1 : Nat) => (ZCp p0 pf1 v1).m
def ZJN : PT 0 (Int) := lr E47 (fun _ => []) (-1)
def ZHt : PT 0 (Int) := vz (eqL p0) <| lc (ZCX p0 0) ((Zaa (ZwF p0 pf1) big 0).bind (Sum.elim (fun _ => (ZJN).m) some))
def ZF3 : PT 0 (Int) := lc (mkS [(0, vL ZaC p0), (1, .fn (.yield 1) [] [])] []) ((ZHt p0 pf1).m)
def ZbO (p0 : List Msg) (pf1 : Msg → Option Bool) : Option (Int) := (ZF3 p0 pf1).m
theorem ZDN (co : CO C 0) (hT : (H47 pf1) C.no C.l C.H0 C.θ) : Kl 19 C (pa [0, 0, 1, 0, 1] (Zac Tryz.f47)) [.tmp 4] 0 (ZCX p0) (ZGT) E47 (fun _ => []) (ZwF p0 pf1) := fun v1 _ m Q Post hQ L => eN co (lf1 [0, 1, 7, 8]) nl hQ m L fun r g => ⟨fun e2 => ⟨⟨fun y hy => hT _ y hy, by intro r; kernel_rfl, by intro r y; kernel_rfl⟩, fun y3 => ⟨id, id⟩⟩, id⟩
end
theorem ZQT (p0 : List Msg) (pf1 : Msg → Option Bool) : KO tp 47 0 [vL ZaC p0, .fn (.yield 1) [] []] [] (H47 pf1) (ZbO p0 pf1) E47 (fun _ => []) := kO Tryz.func47 Tryz.ntmps47 [.tmp 4] 0 (fun co hT m L => mK co 1 (lf1 [0, 1]) m L fun r g _ m L => sq (mK co 1 (lf1 [0, 1, 7, 8]) m L fun r g _ m L => bk 0 (lo (lpF (ZDN p0 pf1 co hT) ii m L (fun _ m => fO co m L)))))
@[reducible] def G48 (w1 : Msg) : Bool → List Blk := fun y => [⟨0, true, 49, 1, [.fn (.func 14) [] []]⟩, ⟨0, true, 48, 5, [vS w1.name, vL Zdb w1.fields, vL Zd0 w1.reserved, vL Zal w1.gone, vL eNt w1.notes]⟩]
def ZNe (p0 : Msg) (w1 : Msg) : PT 2 (Bool) := vw .go <| vw .go <| cl (ZMQ p0) fun y1 => vw .go <| vw .go <| cl (ZMQ w1) fun y2 => lr E49 (G48 w1) (decide (y1 = y2))
def Zbj (p0 : Msg) (w1 : Msg) : Option (Bool) := (ZNe p0 w1).m
theorem ZRm (p0 : Msg) (w1 : Msg) : KO tp 48 2 [.agg ((ZaC p0).map .d), .ptr (0, 0) 0 0, .ptr (0, 1) 0 0] [⟨0, true, 49, 1, [.fn (.func 14) [] []]⟩, ⟨0, true, 48, 5, [vS w1.name, vL Zdb w1.fields, vL Zd0 w1.reserved, vL Zal w1.gone, vL eNt w1.notes]⟩] ct (Zbj p0 w1) E49 (G48 w1) := kO Tryz.func48 Tryz.ntmps48 [.tmp 4] 2 (fun co hT m L => fO co m L)
abbrev E13 : Bool × List Msg → AV := fun y => .tup [.ref (0, 0) 1 0 y.2.length, vB y.1]
@[reducible] def G13 : Bool × List Msg → List Blk := fun y => [u48 y.2]
section
variable {C : Cx} (p0 p1 : List Msg) (p2 : List (Bt × Bool)) (y1 : List Msg)
abbrev ZuA := PT 1 (Bool × List Msg)
abbrev ZuV : Blk := ⟨0, true, 49, 1, [.fn (.func 14) [] []]⟩
abbrev ZEz (t : List (Nat × AV)) : List (Nat × AV) := (0, vL ZaC p0) :: (1, vL ZaC p1) :: (2, .d (.map false (p2.map eEt))) :: (4, .fn (.func 15) [] []) :: t
def ZpD : List Msg × Nat → St := fun (r2, v3) => mkS [(0, vL ZaC p0), (2, .d (.map false (p2.map eEt))), (4, .fn (.func 15) [] []), (8, .ptr (1, 8) 0 0), (12, .ref (1, 17) 0 0 r2.length), (18, vL ZaC p1), (19, vN p1.length), (20, vN v3)] [((1, 8), ZuV), ((1, 17), o48 r2)]
def ZJn : List Msg → Nat × St := fun r11 => (0, mkS [(12, .ref (1, 17) 0 0 r11.length)] [((1, 17), o48 r11)])
def ZEH (r2 : List Msg) (v3 : Nat) : PT 1 (Lv (List Msg × Nat) (List Msg) (Bool × List Msg)) := br (decide ((v3 : Int) < (p1.length : Int))) (ix p1 v3 fun e4 => vw .go <| cs tp 47 [vL ZaC p0, .fn (.func 48) [] [.ptr (1, 8) 0 0, .ptr (1, 14) 1 0]] [(1, 8), (1, 14)] [((1, 8), ⟨0, true, 49, 1, [.fn (.func 14) [] []]⟩), ((1, 14), ⟨1, true, 48, 5, [vS e4.name, vL Zdb e4.fields, vL Zd0 e4.reserved, vL Zal e4.gone, vL eNt e4.notes]⟩)] (ZbO p0 (fun (z0 : Msg) => Zbj z0 e4)) (fun y => vI y) fun y5 => ixg (decide ((0 : Int) ≤ y5)) p0 y5 fun e6 => vw .go <| clg (decide ((0 : Int) ≤ y5)) (ZPH e6 e4) fun y7 => br (decide ((0 : Int) ≤ y5) && (!y7)) (br (decide ((0 : Int) ≤ y5) && (!y7)) (vw .sep <| vw (.ads 10 10 48 5) <| mv 10 0 ([] : List Msg) <| lrt E13 (G13) (false, ([] : List Msg))) (br (decide (y5 < (0 : Int))) (vw .go <| vw .sep <| ap r2 (e4 : Msg) <| vs (wa v3 1) <| vz (fl (r2 ++ [e4])) <| ln (ZpD p0 p1 p2) (r2 ++ [e4], v3 + 1)) (vs (wa v3 1) <| vz (fl r2) <| ln (ZpD p0 p1 p2) (r2, v3 + 1)))) (vw .go <| vw .go <| clg (decide (y5 < (0 : Int))) (ZMQ e4) fun y8 => mlg (decide (y5 < (0 : Int))) p2 y8 fun m9 b10 => br (decide (y5 < (0 : Int)) && m9) (vw .sep <| vw (.ads 10 10 48 5) <| mv 10 0 ([] : List Msg) <| lrt E13 (G13) (false, ([] : List Msg))) (br (decide (y5 < (0 : Int))) (vw .go <| vw .sep <| ap r2 (e4 : Msg) <| vs (wa v3 1) <| vz (fl (r2 ++ [e4])) <| ln (ZpD p0 p1 p2) (r2 ++ [e4], v3 + 1)) (vs (wa v3 1) <| vz (fl r2) <| ln (ZpD p0 p1 p2) (r2, v3 + 1))))) (vz (fl r2) <| lxe (ZJn) r2)
def ZoN := fun ((r2, v3) : List Msg × Nat) => (ZEH p0 p1 p2 r2 v3).m
def ZM4 (r11 : List Msg) : ZuA := vw .sep <| mv 17 0 r11 <| lr E13 (G13) (true, r11)
def ZBe : ZuA := vz (eqL p1) <| vz (fl y1) <| lc (ZpD p0 p1 p2 (y1, 0)) ((Zaa (ZoN p0 p1 p2) big (y1, 0)).bind (Sum.elim (fun r11 => (ZM4 r11).m) some))
def ZEF : ZuA := vz (fl y1) <| lc (mkS (ZEz p0 p1 p2 [(8, .ptr (1, 8) 0 0), (12, .ref (1, 17) 0 0 y1.length)]) [((1, 8), ZuV), ((1, 17), o48 y1)]) ((ZBe p0 p1 p2 y1).m)
def ZKI : ZuA := lc (mkS (ZEz p0 p1 p2 [(8, .ptr (1, 8) 0 0), (16, vL ZaC p0)]) [((1, 8), ZuV)]) ((Zbh p0).bind fun y1 => (ZEF p0 p1 p2 y1).m)
def ZK1 : ZuA := lc (mkS (ZEz p0 p1 p2 [(8, .ptr (1, 8) 0 0)]) [((1, 8), ZuV)]) ((ZKI p0 p1 p2).m)
def ZbB (p0 : List Msg) (p1 : List Msg) (p2 : List (Bt × Bool)) : Option (Bool × List Msg) := (ZK1 p0 p1 p2).m
theorem ZFp (co : CO C 1) : Kl 58 C (pa [0, 0, 1, 0, 1, 1] (Zac Tryz.f13)) [.tmp 10, .tmp 11] 1 (ZpD p0 p1 p2) (ZJn) E13 (G13) (ZoN p0 p1 p2) := fun (r2, v3) _ m Q Post hQ L => eN co (lf2 [0, 2, 4, 8, 12, 18, 19, 20] [((1, 8), false), ((1, 17), true)]) (lf2 [12] [((1, 17), true)]) hQ m L fun r g => ⟨fun e4 => ⟨fun y hy => Zbm (ZQT p0 (fun (z0 : Msg) => Zbj z0 e4)) hy co g [] [((1, 8), ⟨0, true, 49, 1, [.fn (.func 14) [] []]⟩), ((1, 14), ⟨1, true, 48, 5, [vS e4.name, vL Zdb e4.fields, vL Zd0 e4.reserved, vL Zal e4.gone, vL eNt e4.notes]⟩)] (lkS [(1, .fn (.func 48) [] [.ptr (r.κ (1, 8)) (r.γ (1, 8) + 0) 0, .ptr (r.κ (1, 14)) (r.γ (1, 14) + 1) 0])]) (fun H' hg ho => (fun z0 y hz => Ze5 (ZRm z0 e4) hz co g [((1, 8), ⟨0, true, 49, 1, [.fn (.func 14) [] []]⟩), ((1, 14), ⟨1, true, 48, 5, [vS e4.name, vL Zdb e4.fields, vL Zd0 e4.reserved, vL Zal e4.gone, vL eNt e4.notes]⟩)] [] hg (by simp) (fun _ => .top) (fun _ _ => trivial) (fun l H => ⟨fun _ => ⟨rfl, by kernel_rfl⟩, by kernel_rfl, ⟨fun _ => ⟨rfl, by kernel_rfl⟩, by kernel_rfl, trivial⟩⟩))) (fun H => trivial), fun y5 e6 y7 => ⟨⟨id, ⟨id, id⟩⟩, fun y8 m9 b10 => ⟨id, ⟨id, id⟩⟩⟩⟩, id⟩
end
theorem ZQd (p0 : List Msg) (p1 : List Msg) (p2 : List (Bt × Bool)) : KO tp 13 1 [vL ZaC p0, vL ZaC p1, .d (.map false (p2.map eEt)), .fn (.func 14) [] [], .fn (.func 15) [] []] [⟨0, false, 0, 0, []⟩] ct (ZbB p0 p1 p2) E13 (G13) := kO Tryz.func13 Tryz.ntmps13 [.tmp 10, .tmp 11] 1 (fun co hT m L => mK co 1 (lf2 [0, 1, 2, 4, 8] [((1, 8), false)]) m L fun r g _ m L => sq (rg (pR co 1 (lf2 [0, 1, 2, 4, 8, 16] [((1, 8), false)]) m L fun r g _ m L => c6 co m (ZOj p0) [((1, 17), ⟨0, false, 0, 0, []⟩)] [] (fun z => .ref (1, 17) 1 0 z.length) (fun z => [((1, 17), u48 z)]) [] fun y1 m => eR co (lf2 [0, 1, 2, 4, 8, 12] [((1, 8), false), ((1, 17), true)]) m L fun r g _ m L => sq (mK co 1 (lf2 [0, 2, 4, 8, 12, 18, 19, 20] [((1, 8), false), ((1, 17), true)]) m L fun r g _ m L => bk 0 (lo (lpF (ZFp p0 p1 p2 co) ii m L (fun r11 m => fO co m L)))))))
abbrev E36 : List Enm → AV := fun y => .ref (0, 0) 1 0 y.length
@[reducible] def G36 : List Enm → List Blk := fun y => [u55 y]
def ZxU (p0 : List Enm) : PT 1 (List Enm) := al Zan p0 false fun b1 => br b1 (vw .sep <| vw (.ads 2 2 55 5) <| mv 2 0 ([] : List Enm) <| lr E36 (G36) ([] : List Enm)) (a0 p0 <| mv 7 0 p0 <| lr E36 (G36) p0)
def Zbd (p0 : List Enm) : Option (List Enm) := (ZxU p0).m
theorem ZNv (p0 : List Enm) : KO tp 36 1 [vL Zan p0] [⟨0, false, 0, 0, []⟩] ct (Zbd p0) E36 (G36) := kO Tryz.func36 Tryz.ntmps36 [.tmp 2] 1 (fun co hT m L => fO co m L)
def H54 (pf1 : Enm → Option Bool) : Cl := fun no l H θ => (∀ (z0 : Enm) y, pf1 z0 = some y → Zfq tp l no H (θ 1) [.agg ((Zan z0).map .d)] (vB y))
section
variable {C : Cx} (p0 : List Enm) (pf1 : Enm → Option Bool)
def ZAn : Nat → St := fun v1 => mkS [(0, vL Zan p0), (1, .fn (.yield 1) [] []), (7, vN p0.length), (8, vN v1)] []
def ZGw : Unit → Nat × St := fun _ => (0, mkS [] [])
def ZtL (v1 : Nat) : PT 0 (Lv (Nat) (Unit) (Int)) := br (decide ((v1 : Int) < (p0.length : Int))) (ix p0 v1 fun e2 => cf tp 1 [.agg ((Zan e2).map .d)] (pf1 e2) (fun y => vB y) fun y3 => br y3 (lrt E47 (fun _ => []) (v1 : Int)) (vs (wa v1 1) <| ln (ZAn p0) (v1 + 1))) (lxe (ZGw) ())
def ZpI := fun (v1 : Nat) => (ZtL p0 pf1 v1).m
def ZBy : PT 0 (Int) := lr E47 (fun _ => []) (-1)
def ZAv : PT 0 (Int) := vz (eqL p0) <| lc (ZAn p0 0) ((Zaa (ZpI p0 pf1) big 0).bind (Sum.elim (fun _ => (ZBy).m) some))
def Zz9 : PT 0 (Int) := lc (mkS [(0, vL Zan p0), (1, .fn (.yield 1) [] [])] []) ((ZAv p0 pf1).m)
def Za5 (p0 : List Enm) (pf1 : Enm → Option Bool) : Option (Int) := (Zz9 p0 pf1).m
theorem ZEx (co : CO C 0) (hT : (H54 pf1) C.no C.l C.H0 C.θ) : Kl 19 C (pa [0, 0, 1, 0, 1] (Zac Tryz.f54)) [.tmp 4] 0 (ZAn p0) (ZGw) E47 (fun _ => []) (ZpI p0 pf1) := fun v1 _ m Q Post hQ L => eN co (lf1 [0, 1, 7, 8]) nl hQ m L fun r g => ⟨fun e2 => ⟨⟨fun y hy => hT _ y hy, by intro r; kernel_rfl, by intro r y; kernel_rfl⟩, fun y3 => ⟨id, id⟩⟩, id⟩
end
theorem ZOn (p0 : List Enm) (pf1 : Enm → Option Bool) : KO tp 54 0 [vL Zan p0, .fn (.yield 1) [] []] [] (H54 pf1) (Za5 p0 pf1) E47 (fun _ => []) := kO Tryz.func54 Tryz.ntmps54 [.tmp 4] 0 (fun co hT m L => mK co 1 (lf1 [0, 1]) m L fun r g _ m L => sq (mK co 1 (lf1 [0, 1, 7, 8]) m L fun r g _ m L => bk 0 (lo (lpF (ZEx p0 pf1 co hT) ii m L (fun _ m => fO co m L)))))
@[reducible] def G55 (w1 : Enm) : Bool → List Blk := fun y => [⟨0, true, 56, 1, [.fn (.func 17) [] []]⟩, ⟨0, true, 55, 5, [vS w1.name, vB w1.opn, vL Ze1 w1.items, vL Zd0 w1.reserved, vL eNt w1.notes]⟩]
def ZMc (p0 : Enm) (w1 : Enm) : PT 2 (Bool) := vw .go <| vw .go <| cl (ZNf p0) fun y1 => vw .go <| vw .go <| cl (ZNf w1) fun y2 => lr E49 (G55 w1) (decide (y1 = y2))
def ZbY (p0 : Enm) (w1 : Enm) : Option (Bool) := (ZMc p0 w1).m
theorem ZQq (p0 : Enm) (w1 : Enm) : KO tp 55 2 [.agg ((Zan p0).map .d), .ptr (0, 0) 0 0, .ptr (0, 1) 0 0] [⟨0, true, 56, 1, [.fn (.func 17) [] []]⟩, ⟨0, true, 55, 5, [vS w1.name, vB w1.opn, vL Ze1 w1.items, vL Zd0 w1.reserved, vL eNt w1.notes]⟩] ct (ZbY p0 w1) E49 (G55 w1) := kO Tryz.func55 Tryz.ntmps55 [.tmp 4] 2 (fun co hT m L => fO co m L)
abbrev E16 : Bool × List Enm → AV := fun y => .tup [.ref (0, 0) 1 0 y.2.length, vB y.1]
@[reducible] def G16 : Bool × List Enm → List Blk := fun y => [u55 y.2]
section
variable {C : Cx} (p0 p1 : List Enm) (p2 : List (Bt × Bool)) (y1 : List Enm)
abbrev Zrn := PT 1 (Bool × List Enm)
abbrev Zxa : Blk := ⟨0, true, 56, 1, [.fn (.func 17) [] []]⟩
abbrev ZAG (t : List (Nat × AV)) : List (Nat × AV) := (0, vL Zan p0) :: (1, vL Zan p1) :: (2, .d (.map false (p2.map eEt))) :: (4, .fn (.func 18) [] []) :: t
def ZpR : List Enm × Nat → St := fun (r2, v3) => mkS [(0, vL Zan p0), (2, .d (.map false (p2.map eEt))), (4, .fn (.func 18) [] []), (8, .ptr (1, 8) 0 0), (12, .ref (1, 17) 0 0 r2.length), (18, vL Zan p1), (19, vN p1.length), (20, vN v3)] [((1, 8), Zxa), ((1, 17), o55 r2)]
def ZLi : List Enm → Nat × St := fun r11 => (0, mkS [(12, .ref (1, 17) 0 0 r11.length)] [((1, 17), o55 r11)])
def ZEy (r2 : List Enm) (v3 : Nat) : PT 1 (Lv (List Enm × Nat) (List Enm) (Bool × List Enm)) := br (decide ((v3 : Int) < (p1.length : Int))) (ix p1 v3 fun e4 => vw .go <| cs tp 54 [vL Zan p0, .fn (.func 55) [] [.ptr (1, 8) 0 0, .ptr (1, 14) 1 0]] [(1, 8), (1, 14)] [((1, 8), ⟨0, true, 56, 1, [.fn (.func 17) [] []]⟩), ((1, 14), ⟨1, true, 55, 5, [vS e4.name, vB e4.opn, vL Ze1 e4.items, vL Zd0 e4.reserved, vL eNt e4.notes]⟩)] (Za5 p0 (fun (z0 : Enm) => ZbY z0 e4)) (fun y => vI y) fun y5 => ixg (decide ((0 : Int) ≤ y5)) p0 y5 fun e6 => vw .go <| clg (decide ((0 : Int) ≤ y5)) (ZRg e6 e4) fun y7 => br (decide ((0 : Int) ≤ y5) && (!y7)) (br (decide ((0 : Int) ≤ y5) && (!y7)) (vw .sep <| vw (.ads 10 10 55 5) <| mv 10 0 ([] : List Enm) <| lrt E16 (G16) (false, ([] : List Enm))) (br (decide (y5 < (0 : Int))) (vw .go <| vw .sep <| ap r2 (e4 : Enm) <| vs (wa v3 1) <| vz (fl (r2 ++ [e4])) <| ln (ZpR p0 p1 p2) (r2 ++ [e4], v3 + 1)) (vs (wa v3 1) <| vz (fl r2) <| ln (ZpR p0 p1 p2) (r2, v3 + 1)))) (vw .go <| vw .go <| clg (decide (y5 < (0 : Int))) (ZNf e4) fun y8 => mlg (decide (y5 < (0 : Int))) p2 y8 fun m9 b10 => br (decide (y5 < (0 : Int)) && m9) (vw .sep <| vw (.ads 10 10 55 5) <| mv 10 0 ([] : List Enm) <| lrt E16 (G16) (false, ([] : List Enm))) (br (decide (y5 < (0 : Int))) (vw .go <| vw .sep <| ap r2 (e4 : Enm) <| vs (wa v3 1) <| vz (fl (r2 ++ [e4])) <| ln (ZpR p0 p1 p2) (r2 ++ [e4], v3 + 1)) (vs (wa v3 1) <| vz (fl r2) <| ln (ZpR p0 p1 p2) (r2, v3 + 1))))) (vz (fl r2) <| lxe (ZLi) r2)
def Zpb := fun ((r2, v3) : List Enm × Nat) => (ZEy p0 p1 p2 r2 v3).m
def ZMj (r11 : List Enm) : Zrn := vw .sep <| mv 17 0 r11 <| lr E16 (G16) (true, r11)
def ZAp : Zrn := vz (eqL p1) <| vz (fl y1) <| lc (ZpR p0 p1 p2 (y1, 0)) ((Zaa (Zpb p0 p1 p2) big (y1, 0)).bind (Sum.elim (fun r11 => (ZMj r11).m) some))
def ZB3 : Zrn := vz (fl y1) <| lc (mkS (ZAG p0 p1 p2 [(8, .ptr (1, 8) 0 0), (12, .ref (1, 17) 0 0 y1.length)]) [((1, 8), Zxa), ((1, 17), o55 y1)]) ((ZAp p0 p1 p2 y1).m)
def ZJb : Zrn := lc (mkS (ZAG p0 p1 p2 [(8, .ptr (1, 8) 0 0), (16, vL Zan p0)]) [((1, 8), Zxa)]) ((Zbd p0).bind fun y1 => (ZB3 p0 p1 p2 y1).m)
def ZKD : Zrn := lc (mkS (ZAG p0 p1 p2 [(8, .ptr (1, 8) 0 0)]) [((1, 8), Zxa)]) ((ZJb p0 p1 p2).m)
def Zcn (p0 : List Enm) (p1 : List Enm) (p2 : List (Bt × Bool)) : Option (Bool × List Enm) := (ZKD p0 p1 p2).m
theorem ZBf (co : CO C 1) : Kl 58 C (pa [0, 0, 1, 0, 1, 1] (Zac Tryz.f16)) [.tmp 10, .tmp 11] 1 (ZpR p0 p1 p2) (ZLi) E16 (G16) (Zpb p0 p1 p2) := fun (r2, v3) _ m Q Post hQ L => eN co (lf2 [0, 2, 4, 8, 12, 18, 19, 20] [((1, 8), false), ((1, 17), true)]) (lf2 [12] [((1, 17), true)]) hQ m L fun r g => ⟨fun e4 => ⟨fun y hy => Zbm (ZOn p0 (fun (z0 : Enm) => ZbY z0 e4)) hy co g [] [((1, 8), ⟨0, true, 56, 1, [.fn (.func 17) [] []]⟩), ((1, 14), ⟨1, true, 55, 5, [vS e4.name, vB e4.opn, vL Ze1 e4.items, vL Zd0 e4.reserved, vL eNt e4.notes]⟩)] (lkS [(1, .fn (.func 55) [] [.ptr (r.κ (1, 8)) (r.γ (1, 8) + 0) 0, .ptr (r.κ (1, 14)) (r.γ (1, 14) + 1) 0])]) (fun H' hg ho => (fun z0 y hz => Ze5 (ZQq z0 e4) hz co g [((1, 8), ⟨0, true, 56, 1, [.fn (.func 17) [] []]⟩), ((1, 14), ⟨1, true, 55, 5, [vS e4.name, vB e4.opn, vL Ze1 e4.items, vL Zd0 e4.reserved, vL eNt e4.notes]⟩)] [] hg (by simp) (fun _ => .top) (fun _ _ => trivial) (fun l H => ⟨fun _ => ⟨rfl, by kernel_rfl⟩, by kernel_rfl, ⟨fun _ => ⟨rfl, by kernel_rfl⟩, by kernel_rfl, trivial⟩⟩))) (fun H => trivial), fun y5 e6 y7 => ⟨⟨id, ⟨id, id⟩⟩, fun y8 m9 b10 => ⟨id, ⟨id, id⟩⟩⟩⟩, id⟩
end
theorem ZPE (p0 : List Enm) (p1 : List Enm) (p2 : List (Bt × Bool)) : KO tp 16 1 [vL Zan p0, vL Zan p1, .d (.map false (p2.map eEt)), .fn (.func 17) [] [], .fn (.func 18) [] []] [⟨0, false, 0, 0, []⟩] ct (Zcn p0 p1 p2) E16 (G16) := kO Tryz.func16 Tryz.ntmps16 [.tmp 10, .tmp 11] 1 (fun co hT m L => mK co 1 (lf2 [0, 1, 2, 4, 8] [((1, 8), false)]) m L fun r g _ m L => sq (rg (pR co 1 (lf2 [0, 1, 2, 4, 8, 16] [((1, 8), false)]) m L fun r g _ m L => c6 co m (ZNv p0) [((1, 17), ⟨0, false, 0, 0, []⟩)] [] (fun z => .ref (1, 17) 1 0 z.length) (fun z => [((1, 17), u55 z)]) [] fun y1 m => eR co (lf2 [0, 1, 2, 4, 8, 12] [((1, 8), false), ((1, 17), true)]) m L fun r g _ m L => sq (mK co 1 (lf2 [0, 2, 4, 8, 12, 18, 19, 20] [((1, 8), false), ((1, 17), true)]) m L fun r g _ m L => bk 0 (lo (lpF (ZBf p0 p1 p2 co) ii m L (fun r11 m => fO co m L)))))))
abbrev E58 : List Svc → AV := fun y => .ref (0, 0) 1 0 y.length
@[reducible] def G58 : List Svc → List Blk := fun y => [u62 y]
def ZDu (p0 : List Svc) : PT 1 (List Svc) := al ZaG p0 false fun b1 => br b1 (vw .sep <| vw (.ads 2 2 62 3) <| mv 2 0 ([] : List Svc) <| lr E58 (G58) ([] : List Svc)) (a0 p0 <| mv 7 0 p0 <| lr E58 (G58) p0)
def Zbg (p0 : List Svc) : Option (List Svc) := (ZDu p0).m
theorem ZOx (p0 : List Svc) : KO tp 58 1 [vL ZaG p0] [⟨0, false, 0, 0, []⟩] ct (Zbg p0) E58 (G58) := kO Tryz.func58 Tryz.ntmps58 [.tmp 2] 1 (fun co hT m L => fO co m L)
def H59 (pf1 : Svc → Option Bool) : Cl := fun no l H θ => (∀ (z0 : Svc) y, pf1 z0 = some y → Zfq tp l no H (θ 1) [.agg ((ZaG z0).map .d)] (vB y))
section
variable {C : Cx} (p0 : List Svc) (pf1 : Svc → Option Bool)
def ZCP : Nat → St := fun v1 => mkS [(0, vL ZaG p0), (1, .fn (.yield 1) [] []), (7, vN p0.length), (8, vN v1)] []
def ZLz : Unit → Nat × St := fun _ => (0, mkS [] [])
def ZEX (v1 : Nat) : PT 0 (Lv (Nat) (Unit) (Int)) := br (decide ((v1 : Int) < (p0.length : Int))) (ix p0 v1 fun e2 => cf tp 1 [.agg ((ZaG e2).map .d)] (pf1 e2) (fun y => vB y) fun y3 => br y3 (lrt E47 (fun _ => []) (v1 : Int)) (vs (wa v1 1) <| ln (ZCP p0) (v1 + 1))) (lxe (ZLz) ())
def Zvo := fun (v1 : Nat) => (ZEX p0 pf1 v1).m
def ZIu : PT 0 (Int) := lr E47 (fun _ => []) (-1)
def ZK8 : PT 0 (Int) := vz (eqL p0) <| lc (ZCP p0 0) ((Zaa (Zvo p0 pf1) big 0).bind (Sum.elim (fun _ => (ZIu).m) some))
def ZIe : PT 0 (Int) := lc (mkS [(0, vL ZaG p0), (1, .fn (.yield 1) [] [])] []) ((ZK8 p0 pf1).m)
def ZbX (p0 : List Svc) (pf1 : Svc → Option Bool) : Option (Int) := (ZIe p0 pf1).m
theorem ZCU (co : CO C 0) (hT : (H59 pf1) C.no C.l C.H0 C.θ) : Kl 19 C (pa [0, 0, 1, 0, 1] (Zac Tryz.f59)) [.tmp 4] 0 (ZCP p0) (ZLz) E47 (fun _ => []) (Zvo p0 pf1) := fun v1 _ m Q Post hQ L => eN co (lf1 [0, 1, 7, 8]) nl hQ m L fun r g => ⟨fun e2 => ⟨⟨fun y hy => hT _ y hy, by intro r; kernel_rfl, by intro r y; kernel_rfl⟩, fun y3 => ⟨id, id⟩⟩, id⟩
end
theorem ZPY (p0 : List Svc) (pf1 : Svc → Option Bool) : KO tp 59 0 [vL ZaG p0, .fn (.yield 1) [] []] [] (H59 pf1) (ZbX p0 pf1) E47 (fun _ => []) := kO Tryz.func59 Tryz.ntmps59 [.tmp 4] 0 (fun co hT m L => mK co 1 (lf1 [0, 1]) m L fun r g _ m L => sq (mK co 1 (lf1 [0, 1, 7, 8]) m L fun r g _ m L => bk 0 (lo (lpF (ZCU p0 pf1 co hT) ii m L (fun _ m => fO co m L)))))
@[reducible] def G60 (w1 : Svc) : Bool → List Blk := fun y => [⟨0, true, 63, 1, [.fn (.func 20) [] []]⟩, ⟨0, true, 62, 3, [vS w1.name, vL Zdv w1.methods, vL eNt w1.notes]⟩]
def ZNF (p0 : Svc) (w1 : Svc) : PT 2 (Bool) := vw .go <| vw .go <| cl (ZMA p0) fun y1 => vw .go <| vw .go <| cl (ZMA w1) fun y2 => lr E49 (G60 w1) (decide (y1 = y2))
def Zbk (p0 : Svc) (w1 : Svc) : Option (Bool) := (ZNF p0 w1).m
theorem ZP2 (p0 : Svc) (w1 : Svc) : KO tp 60 2 [.agg ((ZaG p0).map .d), .ptr (0, 0) 0 0, .ptr (0, 1) 0 0] [⟨0, true, 63, 1, [.fn (.func 20) [] []]⟩, ⟨0, true, 62, 3, [vS w1.name, vL Zdv w1.methods, vL eNt w1.notes]⟩] ct (Zbk p0 w1) E49 (G60 w1) := kO Tryz.func60 Tryz.ntmps60 [.tmp 4] 2 (fun co hT m L => fO co m L)
abbrev E19 : Bool × List Svc → AV := fun y => .tup [.ref (0, 0) 1 0 y.2.length, vB y.1]
@[reducible] def G19 : Bool × List Svc → List Blk := fun y => [u62 y.2]
section
variable {C : Cx} (p0 p1 : List Svc) (p2 : List (Bt × Bool)) (y1 : List Svc)
abbrev ZtM := PT 1 (Bool × List Svc)
abbrev ZvE : Blk := ⟨0, true, 63, 1, [.fn (.func 20) [] []]⟩
abbrev ZEa (t : List (Nat × AV)) : List (Nat × AV) := (0, vL ZaG p0) :: (1, vL ZaG p1) :: (2, .d (.map false (p2.map eEt))) :: (4, .fn (.func 21) [] []) :: t
def Zpv : List Svc × Nat → St := fun (r2, v3) => mkS [(0, vL ZaG p0), (2, .d (.map false (p2.map eEt))), (4, .fn (.func 21) [] []), (8, .ptr (1, 8) 0 0), (12, .ref (1, 17) 0 0 r2.length), (18, vL ZaG p1), (19, vN p1.length), (20, vN v3)] [((1, 8), ZvE), ((1, 17), o62 r2)]
def ZKp : List Svc → Nat × St := fun r11 => (0, mkS [(12, .ref (1, 17) 0 0 r11.length)] [((1, 17), o62 r11)])
def ZBs (r2 : List Svc) (v3 : Nat) : PT 1 (Lv (List Svc × Nat) (List Svc) (Bool × List Svc)) := br (decide ((v3 : Int) < (p1.length : Int))) (ix p1 v3 fun e4 => vw .go <| cs tp 59 [vL ZaG p0, .fn (.func 60) [] [.ptr (1, 8) 0 0, .ptr (1, 14) 1 0]] [(1, 8), (1, 14)] [((1, 8), ⟨0, true, 63, 1, [.fn (.func 20) [] []]⟩), ((1, 14), ⟨1, true, 62, 3, [vS e4.name, vL Zdv e4.methods, vL eNt e4.notes]⟩)] (ZbX p0 (fun (z0 : Svc) => Zbk z0 e4)) (fun y => vI y) fun y5 => ixg (decide ((0 : Int) ≤ y5)) p0 y5 fun e6 => vw .go <| clg (decide ((0 : Int) ≤ y5)) (ZQj e6 e4) fun y7 => br (decide ((0 : Int) ≤ y5) && (!y7)) (br (decide ((0 : Int) ≤ y5) && (!y7)) (vw .sep <| vw (.ads 10 10 62 3) <| mv 10 0 ([] : List Svc) <| lrt E19 (G19) (false, ([] : List Svc))) (br (decide (y5 < (0 : Int))) (vw .go <| vw .sep <| ap r2 (e4 : Svc) <| vs (wa v3 1) <| vz (fl (r2 ++ [e4])) <| ln (Zpv p0 p1 p2) (r2 ++ [e4], v3 + 1)) (vs (wa v3 1) <| vz (fl r2) <| ln (Zpv p0 p1 p2) (r2, v3 + 1)))) (vw .go <| vw .go <| clg (decide (y5 < (0 : Int))) (ZMA e4) fun y8 => mlg (decide (y5 < (0 : Int))) p2 y8 fun m9 b10 => br (decide (y5 < (0 : Int)) && m9) (vw .sep <| vw (.ads 10 10 62 3) <| mv 10 0 ([] : List Svc) <| lrt E19 (G19) (false, ([] : List Svc))) (br (decide (y5 < (0 : Int))) (vw .go <| vw .sep <| ap r2 (e4 : Svc) <| vs (wa v3 1) <| vz (fl (r2 ++ [e4])) <| ln (Zpv p0 p1 p2) (r2 ++ [e4], v3 + 1)) (vs (wa v3 1) <| vz (fl r2) <| ln (Zpv p0 p1 p2) (r2, v3 + 1))))) (vz (fl r2) <| lxe (ZKp) r2)
def Zo1 := fun ((r2, v3) : List Svc × Nat) => (ZBs p0 p1 p2 r2 v3).m
def ZMu (r11 : List Svc) : ZtM := vw .sep <| mv 17 0 r11 <| lr E19 (G19) (true, r11)
def ZAW : ZtM := vz (eqL p1) <| vz (fl y1) <| lc (Zpv p0 p1 p2 (y1, 0)) ((Zaa (Zo1 p0 p1 p2) big (y1, 0)).bind (Sum.elim (fun r11 => (ZMu r11).m) some))
def ZB0 : ZtM := vz (fl y1) <| lc (mkS (ZEa p0 p1 p2 [(8, .ptr (1, 8) 0 0), (12, .ref (1, 17) 0 0 y1.length)]) [((1, 8), ZvE), ((1, 17), o62 y1)]) ((ZAW p0 p1 p2 y1).m)
def ZGV : ZtM := lc (mkS (ZEa p0 p1 p2 [(8, .ptr (1, 8) 0 0), (16, vL ZaG p0)]) [((1, 8), ZvE)]) ((Zbg p0).bind fun y1 => (ZB0 p0 p1 p2 y1).m)
def ZKC : ZtM := lc (mkS (ZEa p0 p1 p2 [(8, .ptr (1, 8) 0 0)]) [((1, 8), ZvE)]) ((ZGV p0 p1 p2).m)
def ZbD (p0 : List Svc) (p1 : List Svc) (p2 : List (Bt × Bool)) : Option (Bool × List Svc) := (ZKC p0 p1 p2).m
theorem ZAJ (co : CO C 1) : Kl 58 C (pa [0, 0, 1, 0, 1, 1] (Zac Tryz.f19)) [.tmp 10, .tmp 11] 1 (Zpv p0 p1 p2) (ZKp) E19 (G19) (Zo1 p0 p1 p2) := fun (r2, v3) _ m Q Post hQ L => eN co (lf2 [0, 2, 4, 8, 12, 18, 19, 20] [((1, 8), false), ((1, 17), true)]) (lf2 [12] [((1, 17), true)]) hQ m L fun r g => ⟨fun e4 => ⟨fun y hy => Zbm (ZPY p0 (fun (z0 : Svc) => Zbk z0 e4)) hy co g [] [((1, 8), ⟨0, true, 63, 1, [.fn (.func 20) [] []]⟩), ((1, 14), ⟨1, true, 62, 3, [vS e4.name, vL Zdv e4.methods, vL eNt e4.notes]⟩)] (lkS [(1, .fn (.func 60) [] [.ptr (r.κ (1, 8)) (r.γ (1, 8) + 0) 0, .ptr (r.κ (1, 14)) (r.γ (1, 14) + 1) 0])]) (fun H' hg ho => (fun z0 y hz => Ze5 (ZP2 z0 e4) hz co g [((1, 8), ⟨0, true, 63, 1, [.fn (.func 20) [] []]⟩), ((1, 14), ⟨1, true, 62, 3, [vS e4.name, vL Zdv e4.methods, vL eNt e4.notes]⟩)] [] hg (by simp) (fun _ => .top) (fun _ _ => trivial) (fun l H => ⟨fun _ => ⟨rfl, by kernel_rfl⟩, by kernel_rfl, ⟨fun _ => ⟨rfl, by kernel_rfl⟩, by kernel_rfl, trivial⟩⟩))) (fun H => trivial), fun y5 e6 y7 => ⟨⟨id, ⟨id, id⟩⟩, fun y8 m9 b10 => ⟨id, ⟨id, id⟩⟩⟩⟩, id⟩
end
theorem ZQ3 (p0 : List Svc) (p1 : List Svc) (p2 : List (Bt × Bool)) : KO tp 19 1 [vL ZaG p0, vL ZaG p1, .d (.map false (p2.map eEt)), .fn (.func 20) [] [], .fn (.func 21) [] []] [⟨0, false, 0, 0, []⟩] ct (ZbD p0 p1 p2) E19 (G19) := kO Tryz.func19 Tryz.ntmps19 [.tmp 10, .tmp 11] 1 (fun co hT m L => mK co 1 (lf2 [0, 1, 2, 4, 8] [((1, 8), false)]) m L fun r g _ m L => sq (rg (pR co 1 (lf2 [0, 1, 2, 4, 8, 16] [((1, 8), false)]) m L fun r g _ m L => c6 co m (ZOx p0) [((1, 17), ⟨0, false, 0, 0, []⟩)] [] (fun z => .ref (1, 17) 1 0 z.length) (fun z => [((1, 17), u62 z)]) [] fun y1 m => eR co (lf2 [0, 1, 2, 4, 8, 12] [((1, 8), false), ((1, 17), true)]) m L fun r g _ m L => sq (mK co 1 (lf2 [0, 2, 4, 8, 12, 18, 19, 20] [((1, 8), false), ((1, 17), true)]) m L fun r g _ m L => bk 0 (lo (lpF (ZAJ p0 p1 p2 co) ii m L (fun r11 m => fO co m L)))))))
section
variable {α : Type} [Rw α] [Tid α]
abbrev Zb0 : List α → AV := fun y => .tup []
@[reducible] def ZbZ : List α → List Blk := fun y => [og y]
def ZFL (pf3 : α → α → Option Int) : Cl := fun no l H θ => (∀ (z0 : α) (z1 : α) y, pf3 z0 z1 = some y → Zfq tp l no H (θ 3) [.agg ((Rw.f z0).map .d), .agg ((Rw.f z1).map .d)] (vI y))
section
variable (p0 : List α) (p1 p2 : Int) (pf3 : α → α → Option Int) (v1 : Int) (r2 : List α)
abbrev Zn5 (α : Type) := PT 1 (Lv (Int × List α) (List α) (List α))
abbrev Zuv : List (Nat × AV) := [(0, rz p0.length), (1, vI p1), (2, vI p2), (3, .fn (.yield 3) [] []), (8, vI v1)]
def ZkB : Int × List α → St := fun (v1, r2) => mkS (Zuv p0 p1 p2 v1) [((0, 0), og r2)]
def Znf : List α → Nat × St := fun r11 => (0, mkS [] [((0, 0), og r11)])
def Zk6 : Int × List α → St := fun (v3, r4) => mkS [(0, rz p0.length), (1, vI p1), (2, vI p2), (3, .fn (.yield 3) [] []), (8, vI v1), (9, vI v3)] [((0, 0), og r4)]
def Zn9 : List α → Nat × St := fun r10 => (2, mkS (Zuv p0 p1 p2 v1) [((0, 0), og r10)])
def Zkn (v3 : Int) (r4 : List α) : Zn5 α := vg (decide (p1 < v3)) (iri v3 p0.length (Rw.s α)) <| cag (decide (p1 < v3)) r4 v3.toNat fun e5 => vg (decide (p1 < v3)) (wi (v3 - 1)) <| vg (decide (p1 < v3)) (iri (v3 - 1) p0.length (Rw.s α)) <| cag (decide (p1 < v3)) r4 (v3 - 1).toNat fun e6 => cfg (decide (p1 < v3)) tp 3 [.agg ((Rw.f e5).map .d), .agg ((Rw.f e6).map .d)] (pf3 e5 e6) (fun y => vI y) fun y7 => br (decide (p1 < v3) && decide (y7 < (0 : Int))) (vs (wi (v3 - 1)) <| vs (wi (v3 - 1)) <| vs (iri (v3 - 1) p0.length (Rw.s α)) <| ca r4 (v3 - 1).toNat fun e8 => vs (iri v3 p0.length (Rw.s α)) <| ca r4 v3.toNat fun e9 => vs (iri v3 p0.length (Rw.s α)) <| vs (st r4 v3.toNat e8) <| vwr 0 ((Rw.f (e8 : α)).map .d) (fun _ => ZeA _) <| vs (iri (v3 - 1) p0.length (Rw.s α)) <| vs (st (r4.set v3.toNat e8) (v3 - 1).toNat e9) <| vwr 0 ((Rw.f (e9 : α)).map .d) (fun _ => ZeA _) <| vs (wi (v3 - 1)) <| vz (fl ((r4.set v3.toNat e8).set (v3 - 1).toNat e9)) <| ln (Zk6 p0 p1 p2 v1) ((v3 - 1), (r4.set v3.toNat e8).set (v3 - 1).toNat e9)) (vz (fl r4) <| lxe (Zn9 p0 p1 p2 v1) r4)
def ZdZ := fun ((v3, r4) : Int × List α) => (Zkn p0 p1 p2 pf3 v1 v3 r4).m
def Zqy (r10 : List α) : Zn5 α := vs (wi (v1 + 1)) <| vz (fl r10) <| ln (ZkB p0 p1 p2) ((v1 + 1), r10)
def ZqD : Zn5 α := vz (fl r2) <| lc (Zk6 p0 p1 p2 v1 (v1, r2)) ((Zaa (ZdZ p0 p1 p2 pf3 v1) big (v1, r2)).bind (Sum.elim (fun r10 => (Zqy p0 p1 p2 v1 r10).m) (fun z => some (.rt z))))
def Zsv : Zn5 α := br (decide (v1 < p2)) (vz (fl r2) <| lc (mkS (Zuv p0 p1 p2 v1) [((0, 0), og r2)]) ((ZqD p0 p1 p2 pf3 v1 r2).m)) (vz (fl r2) <| lxe (Znf) r2)
def ZfI := fun ((v1, r2) : Int × List α) => (Zsv p0 p1 p2 pf3 v1 r2).m
def ZkS (r11 : List α) : PT 1 (List α) := lr Zb0 (ZbZ) r11
def Zyq : PT 1 (List α) := vs (wi (p1 + 1)) <| vz (fl p0) <| lc (ZkB p0 p1 p2 ((p1 + 1), p0)) ((Zaa (ZfI p0 p1 p2 pf3) big ((p1 + 1), p0)).bind (Sum.elim (fun r11 => (ZkS r11).m) some))
def Zau (p0 : List α) (p1 : Int) (p2 : Int) (pf3 : α → α → Option Int) : Option (List α) := (Zyq p0 p1 p2 pf3).m
end
end
section
variable {C : Cx} (co : CO C 1) (p0 : List Msg) (p1 p2 : Int) (pf3 : Msg → Msg → Option Int) (hT : (ZFL pf3) C.no C.l C.H0 C.θ)
section
include co hT
theorem Zvw (v1 : Int) : Kl 53 C (pa [0, 0, 1, 0, 0, 1, 0, 0, 1] (Zac Tryz.f118)) [] 1 (Zk6 p0 p1 p2 v1) (Zn9 p0 p1 p2 v1) Zb0 (ZbZ) (ZdZ p0 p1 p2 pf3 v1) := fun (v3, r4) _ m Q Post hQ L => eN co (lf2 [0, 1, 2, 3, 8, 9] [z0]) (lf2 [0, 1, 2, 3, 8] [z0]) hQ m L fun r g e5 e6 => ⟨⟨fun y hy => hT _ _ y hy, by intro r; kernel_rfl, by intro r y; kernel_rfl⟩, fun y7 => ⟨fun e8 e9 => id, id⟩⟩
theorem Zwa : Kl 53 C (pa [0, 0, 1] (Zac Tryz.f118)) [] 1 (ZkB p0 p1 p2) (Znf) Zb0 (ZbZ) (ZfI p0 p1 p2 pf3) := fun (v1, r2) _ m Q Post hQ L => mJ co 1 (lf2 [0, 1, 2, 3, 8] [z0]) (lf2 [] [z0]) hQ m L fun r g => ⟨fun _ m L => sq (bk 1 (mJ co 1 (lf2 [0, 1, 2, 3, 8, 9] [z0]) nl hQ m L fun r g _ m L => bk 2 (lo (lpL (Zvw co p0 p1 p2 pf3 hT v1) hQ m L (fun r10 m => eN co (lf2 [0, 1, 2, 3, 8] [z0]) nl hQ m L))))), id⟩
end
end
theorem ZG9 (p0 : List Msg) (p1 : Int) (p2 : Int) (pf3 : Msg → Msg → Option Int) : KO tp 118 1 [rz p0.length, vI p1, vI p2, .fn (.yield 3) [] []] [o48 p0] (ZFL pf3) (Zau p0 p1 p2 pf3) Zb0 (ZbZ) := kO Tryz.func118 Tryz.ntmps118 [] 1 (fun co hT m L => mK co 1 (lf2 [0, 1, 2, 3, 8] [z0]) m L fun r g _ m L => bk 0 (lo (lpF (Zwa co p0 p1 p2 pf3 hT) ii m L (fun r11 m => Zf4 (ZkS r11) co m L (fun r g => id) r g))))
section
variable {α : Type} [Rw α] [Tid α]
section
variable (p0 : List α) (p1 p2 p3 : Int)
def ZjY : Nat × List α → St := fun (v1, r2) => mkS [(0, rz p0.length), (1, vI p1), (2, vI p2), (3, vI p3), (10, vN v1)] [((0, 0), og r2)]
def Zm4 : List α → Nat × St := fun r5 => (0, mkS [] [((0, 0), og r5)])
def Zq2 (v1 : Nat) (r2 : List α) : PT 1 (Lv (Nat × List α) (List α) (List α)) := br (decide ((v1 : Int) < p3)) (vs (wi (p1 + (v1 : Int))) <| vs (wi (p2 + (v1 : Int))) <| vs (wi (p2 + (v1 : Int))) <| vs (iri (p2 + (v1 : Int)) p0.length (Rw.s α)) <| ca r2 (p2 + (v1 : Int)).toNat fun e3 => vs (wi (p1 + (v1 : Int))) <| vs (iri (p1 + (v1 : Int)) p0.length (Rw.s α)) <| ca r2 (p1 + (v1 : Int)).toNat fun e4 => vs (iri (p1 + (v1 : Int)) p0.length (Rw.s α)) <| vs (st r2 (p1 + (v1 : Int)).toNat e3) <| vwr 0 ((Rw.f (e3 : α)).map .d) (fun _ => ZeA _) <| vs (iri (p2 + (v1 : Int)) p0.length (Rw.s α)) <| vs (st (r2.set (p1 + (v1 : Int)).toNat e3) (p2 + (v1 : Int)).toNat e4) <| vwr 0 ((Rw.f (e4 : α)).map .d) (fun _ => ZeA _) <| vs (wa v1 1) <| vz (fl ((r2.set (p1 + (v1 : Int)).toNat e3).set (p2 + (v1 : Int)).toNat e4)) <| ln (ZjY p0 p1 p2 p3) (v1 + 1, (r2.set (p1 + (v1 : Int)).toNat e3).set (p2 + (v1 : Int)).toNat e4)) (vz (fl r2) <| lxe (Zm4) r2)
def Zgd := fun ((v1, r2) : Nat × List α) => (Zq2 p0 p1 p2 p3 v1 r2).m
def Zld (r5 : List α) : PT 1 (List α) := lr Zb0 (ZbZ) r5
def ZzE : PT 1 (List α) := vz (fl p0) <| lc (ZjY p0 p1 p2 p3 (0, p0)) ((Zaa (Zgd p0 p1 p2 p3) big (0, p0)).bind (Sum.elim (fun r5 => (Zld r5).m) some))
def ZaE (p0 : List α) (p1 : Int) (p2 : Int) (p3 : Int) : Option (List α) := (ZzE p0 p1 p2 p3).m
end
end
section
variable {C : Cx}
theorem ZvX (co : CO C 1) (p0 : List Msg) (p1 : Int) (p2 : Int) (p3 : Int) : Kl 38 C (pa [0, 0, 1] (Zac Tryz.f141)) [] 1 (ZjY p0 p1 p2 p3) (Zm4) Zb0 (ZbZ) (Zgd p0 p1 p2 p3) := fun (v1, r2) _ m Q Post hQ L => eN co (lf2 [0, 1, 2, 3, 10] [z0]) (lf2 [] [z0]) hQ m L
end
theorem ZCo (p0 : List Msg) (p1 : Int) (p2 : Int) (p3 : Int) : KO tp 141 1 [rz p0.length, vI p1, vI p2, vI p3, .fn (.yield 4) [] []] [o48 p0] ct (ZaE p0 p1 p2 p3) Zb0 (ZbZ) := kO Tryz.func141 Tryz.ntmps141 [] 1 (fun co hT m L => mK co 1 (lf2 [0, 1, 2, 3, 10] [z0]) m L fun r g _ m L => bk 0 (lo (lpF (ZvX co p0 p1 p2 p3) ii m L (fun r5 m => Zf4 (Zld r5) co m L (fun r g => id) r g))))
section
variable {α : Type} [Rw α] [Tid α]
section
variable (p0 : List α) (p2 v1 v2 : Int) (y4 r3 y5 y8 : List α)
abbrev Zgg (α : Type) := PT 1 (Lv (Int × Int × List α) (Int × List α) (List α))
abbrev ZnG : List (Nat × AV) := [(0, rz p0.length), (2, vI p2), (4, .fn (.yield 4) [] []), (10, vI v1), (11, vI v2)]
abbrev Zuw : List (Key × Blk) := [((0, 0), og r3)]
abbrev ZoJ (t : List (Nat × AV)) : List (Nat × AV) := (0, rz p0.length) :: (2, vI p2) :: (4, .fn (.yield 4) [] []) :: t
def Zit : Int × Int × List α → St := fun (v1, v2, r3) => mkS (ZnG p0 p2 v1 v2) [((0, 0), og r3)]
def ZnD : Int × List α → Nat × St := fun (v6, r7) => (0, mkS (ZoJ p0 p2 [(10, vI v6)]) [((0, 0), og r7)])
def Znb : Zgg α := vs (wi (v1 - v2)) <| vz (fl y4) <| ln (Zit p0 p2) ((v1 - v2), v2, y4)
def Zoa : Zgg α := vz (fl y4) <| lc (mkS (ZnG p0 p2 v1 v2) [((0, 0), og y4)]) ((Znb p0 p2 v1 v2 y4).m)
def Zop : Zgg α := vs (wi (p2 - v1)) <| vz (fl r3) <| lc (mkS (ZoJ p0 p2 [(10, vI v1), (11, vI v2), (24, rz p0.length), (27, vI (p2 - v1)), (28, vI p2), (29, vI v2), (30, .fn (.yield 4) [] [])]) (Zuw r3)) (if p0.length = r3.length then (ZaE r3 (p2 - v1) p2 v2).bind fun y4 => (Zoa p0 p2 v1 v2 y4).m else none)
def Znn : Zgg α := vs (wi (v2 - v1)) <| vz (fl y5) <| ln (Zit p0 p2) (v1, (v2 - v1), y5)
def Zoc : Zgg α := vz (fl y5) <| lc (mkS (ZnG p0 p2 v1 v2) [((0, 0), og y5)]) ((Znn p0 p2 v1 v2 y5).m)
def Zog : Zgg α := vs (wi (p2 - v1)) <| vs (wi (p2 + v2)) <| vs (wi ((p2 + v2) - v1)) <| vz (fl r3) <| lc (mkS (ZoJ p0 p2 [(10, vI v1), (11, vI v2), (35, rz p0.length), (38, vI (p2 - v1)), (43, vI ((p2 + v2) - v1)), (44, vI v1), (45, .fn (.yield 4) [] [])]) (Zuw r3)) (if p0.length = r3.length then (ZaE r3 (p2 - v1) ((p2 + v2) - v1) v1).bind fun y5 => (Zoc p0 p2 v1 v2 y5).m else none)
def Zol : Zgg α := vz (fl r3) <| lc (mkS (ZoJ p0 p2 [(10, vI v1), (11, vI v2), (23, vB (decide (v2 < v1)))]) (Zuw r3)) (if decide (v2 < v1) = true then (Zop p0 p2 v1 v2 r3).m else (Zog p0 p2 v1 v2 r3).m)
def ZnN : Zgg α := br (!decide (v1 = v2)) (vz (fl r3) <| lc (mkS (ZnG p0 p2 v1 v2) [((0, 0), og r3)]) ((Zol p0 p2 v1 v2 r3).m)) (vz (fl r3) <| lxe (ZnD p0 p2) (v1, r3))
def Zex := fun ((v1, v2, r3) : Int × Int × List α) => (ZnN p0 p2 v1 v2 r3).m
def Zkx : PT 1 (List α) := lr Zb0 (ZbZ) y8
def Zuf : PT 1 (List α) := vz (fl y8) <| lc (mkS [] [((0, 0), og y8)]) ((Zkx y8).m)
def Zq1 (v6 : Int) (r7 : List α) : PT 1 (List α) := vs (wi (p2 - v6)) <| vz (fl r7) <| lc (mkS [(50, rz p0.length), (53, vI (p2 - v6)), (54, vI p2), (55, vI v6), (56, .fn (.yield 4) [] [])] [((0, 0), og r7)]) (if p0.length = r7.length then (ZaE r7 (p2 - v6) p2 v6).bind fun y8 => (Zuf y8).m else none)
def ZsX (p1 : Int) (p3 : Int) : PT 1 (List α) := vs (wi (p2 - p1)) <| vs (wi (p3 - p2)) <| vz (fl p0) <| lc (Zit p0 p2 ((p2 - p1), (p3 - p2), p0)) ((Zaa (Zex p0 p2) big ((p2 - p1), (p3 - p2), p0)).bind (Sum.elim (fun (v6, r7) => (Zq1 p0 p2 v6 r7).m) some))
def ZbH (p0 : List α) (p1 : Int) (p2 : Int) (p3 : Int) : Option (List α) := (ZsX p0 p2 p1 p3).m
end
end
section
variable {C : Cx}
theorem Zxd (co : CO C 1) (p0 : List Msg) (p2 : Int) : Kl 58 C (pa [0, 0, 0, 1, 1] (Zac Tryz.f135)) [] 1 (Zit p0 p2) (ZnD p0 p2) Zb0 (ZbZ) (Zex p0 p2) := fun (v1, v2, r3) _ m Q Post hQ L => mJ co 1 (lf2 [0, 2, 4, 10, 11] [z0]) (lf2 [0, 2, 4, 10] [z0]) hQ m L fun r g => ⟨fun _ m L => bk 1 (mJ co 1 (lf2 [0, 2, 4, 10, 11, 23] [z0]) nl hQ m L fun r g _ m L => cD m (fun m => sq (rg (pR co 7 (lf2 [0, 2, 4, 10, 11, 24, 27, 28, 29, 30] [z0]) m L fun r g _ m L => Ze2 m fun heq m => c6 (θ := fun r => lkS [(4, r.θ 4)]) (xs := [rz p0.length, vI (p2 - v1), vI p2, vI v2, .fn (.yield 4) [] []]) (hx := by intro r H; rw [heq]; kernel_rfl) co m (ZCo r3 (p2 - v1) p2 v2) [((0, 0), o48 r3)] [] (fun z => .tup []) (fun z => [((0, 0), o48 z)]) [] fun y4 m => eR co (lf2 [0, 2, 4, 10, 11] [z0]) m L fun r g _ m L => eN co (lf2 [0, 2, 4, 10, 11] [z0]) nl hQ m L))) (fun m => sq (rg (pR co 11 (lf2 [0, 2, 4, 10, 11, 35, 38, 43, 44, 45] [z0]) m L fun r g _ m L => Ze2 m fun heq m => c6 (θ := fun r => lkS [(4, r.θ 4)]) (xs := [rz p0.length, vI (p2 - v1), vI ((p2 + v2) - v1), vI v1, .fn (.yield 4) [] []]) (hx := by intro r H; rw [heq]; kernel_rfl) co m (ZCo r3 (p2 - v1) ((p2 + v2) - v1) v1) [((0, 0), o48 r3)] [] (fun z => .tup []) (fun z => [((0, 0), o48 z)]) [] fun y5 m => eR co (lf2 [0, 2, 4, 10, 11] [z0]) m L fun r g _ m L => eN co (lf2 [0, 2, 4, 10, 11] [z0]) nl hQ m L)))), id⟩
end
theorem ZNO (p0 : List Msg) (p1 : Int) (p2 : Int) (p3 : Int) : KO tp 135 1 [rz p0.length, vI p1, vI p2, vI p3, .fn (.yield 4) [] []] [o48 p0] ct (ZbH p0 p1 p2 p3) Zb0 (ZbZ) := kO Tryz.func135 Tryz.ntmps135 [] 1 (fun co hT m L => mK co 2 (lf2 [0, 2, 4, 10, 11] [z0]) m L fun r g _ m L => sq (bk 0 (lo (lpF (Zxd co p0 p2) ii m L (fun (v6, r7) m => rg (pR co 7 (lf2 [50, 53, 54, 55, 56] [z0]) m L fun r g _ m L => Ze2 m fun heq m => c6 (θ := fun r => lkS [(4, r.θ 4)]) (xs := [rz p0.length, vI (p2 - v6), vI p2, vI v6, .fn (.yield 4) [] []]) (hx := by intro r H; rw [heq]; kernel_rfl) co m (ZCo r7 (p2 - v6) p2 v6) [((0, 0), o48 r7)] [] (fun z => .tup []) (fun z => [((0, 0), o48 z)]) [] fun y8 m => eR co (lf2 [] [z0]) m L fun r g _ m L => Zf4 (Zkx y8) co m L (fun r g => id) r g))))))
section
variable {α : Type} [Rw α] [Tid α]
def Zl6 (pf4 : α → α → Option Int) : Cl := fun no l H θ => (∀ (z0 : α) (z1 : α) y, pf4 z0 z1 = some y → Zfq tp l no H (θ 4) [.agg ((Rw.f z0).map .d), .agg ((Rw.f z1).map .d)] (vI y))
section
variable (p0 : List α) (p1 p2 p3 : Int) (pf4 : α → α → Option Int) (R119 : (List α) → Int → Int → Int → (α → α → Option Int) → Option (List α)) (v6 v17 : Int) (y33 : List α) (v30 : Int) (y32 y31 y34 y36 y35 y37 : List α)
abbrev ZaF (α : Type) := PT 1 (List α)
abbrev Zah : Int := (IntKind.i64.wrap (Zbx .u64 (IntKind.u64.wrap (p1 + p3)) 1))
abbrev ZcK : List (Key × Blk) := [((0, 0), og p0)]
abbrev ZoM : List (Nat × AV) := [(0, rz p0.length), (3, vI p3), (4, .fn (.yield 4) [] []), (18, vI (Zah p1 p3)), (24, vI (((Zah p1 p3) + p2) - v30)), (213, vB (decide ((Zah p1 p3) < (((Zah p1 p3) + p2) - v30)) && decide ((((Zah p1 p3) + p2) - v30) < p3)))]
abbrev Znm : List (Nat × AV) := [(214, rz p0.length), (215, vI (Zah p1 p3)), (216, vI (((Zah p1 p3) + p2) - v30)), (217, vI p3), (218, .fn (.yield 4) [] [])]
abbrev Znw : List (Nat × AV) := [(0, rz p0.length), (3, vI p3), (4, .fn (.yield 4) [] []), (18, vI (Zah p1 p3)), (24, vI (((Zah p1 p3) + p2) - v30))]
abbrev Zx3 : List (Nat × AV) := [(0, rz p0.length), (3, vI p3), (4, .fn (.yield 4) [] []), (18, vI (Zah p1 p3)), (24, vI (((Zah p1 p3) + p2) - v30)), (200, rz p0.length), (201, vI p1), (202, vI v30), (203, vI (Zah p1 p3)), (204, .fn (.yield 4) [] [])]
abbrev Zzg : List (Nat × AV) := [(0, rz p0.length), (1, vI p1), (3, vI p3), (4, .fn (.yield 4) [] []), (18, vI (Zah p1 p3)), (20, vI v30), (24, vI (((Zah p1 p3) + p2) - v30)), (199, vB (decide (p1 < v30) && decide (v30 < (Zah p1 p3))))]
abbrev Zzd : List (Nat × AV) := [(0, rz p0.length), (1, vI p1), (3, vI p3), (4, .fn (.yield 4) [] []), (18, vI (Zah p1 p3)), (20, vI v30), (24, vI (((Zah p1 p3) + p2) - v30))]
abbrev ZtP : List (Nat × AV) := [(0, rz p0.length), (1, vI p1), (2, vI p2), (3, vI p3), (4, .fn (.yield 4) [] [])]
abbrev Zhf (t : List (Nat × AV)) : List (Nat × AV) := (0, rz p0.length) :: (1, vI p1) :: (2, vI p2) :: (3, vI p3) :: (4, .fn (.yield 4) [] []) :: t
def Ziq : Int × Int → St := fun (v1, v2) => mkS [(0, rz p0.length), (1, vI p1), (4, .fn (.yield 4) [] []), (10, vI v1), (11, vI v2)] (ZcK p0)
def Zns : Int → Nat × St := fun v6 => (0, mkS [(0, rz p0.length), (1, vI p1), (10, vI v6)] (ZcK p0))
def Zj8 (v1 : Int) (v2 : Int) : PT 1 (Lv (Int × Int) (Int) (List α)) := br (decide (v1 < v2)) (vs (wi (v1 + v2)) <| vz (wk .u64 (v1 + v2)) <| shr .u64 (IntKind.u64.wrap (v1 + v2)) 1 <| vz (wk .i64 (Zbx .u64 (IntKind.u64.wrap (v1 + v2)) 1)) <| vs (iri (IntKind.i64.wrap (Zbx .u64 (IntKind.u64.wrap (v1 + v2)) 1)) p0.length (Rw.s α)) <| ca p0 (IntKind.i64.wrap (Zbx .u64 (IntKind.u64.wrap (v1 + v2)) 1)).toNat fun e3 => vs (iri p1 p0.length (Rw.s α)) <| ca p0 p1.toNat fun e4 => cf tp 4 [.agg ((Rw.f e3).map .d), .agg ((Rw.f e4).map .d)] (pf4 e3 e4) (fun y => vI y) fun y5 => br (decide (y5 < (0 : Int))) (vs (wi ((IntKind.i64.wrap (Zbx .u64 (IntKind.u64.wrap (v1 + v2)) 1)) + 1)) <| vz (fl p0) <| ln (Ziq p0 p1) (((IntKind.i64.wrap (Zbx .u64 (IntKind.u64.wrap (v1 + v2)) 1)) + 1), v2)) (vz (fl p0) <| ln (Ziq p0 p1) (v1, (IntKind.i64.wrap (Zbx .u64 (IntKind.u64.wrap (v1 + v2)) 1))))) (vz (fl p0) <| lxe (Zns p0 p1) v1)
def ZeH := fun ((v1, v2) : Int × Int) => (Zj8 p0 p1 pf4 v1 v2).m
def ZkX : Int × List α → St := fun (v7, r8) => mkS [(0, rz p0.length), (10, vI v6), (13, vI v7)] [((0, 0), og r8)]
def ZmY : List α → Nat × St := fun r11 => (2, mkS [] [((0, 0), og r11)])
def ZoD (v7 : Int) (r8 : List α) : PT 1 (Lv (Int × List α) (List α) (List α)) := vs (wi (v6 - 1)) <| br (decide (v7 < (v6 - 1))) (vs (wi (v7 + 1)) <| vs (wi (v7 + 1)) <| vs (iri (v7 + 1) p0.length (Rw.s α)) <| ca r8 (v7 + 1).toNat fun e9 => vs (iri v7 p0.length (Rw.s α)) <| ca r8 v7.toNat fun e10 => vs (iri v7 p0.length (Rw.s α)) <| vs (st r8 v7.toNat e9) <| vwr 0 ((Rw.f (e9 : α)).map .d) (fun _ => ZeA _) <| vs (iri (v7 + 1) p0.length (Rw.s α)) <| vs (st (r8.set v7.toNat e9) (v7 + 1).toNat e10) <| vwr 0 ((Rw.f (e10 : α)).map .d) (fun _ => ZeA _) <| vs (wi (v7 + 1)) <| vz (fl ((r8.set v7.toNat e9).set (v7 + 1).toNat e10)) <| ln (ZkX p0 v6) ((v7 + 1), (r8.set v7.toNat e9).set (v7 + 1).toNat e10)) (vz (fl r8) <| lxe (ZmY) r8)
def ZfM := fun ((v7, r8) : Int × List α) => (ZoD p0 v6 v7 r8).m
def ZrD (r11 : List α) : ZaF α := lr Zb0 (ZbZ) r11
def Zuu : ZaF α := vz (fl p0) <| lc (ZkX p0 v6 (p1, p0)) ((Zaa (ZfM p0 v6) big (p1, p0)).bind (Sum.elim (fun r11 => (ZrD r11).m) some))
def Zrq : ZaF α := vz (fl p0) <| lc (Ziq p0 p1 (p2, p3)) ((Zaa (ZeH p0 p1 pf4) big (p2, p3)).bind (Sum.elim (fun v6 => (Zuu p0 p1 v6).m) some))
def Zij : Int × Int → St := fun (v12, v13) => mkS [(0, rz p0.length), (2, vI p2), (4, .fn (.yield 4) [] []), (14, vI v12), (15, vI v13)] (ZcK p0)
def ZnP : Int → Nat × St := fun v17 => (4, mkS [(0, rz p0.length), (2, vI p2), (14, vI v17)] (ZcK p0))
def Zkj (v12 : Int) (v13 : Int) : PT 1 (Lv (Int × Int) (Int) (List α)) := br (decide (v12 < v13)) (vs (wi (v12 + v13)) <| vz (wk .u64 (v12 + v13)) <| shr .u64 (IntKind.u64.wrap (v12 + v13)) 1 <| vz (wk .i64 (Zbx .u64 (IntKind.u64.wrap (v12 + v13)) 1)) <| vs (iri p2 p0.length (Rw.s α)) <| ca p0 p2.toNat fun e14 => vs (iri (IntKind.i64.wrap (Zbx .u64 (IntKind.u64.wrap (v12 + v13)) 1)) p0.length (Rw.s α)) <| ca p0 (IntKind.i64.wrap (Zbx .u64 (IntKind.u64.wrap (v12 + v13)) 1)).toNat fun e15 => cf tp 4 [.agg ((Rw.f e14).map .d), .agg ((Rw.f e15).map .d)] (pf4 e14 e15) (fun y => vI y) fun y16 => br (!(decide (y16 < (0 : Int)))) (vs (wi ((IntKind.i64.wrap (Zbx .u64 (IntKind.u64.wrap (v12 + v13)) 1)) + 1)) <| vz (fl p0) <| ln (Zij p0 p2) (((IntKind.i64.wrap (Zbx .u64 (IntKind.u64.wrap (v12 + v13)) 1)) + 1), v13)) (vz (fl p0) <| ln (Zij p0 p2) (v12, (IntKind.i64.wrap (Zbx .u64 (IntKind.u64.wrap (v12 + v13)) 1))))) (vz (fl p0) <| lxe (ZnP p0 p2) v12)
def Zes := fun ((v12, v13) : Int × Int) => (Zkj p0 p2 pf4 v12 v13).m
def ZkH : Int × List α → St := fun (v18, r19) => mkS [(0, rz p0.length), (14, vI v17), (17, vI v18)] [((0, 0), og r19)]
def ZoF : List α → Nat × St := fun r22 => (6, mkS [] [((0, 0), og r22)])
def ZkY (v18 : Int) (r19 : List α) : PT 1 (Lv (Int × List α) (List α) (List α)) := br (decide (v17 < v18)) (vs (wi (v18 - 1)) <| vs (wi (v18 - 1)) <| vs (iri (v18 - 1) p0.length (Rw.s α)) <| ca r19 (v18 - 1).toNat fun e20 => vs (iri v18 p0.length (Rw.s α)) <| ca r19 v18.toNat fun e21 => vs (iri v18 p0.length (Rw.s α)) <| vs (st r19 v18.toNat e20) <| vwr 0 ((Rw.f (e20 : α)).map .d) (fun _ => ZeA _) <| vs (iri (v18 - 1) p0.length (Rw.s α)) <| vs (st (r19.set v18.toNat e20) (v18 - 1).toNat e21) <| vwr 0 ((Rw.f (e21 : α)).map .d) (fun _ => ZeA _) <| vs (wi (v18 - 1)) <| vz (fl ((r19.set v18.toNat e20).set (v18 - 1).toNat e21)) <| ln (ZkH p0 v17) ((v18 - 1), (r19.set v18.toNat e20).set (v18 - 1).toNat e21)) (vz (fl r19) <| lxe (ZoF) r19)
def Zez := fun ((v18, r19) : Int × List α) => (ZkY p0 v17 v18 r19).m
def Zst (r22 : List α) : ZaF α := lr Zb0 (ZbZ) r22
def Zr2 : ZaF α := vz (fl p0) <| lc (ZkH p0 v17 (p2, p0)) ((Zaa (Zez p0 v17) big (p2, p0)).bind (Sum.elim (fun r22 => (Zst r22).m) some))
def Zmb : ZaF α := vz (fl p0) <| lc (Zij p0 p2 (p1, p2)) ((Zaa (Zes p0 p2 pf4) big (p1, p2)).bind (Sum.elim (fun v17 => (Zr2 p0 p2 v17).m) some))
def ZkV : Int × Int → St := fun (v25, v26) => mkS (Zhf p0 p1 p2 p3 [(18, vI (Zah p1 p3)), (19, vI ((Zah p1 p3) + p2)), (20, vI v25), (21, vI v26), (22, vI (((Zah p1 p3) + p2) - 1))]) (ZcK p0)
def ZoB : Int → Nat × St := fun v30 => (8, mkS (Zhf p0 p1 p2 p3 [(18, vI (Zah p1 p3)), (19, vI ((Zah p1 p3) + p2)), (20, vI v30)]) (ZcK p0))
def Zey (v25 : Int) (v26 : Int) : PT 1 (Lv (Int × Int) (Int) (List α)) := br (decide (v25 < v26)) (vs (wi (v25 + v26)) <| vz (wk .u64 (v25 + v26)) <| shr .u64 (IntKind.u64.wrap (v25 + v26)) 1 <| vz (wk .i64 (Zbx .u64 (IntKind.u64.wrap (v25 + v26)) 1)) <| vs (wi ((((Zah p1 p3) + p2) - 1) - (IntKind.i64.wrap (Zbx .u64 (IntKind.u64.wrap (v25 + v26)) 1)))) <| vs (iri ((((Zah p1 p3) + p2) - 1) - (IntKind.i64.wrap (Zbx .u64 (IntKind.u64.wrap (v25 + v26)) 1))) p0.length (Rw.s α)) <| ca p0 ((((Zah p1 p3) + p2) - 1) - (IntKind.i64.wrap (Zbx .u64 (IntKind.u64.wrap (v25 + v26)) 1))).toNat fun e27 => vs (iri (IntKind.i64.wrap (Zbx .u64 (IntKind.u64.wrap (v25 + v26)) 1)) p0.length (Rw.s α)) <| ca p0 (IntKind.i64.wrap (Zbx .u64 (IntKind.u64.wrap (v25 + v26)) 1)).toNat fun e28 => cf tp 4 [.agg ((Rw.f e27).map .d), .agg ((Rw.f e28).map .d)] (pf4 e27 e28) (fun y => vI y) fun y29 => br (!(decide (y29 < (0 : Int)))) (vs (wi ((IntKind.i64.wrap (Zbx .u64 (IntKind.u64.wrap (v25 + v26)) 1)) + 1)) <| vz (fl p0) <| ln (ZkV p0 p1 p2 p3) (((IntKind.i64.wrap (Zbx .u64 (IntKind.u64.wrap (v25 + v26)) 1)) + 1), v26)) (vz (fl p0) <| ln (ZkV p0 p1 p2 p3) (v25, (IntKind.i64.wrap (Zbx .u64 (IntKind.u64.wrap (v25 + v26)) 1))))) (vz (fl p0) <| lxe (ZoB p0 p1 p2 p3) v25)
def ZcV := fun ((v25, v26) : Int × Int) => (Zey p0 p1 p2 p3 pf4 v25 v26).m
def Zhj : ZaF α := lr Zb0 (ZbZ) y33
def ZrH : ZaF α := vz (fl y33) <| lc (mkS [] [((0, 0), og y33)]) ((Zhj y33).m)
def Zqn : ZaF α := vz (fl y32) <| lc (mkS (Znm p0 p1 p2 p3 v30) [((0, 0), og y32)]) (if p0.length = y32.length then (R119 y32 (Zah p1 p3) (((Zah p1 p3) + p2) - v30) p3 pf4).bind fun y33 => (ZrH y33).m else none)
def Zq6 : ZaF α := lr Zb0 (ZbZ) y32
def Zq5 : ZaF α := vz (fl y32) <| lc (mkS (ZoM p0 p1 p2 p3 v30) [((0, 0), og y32)]) (if (decide ((Zah p1 p3) < (((Zah p1 p3) + p2) - v30)) && decide ((((Zah p1 p3) + p2) - v30) < p3)) = true then (Zqn p0 p1 p2 p3 pf4 R119 v30 y32).m else (Zq6 y32).m)
def ZqJ : ZaF α := vz (fl y32) <| lc (mkS (Znw p0 p1 p2 p3 v30) [((0, 0), og y32)]) ((Zq5 p0 p1 p2 p3 pf4 R119 v30 y32).m)
def ZqZ : ZaF α := vz (fl y31) <| lc (mkS (Zx3 p0 p1 p2 p3 v30) [((0, 0), og y31)]) (if p0.length = y31.length then (R119 y31 p1 v30 (Zah p1 p3) pf4).bind fun y32 => (ZqJ p0 p1 p2 p3 pf4 R119 v30 y32).m else none)
def ZgQ : ZaF α := lr Zb0 (ZbZ) y34
def ZtC : ZaF α := vz (fl y34) <| lc (mkS [] [((0, 0), og y34)]) ((ZgQ y34).m)
def ZtJ : ZaF α := vz (fl y31) <| lc (mkS (Znm p0 p1 p2 p3 v30) [((0, 0), og y31)]) (if p0.length = y31.length then (R119 y31 (Zah p1 p3) (((Zah p1 p3) + p2) - v30) p3 pf4).bind fun y34 => (ZtC y34).m else none)
def Zrr : ZaF α := lr Zb0 (ZbZ) y31
def Zud : ZaF α := vz (fl y31) <| lc (mkS (ZoM p0 p1 p2 p3 v30) [((0, 0), og y31)]) (if (decide ((Zah p1 p3) < (((Zah p1 p3) + p2) - v30)) && decide ((((Zah p1 p3) + p2) - v30) < p3)) = true then (ZtJ p0 p1 p2 p3 pf4 R119 v30 y31).m else (Zrr y31).m)
def Zqk : ZaF α := vz (fl y31) <| lc (mkS (Znw p0 p1 p2 p3 v30) [((0, 0), og y31)]) ((Zud p0 p1 p2 p3 pf4 R119 v30 y31).m)
def ZtB : ZaF α := vz (fl y31) <| lc (mkS (Zzg p0 p1 p2 p3 v30) [((0, 0), og y31)]) (if (decide (p1 < v30) && decide (v30 < (Zah p1 p3))) = true then (ZqZ p0 p1 p2 p3 pf4 R119 v30 y31).m else (Zqk p0 p1 p2 p3 pf4 R119 v30 y31).m)
def Zra : ZaF α := vz (fl y31) <| lc (mkS (Zzd p0 p1 p2 p3 v30) [((0, 0), og y31)]) ((ZtB p0 p1 p2 p3 pf4 R119 v30 y31).m)
def ZqR : ZaF α := vz (fl p0) <| lc (mkS [(0, rz p0.length), (1, vI p1), (3, vI p3), (4, .fn (.yield 4) [] []), (18, vI (Zah p1 p3)), (20, vI v30), (24, vI (((Zah p1 p3) + p2) - v30)), (186, rz p0.length), (187, vI v30), (188, vI p2), (189, vI (((Zah p1 p3) + p2) - v30)), (190, .fn (.yield 4) [] [])] (ZcK p0)) ((ZbH p0 v30 p2 (((Zah p1 p3) + p2) - v30)).bind fun y31 => (Zra p0 p1 p2 p3 pf4 R119 v30 y31).m)
def Zhc : ZaF α := lr Zb0 (ZbZ) y36
def Zqh : ZaF α := vz (fl y36) <| lc (mkS [] [((0, 0), og y36)]) ((Zhc y36).m)
def ZrK : ZaF α := vz (fl y35) <| lc (mkS (Znm p0 p1 p2 p3 v30) [((0, 0), og y35)]) (if p0.length = y35.length then (R119 y35 (Zah p1 p3) (((Zah p1 p3) + p2) - v30) p3 pf4).bind fun y36 => (Zqh y36).m else none)
def Zrz : ZaF α := lr Zb0 (ZbZ) y35
def ZsZ : ZaF α := vz (fl y35) <| lc (mkS (ZoM p0 p1 p2 p3 v30) [((0, 0), og y35)]) (if (decide ((Zah p1 p3) < (((Zah p1 p3) + p2) - v30)) && decide ((((Zah p1 p3) + p2) - v30) < p3)) = true then (ZrK p0 p1 p2 p3 pf4 R119 v30 y35).m else (Zrz y35).m)
def Zur : ZaF α := vz (fl y35) <| lc (mkS (Znw p0 p1 p2 p3 v30) [((0, 0), og y35)]) ((ZsZ p0 p1 p2 p3 pf4 R119 v30 y35).m)
def Zro : ZaF α := vz (fl p0) <| lc (mkS (Zx3 p0 p1 p2 p3 v30) (ZcK p0)) ((R119 p0 p1 v30 (Zah p1 p3) pf4).bind fun y35 => (Zur p0 p1 p2 p3 pf4 R119 v30 y35).m)
def ZgN : ZaF α := lr Zb0 (ZbZ) y37
def ZtQ : ZaF α := vz (fl y37) <| lc (mkS [] [((0, 0), og y37)]) ((ZgN y37).m)
def ZrQ : ZaF α := vz (fl p0) <| lc (mkS (Znm p0 p1 p2 p3 v30) (ZcK p0)) ((R119 p0 (Zah p1 p3) (((Zah p1 p3) + p2) - v30) p3 pf4).bind fun y37 => (ZtQ y37).m)
def Zrf : ZaF α := lr Zb0 (ZbZ) p0
def Zqw : ZaF α := vz (fl p0) <| lc (mkS (ZoM p0 p1 p2 p3 v30) (ZcK p0)) (if (decide ((Zah p1 p3) < (((Zah p1 p3) + p2) - v30)) && decide ((((Zah p1 p3) + p2) - v30) < p3)) = true then (ZrQ p0 p1 p2 p3 pf4 R119 v30).m else (Zrf p0).m)
def ZrE : ZaF α := vz (fl p0) <| lc (mkS (Znw p0 p1 p2 p3 v30) (ZcK p0)) ((Zqw p0 p1 p2 p3 pf4 R119 v30).m)
def ZqO : ZaF α := vz (fl p0) <| lc (mkS (Zzg p0 p1 p2 p3 v30) (ZcK p0)) (if (decide (p1 < v30) && decide (v30 < (Zah p1 p3))) = true then (Zro p0 p1 p2 p3 pf4 R119 v30).m else (ZrE p0 p1 p2 p3 pf4 R119 v30).m)
def Zre : ZaF α := vz (fl p0) <| lc (mkS (Zzd p0 p1 p2 p3 v30) (ZcK p0)) ((ZqO p0 p1 p2 p3 pf4 R119 v30).m)
def ZrZ : ZaF α := vz (fl p0) <| lc (mkS (Zhf p0 p1 p2 p3 [(18, vI (Zah p1 p3)), (20, vI v30), (24, vI (((Zah p1 p3) + p2) - v30)), (185, vB (decide (v30 < p2) && decide (p2 < (((Zah p1 p3) + p2) - v30))))]) (ZcK p0)) (if (decide (v30 < p2) && decide (p2 < (((Zah p1 p3) + p2) - v30))) = true then (ZqR p0 p1 p2 p3 pf4 R119 v30).m else (Zre p0 p1 p2 p3 pf4 R119 v30).m)
def ZlT : ZaF α := vs (wi (((Zah p1 p3) + p2) - v30)) <| vz (fl p0) <| lc (mkS (Zhf p0 p1 p2 p3 [(18, vI (Zah p1 p3)), (20, vI v30), (24, vI (((Zah p1 p3) + p2) - v30))]) (ZcK p0)) ((ZrZ p0 p1 p2 p3 pf4 R119 v30).m)
def Zfs : Int × Int → St := fun (v23, v24) => mkS (Zhf p0 p1 p2 p3 [(18, vI (Zah p1 p3)), (19, vI ((Zah p1 p3) + p2)), (20, vI v23), (21, vI v24), (22, vI (((Zah p1 p3) + p2) - 1))]) (ZcK p0)
def Zc8 : Int × Int → Option (List α) := fun (v23, v24) => (Zaa (ZcV p0 p1 p2 p3 pf4) big (v23, v24)).bind (Sum.elim (fun v30 => (ZlT p0 p1 p2 p3 pf4 R119 v30).m) some)
def Zff : ZaF α := vs (wi (p1 + p3)) <| vz (wk .u64 (p1 + p3)) <| shr .u64 (IntKind.u64.wrap (p1 + p3)) 1 <| vz (wk .i64 (Zbx .u64 (IntKind.u64.wrap (p1 + p3)) 1)) <| vs (wi ((Zah p1 p3) + p2)) <| br (decide ((Zah p1 p3) < p2)) (vs (wi (((Zah p1 p3) + p2) - p3)) <| vs (wi (((Zah p1 p3) + p2) - 1)) <| vz (fl p0) <| lc (Zfs p0 p1 p2 p3 ((((Zah p1 p3) + p2) - p3), (Zah p1 p3))) (Zc8 p0 p1 p2 p3 pf4 R119 ((((Zah p1 p3) + p2) - p3), (Zah p1 p3)))) (vs (wi (((Zah p1 p3) + p2) - 1)) <| vz (fl p0) <| lc (Zfs p0 p1 p2 p3 (p1, p2)) (Zc8 p0 p1 p2 p3 pf4 R119 (p1, p2)))
def ZiY : ZaF α := vz (fl p0) <| lc (mkS (ZtP p0 p1 p2 p3) (ZcK p0)) ((Zff p0 p1 p2 p3 pf4 R119).m)
def Zg4 : ZaF α := vs (wi (p3 - p2)) <| vz (fl p0) <| lc (mkS (Zhf p0 p1 p2 p3 [(80, vB (decide ((p3 - p2) = (1 : Int))))]) (ZcK p0)) (if decide ((p3 - p2) = (1 : Int)) = true then (Zmb p0 p1 p2 pf4).m else (ZiY p0 p1 p2 p3 pf4 R119).m)
def ZgT : ZaF α := vz (fl p0) <| lc (mkS (ZtP p0 p1 p2 p3) (ZcK p0)) ((Zg4 p0 p1 p2 p3 pf4 R119).m)
def Zfd : ZaF α := vs (wi (p2 - p1)) <| vz (fl p0) <| lc (mkS (Zhf p0 p1 p2 p3 [(28, vB (decide ((p2 - p1) = (1 : Int))))]) (ZcK p0)) (if decide ((p2 - p1) = (1 : Int)) = true then (Zrq p0 p1 p2 p3 pf4).m else (ZgT p0 p1 p2 p3 pf4 R119).m)
end
def Zu3 (R119 : (List α) → Int → Int → Int → (α → α → Option Int) → Option (List α)) (p0 : List α) (p1 : Int) (p2 : Int) (p3 : Int) (pf4 : α → α → Option Int) : Option (List α) := (Zfd p0 p1 p2 p3 pf4 R119).m
end
section
variable {C : Cx} (co : CO C 1) (p0 : List Msg) (p1 p2 : Int) (pf4 : Msg → Msg → Option Int) (R119 : (List Msg) → Int → Int → Int → (Msg → Msg → Option Int) → Option (List Msg)) (hR : ∀ (p0 : List Msg) (p1 : Int) (p2 : Int) (p3 : Int) (pf4 : Msg → Msg → Option Int), KO tp 119 1 [rz p0.length, vI p1, vI p2, vI p3, .fn (.yield 4) [] []] [o48 p0] (Zl6 pf4) (R119 p0 p1 p2 p3 pf4) Zb0 (ZbZ)) (hT : (Zl6 pf4) C.no C.l C.H0 C.θ)
section
include co hR hT
theorem Zxz : Kl 220 C (pa [0, 0, 0, 1, 1, 0, 1, 0] (Zac Tryz.f119)) [] 1 (Ziq p0 p1) (Zns p0 p1) Zb0 (ZbZ) (ZeH p0 p1 pf4) := fun (v1, v2) _ m Q Post hQ L => eN co (lf2 [0, 1, 4, 10, 11] [z0]) (lf2 [0, 1, 10] [z0]) hQ m L fun r g => ⟨fun e3 e4 => ⟨⟨fun y hy => hT _ _ y hy, by intro r; kernel_rfl, by intro r y; kernel_rfl⟩, fun y5 => ⟨id, id⟩⟩, id⟩
theorem ZuQ (v6 : Int) : Kl 220 C (pa [0, 0, 1, 0, 1, 1, 1, 0, 1, 0] (Zac Tryz.f119)) [] 1 (ZkX p0 v6) (ZmY) Zb0 (ZbZ) (ZfM p0 v6) := fun (v7, r8) _ m Q Post hQ L => eN co (lf2 [0, 10, 13] [z0]) (lf2 [] [z0]) hQ m L
theorem Zxf : Kl 220 C (pa [0, 0, 0, 1, 1, 0, 1, 0, 1] (Zac Tryz.f119)) [] 1 (Zij p0 p2) (ZnP p0 p2) Zb0 (ZbZ) (Zes p0 p2 pf4) := fun (v12, v13) _ m Q Post hQ L => eN co (lf2 [0, 2, 4, 14, 15] [z0]) (lf2 [0, 2, 14] [z0]) hQ m L fun r g => ⟨fun e14 e15 => ⟨⟨fun y hy => hT _ _ y hy, by intro r; kernel_rfl, by intro r y; kernel_rfl⟩, fun y16 => ⟨id, id⟩⟩, id⟩
theorem ZvF (v17 : Int) : Kl 220 C (pa [0, 0, 1, 0, 1, 1, 1, 0, 1, 0, 1] (Zac Tryz.f119)) [] 1 (ZkH p0 v17) (ZoF) Zb0 (ZbZ) (Zez p0 v17) := fun (v18, r19) _ m Q Post hQ L => eN co (lf2 [0, 14, 17] [z0]) (lf2 [] [z0]) hQ m L
theorem Zvu (p3 : Int) : Kl 220 C (pa [0, 0, 0, 1, 1, 1, 1, 1, 1, 1] (Zac Tryz.f119)) [] 1 (ZkV p0 p1 p2 p3) (ZoB p0 p1 p2 p3) Zb0 (ZbZ) (ZcV p0 p1 p2 p3 pf4) := fun (v25, v26) _ m Q Post hQ L => eN co (lf2 [0, 1, 2, 3, 4, 18, 19, 20, 21, 22] [z0]) (lf2 [0, 1, 2, 3, 4, 18, 19, 20] [z0]) hQ m L fun r g => ⟨fun e27 e28 => ⟨⟨fun y hy => hT _ _ y hy, by intro r; kernel_rfl, by intro r y; kernel_rfl⟩, fun y29 => ⟨id, id⟩⟩, id⟩
end
end
theorem ZJC (R119 : (List Msg) → Int → Int → Int → (Msg → Msg → Option Int) → Option (List Msg)) (hR : ∀ (p0 : List Msg) (p1 : Int) (p2 : Int) (p3 : Int) (pf4 : Msg → Msg → Option Int), KO tp 119 1 [rz p0.length, vI p1, vI p2, vI p3, .fn (.yield 4) [] []] [o48 p0] (Zl6 pf4) (R119 p0 p1 p2 p3 pf4) Zb0 (ZbZ)) (p0 : List Msg) (p1 : Int) (p2 : Int) (p3 : Int) (pf4 : Msg → Msg → Option Int) : KO tp 119 1 [rz p0.length, vI p1, vI p2, vI p3, .fn (.yield 4) [] []] [o48 p0] (Zl6 pf4) (Zu3 R119 p0 p1 p2 p3 pf4) Zb0 (ZbZ) := ko1 Tryz.func119 Tryz.ntmps119 tok [] 1 (fun C co hT y m Post L => sq (mK co 1 (lf2 [0, 1, 2, 3, 4, 28] [z0]) m L fun r g _ m L => cD m (fun m => mK co 2 (lf2 [0, 1, 4, 10, 11] [z0]) m L fun r g _ m L => sq (bk 0 (lo (lpF (Zxz co p0 p1 pf4 R119 hR hT) ii m L (fun v6 m => sq (mK co 1 (lf2 [0, 10, 13] [z0]) m L fun r g _ m L => bk 2 (lo (lpF (ZuQ co p0 pf4 R119 hR hT v6) ii m L (fun r11 m => eN co nl nl ii m L))))))))) (fun m => eN co (lf2 [0, 1, 2, 3, 4] [z0]) nl ii m L fun r g _ m L => sq (mK co 1 (lf2 [0, 1, 2, 3, 4, 80] [z0]) m L fun r g _ m L => cD m (fun m => mK co 2 (lf2 [0, 2, 4, 14, 15] [z0]) m L fun r g _ m L => sq (bk 4 (lo (lpF (Zxf co p0 p2 pf4 R119 hR hT) ii m L (fun v17 m => sq (mK co 1 (lf2 [0, 14, 17] [z0]) m L fun r g _ m L => bk 6 (lo (lpF (ZvF co p0 pf4 R119 hR hT v17) ii m L (fun r22 m => eN co nl nl ii m L))))))))) (fun m => eN co (lf2 [0, 1, 2, 3, 4] [z0]) nl ii m L fun r g _ m L => ZDe co tok tmo 5 (Zff p0 p1 p2 p3 pf4 R119) (lf2 [0, 1, 2, 3, 4, 18, 19, 20, 21, 22] [z0]) nl ii m L (Zfs p0 p1 p2 p3) (Zc8 p0 p1 p2 p3 pf4 R119) (fun (v23, v24) _ m L => sq (bk 8 (lo (lpF (Zvu co p0 p1 p2 pf4 R119 hR hT p3) ii m L (fun v30 m => mK co 1 (lf2 [0, 1, 2, 3, 4, 18, 20, 24] [z0]) m L fun r g _ m L => sq (mK co 1 (lf2 [0, 1, 2, 3, 4, 18, 20, 24, 185] [z0]) m L fun r g _ m L => cD m (fun m => rg (pR co 5 (lf2 [0, 1, 3, 4, 18, 20, 24, 186, 187, 188, 189, 190] [z0]) m L fun r g _ m L => c6 (θ := fun r => lkS [(4, r.θ 4)]) co m (ZNO p0 v30 p2 (((IntKind.i64.wrap (Zbx .u64 (IntKind.u64.wrap (p1 + p3)) 1)) + p2) - v30)) [((0, 0), o48 p0)] [] (fun z => .tup []) (fun z => [((0, 0), o48 z)]) [] fun y31 m => eR co (lf2 [0, 1, 3, 4, 18, 20, 24] [z0]) m L fun r g _ m L => sq (mK co 1 (lf2 [0, 1, 3, 4, 18, 20, 24, 199] [z0]) m L fun r g _ m L => cD m (fun m => rg (pR co 5 (lf2 [0, 3, 4, 18, 24, 200, 201, 202, 203, 204] [z0]) m L fun r g _ m L => Ze2 m fun heq m => c6 (θ := fun r => lkS [(4, r.θ 4)]) (hΘ := fun r g H' hg ho => (fun z0 z1 y hz => ZaO co g _ ho (hT z0 z1 y hz))) (xs := [rz p0.length, vI p1, vI v30, vI (IntKind.i64.wrap (Zbx .u64 (IntKind.u64.wrap (p1 + p3)) 1)), .fn (.yield 4) [] []]) (hx := by intro r H; rw [heq]; kernel_rfl) co m (hR y31 p1 v30 (IntKind.i64.wrap (Zbx .u64 (IntKind.u64.wrap (p1 + p3)) 1)) pf4) [((0, 0), o48 y31)] [] (fun z => .tup []) (fun z => [((0, 0), o48 z)]) [] fun y32 m => eR co (lf2 [0, 3, 4, 18, 24] [z0]) m L fun r g _ m L => mK co 1 (lf2 [0, 3, 4, 18, 24, 213] [z0]) m L fun r g _ m L => cD m (fun m => rg (pR co 5 (lf2 [214, 215, 216, 217, 218] [z0]) m L fun r g _ m L => Ze2 m fun heq m => c6 (θ := fun r => lkS [(4, r.θ 4)]) (hΘ := fun r g H' hg ho => (fun z0 z1 y hz => ZaO co g _ ho (hT z0 z1 y hz))) (xs := [rz p0.length, vI (IntKind.i64.wrap (Zbx .u64 (IntKind.u64.wrap (p1 + p3)) 1)), vI (((IntKind.i64.wrap (Zbx .u64 (IntKind.u64.wrap (p1 + p3)) 1)) + p2) - v30), vI p3, .fn (.yield 4) [] []]) (hx := by intro r H; rw [heq]; kernel_rfl) co m (hR y32 (IntKind.i64.wrap (Zbx .u64 (IntKind.u64.wrap (p1 + p3)) 1)) (((IntKind.i64.wrap (Zbx .u64 (IntKind.u64.wrap (p1 + p3)) 1)) + p2) - v30) p3 pf4) [((0, 0), o48 y32)] [] (fun z => .tup []) (fun z => [((0, 0), o48 z)]) [] fun y33 m => eR co (lf2 [] [z0]) m L fun r g _ m L => Zf4 (Zhj y33) co m L (fun r g => id) r g)) (fun m => fO co m L))) (fun m => eN co (lf2 [0, 3, 4, 18, 24] [z0]) nl ii m L fun r g _ m L => mK co 1 (lf2 [0, 3, 4, 18, 24, 213] [z0]) m L fun r g _ m L => cD m (fun m => rg (pR co 5 (lf2 [214, 215, 216, 217, 218] [z0]) m L fun r g _ m L => Ze2 m fun heq m => c6 (θ := fun r => lkS [(4, r.θ 4)]) (hΘ := fun r g H' hg ho => (fun z0 z1 y hz => ZaO co g _ ho (hT z0 z1 y hz))) (xs := [rz p0.length, vI (IntKind.i64.wrap (Zbx .u64 (IntKind.u64.wrap (p1 + p3)) 1)), vI (((IntKind.i64.wrap (Zbx .u64 (IntKind.u64.wrap (p1 + p3)) 1)) + p2) - v30), vI p3, .fn (.yield 4) [] []]) (hx := by intro r H; rw [heq]; kernel_rfl) co m (hR y31 (IntKind.i64.wrap (Zbx .u64 (IntKind.u64.wrap (p1 + p3)) 1)) (((IntKind.i64.wrap (Zbx .u64 (IntKind.u64.wrap (p1 + p3)) 1)) + p2) - v30) p3 pf4) [((0, 0), o48 y31)] [] (fun z => .tup []) (fun z => [((0, 0), o48 z)]) [] fun y34 m => eR co (lf2 [] [z0]) m L fun r g _ m L => Zf4 (ZgQ y34) co m L (fun r g => id) r g)) (fun m => fO co m L))))) (fun m => eN co (lf2 [0, 1, 3, 4, 18, 20, 24] [z0]) nl ii m L fun r g _ m L => sq (mK co 1 (lf2 [0, 1, 3, 4, 18, 20, 24, 199] [z0]) m L fun r g _ m L => cD m (fun m => rg (pR co 5 (lf2 [0, 3, 4, 18, 24, 200, 201, 202, 203, 204] [z0]) m L fun r g _ m L => c6 (θ := fun r => lkS [(4, r.θ 4)]) (hΘ := fun r g H' hg ho => (fun z0 z1 y hz => ZaO co g _ ho (hT z0 z1 y hz))) co m (hR p0 p1 v30 (IntKind.i64.wrap (Zbx .u64 (IntKind.u64.wrap (p1 + p3)) 1)) pf4) [((0, 0), o48 p0)] [] (fun z => .tup []) (fun z => [((0, 0), o48 z)]) [] fun y35 m => eR co (lf2 [0, 3, 4, 18, 24] [z0]) m L fun r g _ m L => mK co 1 (lf2 [0, 3, 4, 18, 24, 213] [z0]) m L fun r g _ m L => cD m (fun m => rg (pR co 5 (lf2 [214, 215, 216, 217, 218] [z0]) m L fun r g _ m L => Ze2 m fun heq m => c6 (θ := fun r => lkS [(4, r.θ 4)]) (hΘ := fun r g H' hg ho => (fun z0 z1 y hz => ZaO co g _ ho (hT z0 z1 y hz))) (xs := [rz p0.length, vI (IntKind.i64.wrap (Zbx .u64 (IntKind.u64.wrap (p1 + p3)) 1)), vI (((IntKind.i64.wrap (Zbx .u64 (IntKind.u64.wrap (p1 + p3)) 1)) + p2) - v30), vI p3, .fn (.yield 4) [] []]) (hx := by intro r H; rw [heq]; kernel_rfl) co m (hR y35 (IntKind.i64.wrap (Zbx .u64 (IntKind.u64.wrap (p1 + p3)) 1)) (((IntKind.i64.wrap (Zbx .u64 (IntKind.u64.wrap (p1 + p3)) 1)) + p2) - v30) p3 pf4) [((0, 0), o48 y35)] [] (fun z => .tup []) (fun z => [((0, 0), o48 z)]) [] fun y36 m => eR co (lf2 [] [z0]) m L fun r g _ m L => Zf4 (Zhc y36) co m L (fun r g => id) r g)) (fun m => fO co m L))) (fun m => eN co (lf2 [0, 3, 4, 18, 24] [z0]) nl ii m L fun r g _ m L => mK co 1 (lf2 [0, 3, 4, 18, 24, 213] [z0]) m L fun r g _ m L => cD m (fun m => rg (pR co 5 (lf2 [214, 215, 216, 217, 218] [z0]) m L fun r g _ m L => c6 (θ := fun r => lkS [(4, r.θ 4)]) (hΘ := fun r g H' hg ho => (fun z0 z1 y hz => ZaO co g _ ho (hT z0 z1 y hz))) co m (hR p0 (IntKind.i64.wrap (Zbx .u64 (IntKind.u64.wrap (p1 + p3)) 1)) (((IntKind.i64.wrap (Zbx .u64 (IntKind.u64.wrap (p1 + p3)) 1)) + p2) - v30) p3 pf4) [((0, 0), o48 p0)] [] (fun z => .tup []) (fun z => [((0, 0), o48 z)]) [] fun y37 m => eR co (lf2 [] [z0]) m L fun r g _ m L => Zf4 (ZgN y37) co m L (fun r g => id) r g)) (fun m => fO co m L)))))))))) fun J45 r g => ⟨J45 ((((IntKind.i64.wrap (Zbx .u64 (IntKind.u64.wrap (p1 + p3)) 1)) + p2) - p3), (IntKind.i64.wrap (Zbx .u64 (IntKind.u64.wrap (p1 + p3)) 1))), J45 (p1, p2)⟩)))))
section
variable {α : Type} [Rw α] [Tid α]
def Zam : Nat → (List α) → Int → Int → Int → (α → α → Option Int) → Option (List α)
 | 0 => fun _ _ _ _ _ => none
 | fu + 1 => Zu3 (Zam fu)
end
theorem ZAc : ∀ (fu : Nat) (p0 : List Msg) (p1 : Int) (p2 : Int) (p3 : Int) (pf4 : Msg → Msg → Option Int), KO tp 119 1 [rz p0.length, vI p1, vI p2, vI p3, .fn (.yield 4) [] []] [o48 p0] (Zl6 pf4) (Zam fu p0 p1 p2 p3 pf4) Zb0 (ZbZ)
 | 0, p0, p1, p2, p3, pf4 => ⟨fun _ _ _ _ _ _ _ _ _ _ _ h => by cases h⟩
 | fu + 1, p0, p1, p2, p3, pf4 => ZJC (Zam fu) (ZAc fu) p0 p1 p2 p3 pf4
section
variable {α : Type} [Rw α] [Tid α]
def H93 (pf2 : α → α → Option Int) : Cl := fun no l H θ => (∀ (z0 : α) (z1 : α) y, pf2 z0 z1 = some y → Zfq tp l no H (θ 2) [.agg ((Rw.f z0).map .d), .agg ((Rw.f z1).map .d)] (vI y))
section
variable (p0 : List α) (p1 : Int) (pf2 : α → α → Option Int) (v2 : Nat) (y4 : List α) (v1 : Nat) (r3 : List α) (v8 v11 : Nat) (y13 : List α) (v10 : Nat) (r12 y16 : List α) (v14 : Nat) (r15 r9 : List α)
abbrev Zka (α : Type) := PT 1 (Lv (Nat × Nat × List α) (Nat × List α) (List α))
abbrev Zkm (α : Type) := PT 1 (Lv (Nat × List α) (List α) (List α))
abbrev Zvb : List (Nat × AV) := [(0, rz p0.length), (1, vI p1), (2, .fn (.yield 2) [] []), (6, vN v8)]
abbrev ZDq : List (Key × Blk) := [((0, 0), og r3)]
abbrev ZC3 : List (Key × Blk) := [((0, 0), og r12)]
abbrev ZFc : List (Key × Blk) := [((0, 0), og r15)]
abbrev ZI7 : List (Nat × AV) := [(0, rz p0.length), (1, vI p1), (2, .fn (.yield 2) [] []), (6, vI 20), (7, vN v1), (8, vN v2)]
abbrev ZHe : List (Nat × AV) := [(0, rz p0.length), (1, vI p1), (2, .fn (.yield 2) [] []), (6, vN v8), (7, vN v10), (8, vN v11)]
abbrev Zje (t : List (Nat × AV)) : List (Nat × AV) := (0, rz p0.length) :: (1, vI p1) :: (2, .fn (.yield 2) [] []) :: t
def ZqX : Nat × Nat × List α → St := fun (v1, v2, r3) => mkS (ZI7 p0 p1 v2 v1) (ZDq r3)
def Zwe : Nat × List α → Nat × St := fun (v5, r6) => (0, mkS (Zje p0 p1 [(6, vI 20), (7, vN v5)]) [((0, 0), og r6)])
def ZAj : Zka α := vs (wa v2 20) <| vz (fl y4) <| ln (ZqX p0 p1) (v2, v2 + 20, y4)
def ZEU : Zka α := vz (fl y4) <| lc (mkS (Zje p0 p1 [(6, vI 20), (8, vN v2)]) [((0, 0), og y4)]) ((ZAj p0 p1 v2 y4).m)
def ZC0 : Zka α := vz (fl r3) <| lc (mkS (Zje p0 p1 [(6, vI 20), (8, vN v2), (14, rz p0.length), (15, vN v1), (16, vN v2), (17, .fn (.yield 2) [] [])]) (ZDq r3)) (if p0.length = r3.length then (Zau r3 (v1 : Int) (v2 : Int) pf2).bind fun y4 => (ZEU p0 p1 v2 y4).m else none)
def ZBt : Zka α := br (decide ((v2 : Int) ≤ p1)) (vz (fl r3) <| lc (mkS (ZI7 p0 p1 v2 v1) (ZDq r3)) ((ZC0 p0 p1 pf2 v2 v1 r3).m)) (vz (fl r3) <| lxe (Zwe p0 p1) (v1, r3))
def ZiV := fun ((v1, v2, r3) : Nat × Nat × List α) => (ZBt p0 p1 pf2 v2 v1 r3).m
def ZpY : Nat × List α → St := fun (v8, r9) => mkS (Zvb p0 p1 v8) [((0, 0), og r9)]
def Zwb : List α → Nat × St := fun r17 => (2, mkS [] [((0, 0), og r17)])
def ZsP : Nat × Nat × List α → St := fun (v10, v11, r12) => mkS (ZHe p0 p1 v8 v11 v10) (ZC3 r12)
def ZwS : Nat × List α → Nat × St := fun (v14, r15) => (4, mkS (Zje p0 p1 [(6, vN v8), (7, vN v14)]) (ZFc r15))
def ZCO : Zka α := vs (wm 2 v8) <| vs (wa v11 (2 * v8)) <| vz (fl y13) <| ln (ZsP p0 p1 v8) (v11, v11 + (2 * v8), y13)
def ZDP : Zka α := vz (fl y13) <| lc (mkS (Zje p0 p1 [(6, vN v8), (8, vN v11)]) [((0, 0), og y13)]) ((ZCO p0 p1 v8 v11 y13).m)
def ZB7 : Zka α := vs (wa v10 v8) <| vz (fl r12) <| lc (mkS (Zje p0 p1 [(6, vN v8), (8, vN v11), (36, rz p0.length), (37, vN v10), (40, vN (v10 + v8)), (41, vN v11), (42, .fn (.yield 2) [] [])]) (ZC3 r12)) (if p0.length = r12.length then (Zam ((v11 : Int) - (v10 : Int) + 1).toNat r12 (v10 : Int) ((v10 + v8 : Nat) : Int) (v11 : Int) pf2).bind fun y13 => (ZDP p0 p1 v8 v11 y13).m else none)
def ZE2 : Zka α := br (decide ((v11 : Int) ≤ p1)) (vz (fl r12) <| lc (mkS (ZHe p0 p1 v8 v11 v10) (ZC3 r12)) ((ZB7 p0 p1 pf2 v8 v11 v10 r12).m)) (vz (fl r12) <| lxe (ZwS p0 p1 v8) (v10, r12))
def Zi1 := fun ((v10, v11, r12) : Nat × Nat × List α) => (ZE2 p0 p1 pf2 v8 v11 v10 r12).m
def ZwL : Zkm α := vs (wm v8 2) <| vz (fl y16) <| ln (ZpY p0 p1) (v8 * 2, y16)
def ZoI : Zkm α := vz (fl y16) <| lc (mkS (Zvb p0 p1 v8) [((0, 0), og y16)]) ((ZwL p0 p1 v8 y16).m)
def ZnB : Zkm α := vz (fl r15) <| lc (mkS (Zje p0 p1 [(6, vN v8), (55, rz p0.length), (56, vN v14), (57, vN (v14 + v8)), (58, vI p1), (59, .fn (.yield 2) [] [])]) (ZFc r15)) (if p0.length = r15.length then (Zam (p1 - (v14 : Int) + 1).toNat r15 (v14 : Int) ((v14 + v8 : Nat) : Int) p1 pf2).bind fun y16 => (ZoI p0 p1 v8 y16).m else none)
def ZnE : Zkm α := vs (wm v8 2) <| vz (fl r15) <| ln (ZpY p0 p1) (v8 * 2, r15)
def Zm7 : Zkm α := vz (fl r15) <| lc (mkS (Zvb p0 p1 v8) [((0, 0), og r15)]) ((ZnE p0 p1 v8 r15).m)
def Zox : Zkm α := vs (wa v14 v8) <| vz (fl r15) <| lc (mkS (Zje p0 p1 [(6, vN v8), (7, vN v14), (9, vN (v14 + v8)), (54, vB (decide (((v14 + v8 : Nat) : Int) < p1)))]) (ZFc r15)) (if decide (((v14 + v8 : Nat) : Int) < p1) = true then (ZnB p0 p1 pf2 v8 v14 r15).m else (Zm7 p0 p1 v8 r15).m)
def ZoK : Zkm α := vs (wm 2 v8) <| vz (fl r9) <| lc (ZsP p0 p1 v8 (0, 2 * v8, r9)) ((Zaa (Zi1 p0 p1 pf2 v8) big (0, 2 * v8, r9)).bind (Sum.elim (fun (v14, r15) => (Zox p0 p1 pf2 v8 v14 r15).m) (fun z => some (.rt z))))
def Znr : Zkm α := br (decide ((v8 : Int) < p1)) (vz (fl r9) <| lc (mkS (Zvb p0 p1 v8) [((0, 0), og r9)]) ((ZoK p0 p1 pf2 v8 r9).m)) (vz (fl r9) <| lxe (Zwb) r9)
def Zhs := fun ((v8, r9) : Nat × List α) => (Znr p0 p1 pf2 v8 r9).m
def Zle (r17 : List α) : PT 1 (List α) := lr Zb0 (ZbZ) r17
def Zzu (y7 : List α) : PT 1 (List α) := vz (fl y7) <| lc (ZpY p0 p1 (20, y7)) ((Zaa (Zhs p0 p1 pf2) big (20, y7)).bind (Sum.elim (fun r17 => (Zle r17).m) some))
def Zzo (v5 : Nat) (r6 : List α) : PT 1 (List α) := vz (fl r6) <| lc (mkS (Zje p0 p1 [(6, vI 20), (23, rz p0.length), (24, vN v5), (25, vI p1), (26, .fn (.yield 2) [] [])]) [((0, 0), og r6)]) (if p0.length = r6.length then (Zau r6 (v5 : Int) p1 pf2).bind fun y7 => (Zzu p0 p1 pf2 y7).m else none)
def Zz3 : PT 1 (List α) := vz (fl p0) <| lc (ZqX p0 p1 (0, 20, p0)) ((Zaa (ZiV p0 p1 pf2) big (0, 20, p0)).bind (Sum.elim (fun (v5, r6) => (Zzo p0 p1 pf2 v5 r6).m) some))
def Zcj (p0 : List α) (p1 : Int) (pf2 : α → α → Option Int) : Option (List α) := (Zz3 p0 p1 pf2).m
end
end
section
variable {C : Cx} (co : CO C 1) (p0 : List Msg) (p1 : Int) (pf2 : Msg → Msg → Option Int) (hT : (H93 pf2) C.no C.l C.H0 C.θ)
section
include co hT
theorem ZEI : Kl 63 C (pa [0, 0, 0, 1, 1] (Zac Tryz.f93)) [] 1 (ZqX p0 p1) (Zwe p0 p1) Zb0 (ZbZ) (ZiV p0 p1 pf2) := fun (v1, v2, r3) _ m Q Post hQ L => mJ co 1 (lf2 [0, 1, 2, 6, 7, 8] [z0]) (lf2 [0, 1, 2, 6, 7] [z0]) hQ m L fun r g => ⟨fun _ m L => bk 1 (sq (rg (pR co 4 (lf2 [0, 1, 2, 6, 8, 14, 15, 16, 17] [z0]) m L fun r g _ m L => Ze2 m fun heq m => c6 (θ := fun r => lkS [(3, r.θ 2)]) (hΘ := fun r g H' hg ho => (fun z0 z1 y hz => ZaO co g _ ho (hT z0 z1 y hz))) (xs := [rz p0.length, vN v1, vN v2, .fn (.yield 2) [] []]) (hx := by intro r H; rw [heq]; kernel_rfl) co m (ZG9 r3 (v1 : Int) (v2 : Int) pf2) [((0, 0), o48 r3)] [] (fun z => .tup []) (fun z => [((0, 0), o48 z)]) [] fun y4 m => eR co (lf2 [0, 1, 2, 6, 8] [z0]) m L fun r g _ m L => eN co (lf2 [0, 1, 2, 6, 7, 8] [z0]) nl hQ m L))), id⟩
theorem ZBq (v8 : Nat) : Kl 63 C (pa [0, 0, 0, 1, 0, 1, 0, 0, 1, 1, 1, 1] (Zac Tryz.f93)) [] 1 (ZsP p0 p1 v8) (ZwS p0 p1 v8) Zb0 (ZbZ) (Zi1 p0 p1 pf2 v8) := fun (v10, v11, r12) _ m Q Post hQ L => mJ co 1 (lf2 [0, 1, 2, 6, 7, 8] [z0]) (lf2 [0, 1, 2, 6, 7] [z0]) hQ m L fun r g => ⟨fun _ m L => bk 5 (sq (rg (pR co 7 (lf2 [0, 1, 2, 6, 8, 36, 37, 40, 41, 42] [z0]) m L fun r g _ m L => Ze2 m fun heq m => c6 (θ := fun r => lkS [(4, r.θ 2)]) (hΘ := fun r g H' hg ho => (fun z0 z1 y hz => ZaO co g _ ho (hT z0 z1 y hz))) (xs := [rz p0.length, vN v10, vN (v10 + v8), vN v11, .fn (.yield 2) [] []]) (hx := by intro r H; rw [heq]; kernel_rfl) co m (ZAc ((v11 : Int) - (v10 : Int) + 1).toNat r12 (v10 : Int) ((v10 + v8 : Nat) : Int) (v11 : Int) pf2) [((0, 0), o48 r12)] [] (fun z => .tup []) (fun z => [((0, 0), o48 z)]) [] fun y13 m => eR co (lf2 [0, 1, 2, 6, 8] [z0]) m L fun r g _ m L => eN co (lf2 [0, 1, 2, 6, 7, 8] [z0]) nl hQ m L))), id⟩
theorem Zz8 : Kl 63 C (pa [0, 0, 1, 1, 1, 1] (Zac Tryz.f93)) [] 1 (ZpY p0 p1) (Zwb) Zb0 (ZbZ) (Zhs p0 p1 pf2) := fun (v8, r9) _ m Q Post hQ L => mJ co 1 (lf2 [0, 1, 2, 6] [z0]) (lf2 [] [z0]) hQ m L fun r g => ⟨fun _ m L => bk 3 (mJ co 1 (lf2 [0, 1, 2, 6, 7, 8] [z0]) nl hQ m L fun r g _ m L => sq (bk 4 (lo (lpL (ZBq co p0 p1 pf2 hT v8) hQ m L (fun (v14, r15) m => sq (mJ co 2 (lf2 [0, 1, 2, 6, 7, 9, 54] [z0]) nl hQ m L fun r g _ m L => cD m (fun m => rg (pR co 5 (lf2 [0, 1, 2, 6, 55, 56, 57, 58, 59] [z0]) m L fun r g _ m L => Ze2 m fun heq m => c6 (θ := fun r => lkS [(4, r.θ 2)]) (hΘ := fun r g H' hg ho => (fun z0 z1 y hz => ZaO co g _ ho (hT z0 z1 y hz))) (xs := [rz p0.length, vN v14, vN (v14 + v8), vI p1, .fn (.yield 2) [] []]) (hx := by intro r H; rw [heq]; kernel_rfl) co m (ZAc (p1 - (v14 : Int) + 1).toNat r15 (v14 : Int) ((v14 + v8 : Nat) : Int) p1 pf2) [((0, 0), o48 r15)] [] (fun z => .tup []) (fun z => [((0, 0), o48 z)]) [] fun y16 m => eR co (lf2 [0, 1, 2, 6] [z0]) m L fun r g _ m L => eN co (lf2 [0, 1, 2, 6] [z0]) nl hQ m L)) (fun m => eN co (lf2 [0, 1, 2, 6] [z0]) nl hQ m L fun r g _ m L => eN co (lf2 [0, 1, 2, 6] [z0]) nl hQ m L))))))), id⟩
end
end
theorem ZRa (p0 : List Msg) (p1 : Int) (pf2 : Msg → Msg → Option Int) : KO tp 93 1 [rz p0.length, vI p1, .fn (.yield 2) [] []] [o48 p0] (H93 pf2) (Zcj p0 p1 pf2) Zb0 (ZbZ) := ko1 Tryz.func93 Tryz.ntmps93 tok [] 1 (fun C co hT y m Post L => mK co 2 (lf2 [0, 1, 2, 6, 7, 8] [z0]) m L fun r g _ m L => sq (bk 0 (lo (lpF (ZEI co p0 p1 pf2 hT) ii m L (fun (v5, r6) m => sq (rg (pR co 4 (lf2 [0, 1, 2, 6, 23, 24, 25, 26] [z0]) m L fun r g _ m L => Ze2 m fun heq m => c6 (θ := fun r => lkS [(3, r.θ 2)]) (hΘ := fun r g H' hg ho => (fun z0 z1 y hz => ZaO co g _ ho (hT z0 z1 y hz))) (xs := [rz p0.length, vN v5, vI p1, .fn (.yield 2) [] []]) (hx := by intro r H; rw [heq]; kernel_rfl) co m (ZG9 r6 (v5 : Int) p1 pf2) [((0, 0), o48 r6)] [] (fun z => .tup []) (fun z => [((0, 0), o48 z)]) [] fun y7 m => eR co (lf2 [0, 1, 2, 6] [z0]) m L fun r g _ m L => bk 2 (lo (lpF (Zz8 co p0 p1 pf2 hT) ii m L (fun r17 m => Zf4 (Zle r17) co m L (fun r g => id) r g))))))))))
section
variable {α : Type} [Rw α] [Tid α]
def H63 (pf1 : α → α → Option Int) : Cl := fun no l H θ => (∀ (z0 : α) (z1 : α) y, pf1 z0 z1 = some y → Zfq tp l no H (θ 1) [.agg ((Rw.f z0).map .d), .agg ((Rw.f z1).map .d)] (vI y))
section
variable (y1 : List α)
def Zuo : PT 1 (List α) := lr Zb0 (ZbZ) y1
def ZLk : PT 1 (List α) := vz (fl y1) <| lc (mkS [] [((0, 0), og y1)]) ((Zuo y1).m)
def ZLq (p0 : List α) (pf1 : α → α → Option Int) : PT 1 (List α) := vz (eqN p0.length) <| vz (fl p0) <| lc (mkS [(4, rz p0.length), (6, vN p0.length), (7, .fn (.yield 1) [] [])] [((0, 0), og p0)]) ((Zcj p0 (p0.length : Int) pf1).bind fun y1 => (ZLk y1).m)
def ZaP (p0 : List α) (pf1 : α → α → Option Int) : Option (List α) := (ZLq p0 pf1).m
end
end
theorem ZPt (p0 : List Msg) (pf1 : Msg → Msg → Option Int) : KO tp 63 1 [rz p0.length, .fn (.yield 1) [] []] [o48 p0] (H63 pf1) (ZaP p0 pf1) Zb0 (ZbZ) := ko1 Tryz.func63 Tryz.ntmps63 tok [] 1 (fun C co hT y m Post L => rg (pR co 4 (lf2 [4, 6, 7] [z0]) m L fun r g _ m L => c6 (θ := fun r => lkS [(2, r.θ 1)]) (hΘ := fun r g H' hg ho => (fun z0 z1 y hz => ZaO co g _ ho (hT z0 z1 y hz))) co m (ZRa p0 (p0.length : Int) pf1) [((0, 0), o48 p0)] [] (fun z => .tup []) (fun z => [((0, 0), o48 z)]) [] fun y1 m => eR co (lf2 [] [z0]) m L fun r g _ m L => Zf4 (Zuo y1) co m L (fun r g => id) r g))
def ZJT (p0 : Bt) : PT 0 (Bool) := lr E49 (fun _ => []) (!decide (p0 = p0))
def Zdx (p0 : Bt) : Option (Bool) := (ZJT p0).m
theorem ZOz (p0 : Bt) : KC tp 94 [vS p0] (Zdx p0) E49 := kC Tryz.func94 Tryz.ntmps94 [.tmp 2] fun co m L => fO co m L
def ZJ4 (p0 : Bt) (p1 : Bt) : PT 0 (Int) := cl (ZOz p0) fun y1 => cl (ZOz p1) fun y2 => br y1 (br y2 (lr E47 (fun _ => []) 0) (lr E47 (fun _ => []) (-1))) (br y2 (lr E47 (fun _ => []) 1) (br (sLt p0 p1) (lr E47 (fun _ => []) (-1)) (br (!(sLt p0 p1 || decide (p0 = p1))) (lr E47 (fun _ => []) 1) (lr E47 (fun _ => []) 0))))
def Zcq (p0 : Bt) (p1 : Bt) : Option (Int) := (ZJ4 p0 p1).m
theorem ZNP (p0 : Bt) (p1 : Bt) : KC tp 65 [vS p0, vS p1] (Zcq p0 p1) E47 := kC Tryz.func65 Tryz.ntmps65 [.tmp 4] fun co m L => fO co m L
def ZGK (p0 : Msg) (p1 : Msg) : PT 0 (Int) := vw .go <| vw .go <| cl (ZNP p0.name p1.name) fun y1 => lr E47 (fun _ => []) y1
def Zcc (p0 : Msg) (p1 : Msg) : Option (Int) := (ZGK p0 p1).m
theorem ZRc (p0 : Msg) (p1 : Msg) : KC tp 64 [.agg ((ZaC p0).map .d), .agg ((ZaC p1).map .d)] (Zcc p0 p1) E47 := kC Tryz.func64 Tryz.ntmps64 [.tmp 4] fun co m L => fO co m L
section
variable {C : Cx} (co : CO C 1) (p0 : List Enm) (p1 p2 : Int) (pf3 : Enm → Enm → Option Int) (hT : (ZFL pf3) C.no C.l C.H0 C.θ)
section
include co hT
theorem ZwN (v1 : Int) : Kl 53 C (pa [0, 0, 1, 0, 0, 1, 0, 0, 1] (Zac Tryz.f120)) [] 1 (Zk6 p0 p1 p2 v1) (Zn9 p0 p1 p2 v1) Zb0 (ZbZ) (ZdZ p0 p1 p2 pf3 v1) := fun (v3, r4) _ m Q Post hQ L => eN co (lf2 [0, 1, 2, 3, 8, 9] [z0]) (lf2 [0, 1, 2, 3, 8] [z0]) hQ m L fun r g e5 e6 => ⟨⟨fun y hy => hT _ _ y hy, by intro r; kernel_rfl, by intro r y; kernel_rfl⟩, fun y7 => ⟨fun e8 e9 => id, id⟩⟩
theorem ZuR : Kl 53 C (pa [0, 0, 1] (Zac Tryz.f120)) [] 1 (ZkB p0 p1 p2) (Znf) Zb0 (ZbZ) (ZfI p0 p1 p2 pf3) := fun (v1, r2) _ m Q Post hQ L => mJ co 1 (lf2 [0, 1, 2, 3, 8] [z0]) (lf2 [] [z0]) hQ m L fun r g => ⟨fun _ m L => sq (bk 1 (mJ co 1 (lf2 [0, 1, 2, 3, 8, 9] [z0]) nl hQ m L fun r g _ m L => bk 2 (lo (lpL (ZwN co p0 p1 p2 pf3 hT v1) hQ m L (fun r10 m => eN co (lf2 [0, 1, 2, 3, 8] [z0]) nl hQ m L))))), id⟩
end
end
theorem ZLm (p0 : List Enm) (p1 : Int) (p2 : Int) (pf3 : Enm → Enm → Option Int) : KO tp 120 1 [rz p0.length, vI p1, vI p2, .fn (.yield 3) [] []] [o55 p0] (ZFL pf3) (Zau p0 p1 p2 pf3) Zb0 (ZbZ) := kO Tryz.func120 Tryz.ntmps120 [] 1 (fun co hT m L => mK co 1 (lf2 [0, 1, 2, 3, 8] [z0]) m L fun r g _ m L => bk 0 (lo (lpF (ZuR co p0 p1 p2 pf3 hT) ii m L (fun r11 m => Zf4 (ZkS r11) co m L (fun r g => id) r g))))
section
variable {C : Cx}
theorem ZuX (co : CO C 1) (p0 : List Enm) (p1 : Int) (p2 : Int) (p3 : Int) : Kl 38 C (pa [0, 0, 1] (Zac Tryz.f142)) [] 1 (ZjY p0 p1 p2 p3) (Zm4) Zb0 (ZbZ) (Zgd p0 p1 p2 p3) := fun (v1, r2) _ m Q Post hQ L => eN co (lf2 [0, 1, 2, 3, 10] [z0]) (lf2 [] [z0]) hQ m L
end
theorem ZAl (p0 : List Enm) (p1 : Int) (p2 : Int) (p3 : Int) : KO tp 142 1 [rz p0.length, vI p1, vI p2, vI p3, .fn (.yield 4) [] []] [o55 p0] ct (ZaE p0 p1 p2 p3) Zb0 (ZbZ) := kO Tryz.func142 Tryz.ntmps142 [] 1 (fun co hT m L => mK co 1 (lf2 [0, 1, 2, 3, 10] [z0]) m L fun r g _ m L => bk 0 (lo (lpF (ZuX co p0 p1 p2 p3) ii m L (fun r5 m => Zf4 (Zld r5) co m L (fun r g => id) r g))))
section
variable {C : Cx}
theorem Zvk (co : CO C 1) (p0 : List Enm) (p2 : Int) : Kl 58 C (pa [0, 0, 0, 1, 1] (Zac Tryz.f136)) [] 1 (Zit p0 p2) (ZnD p0 p2) Zb0 (ZbZ) (Zex p0 p2) := fun (v1, v2, r3) _ m Q Post hQ L => mJ co 1 (lf2 [0, 2, 4, 10, 11] [z0]) (lf2 [0, 2, 4, 10] [z0]) hQ m L fun r g => ⟨fun _ m L => bk 1 (mJ co 1 (lf2 [0, 2, 4, 10, 11, 23] [z0]) nl hQ m L fun r g _ m L => cD m (fun m => sq (rg (pR co 7 (lf2 [0, 2, 4, 10, 11, 24, 27, 28, 29, 30] [z0]) m L fun r g _ m L => Ze2 m fun heq m => c6 (θ := fun r => lkS [(4, r.θ 4)]) (xs := [rz p0.length, vI (p2 - v1), vI p2, vI v2, .fn (.yield 4) [] []]) (hx := by intro r H; rw [heq]; kernel_rfl) co m (ZAl r3 (p2 - v1) p2 v2) [((0, 0), o55 r3)] [] (fun z => .tup []) (fun z => [((0, 0), o55 z)]) [] fun y4 m => eR co (lf2 [0, 2, 4, 10, 11] [z0]) m L fun r g _ m L => eN co (lf2 [0, 2, 4, 10, 11] [z0]) nl hQ m L))) (fun m => sq (rg (pR co 11 (lf2 [0, 2, 4, 10, 11, 35, 38, 43, 44, 45] [z0]) m L fun r g _ m L => Ze2 m fun heq m => c6 (θ := fun r => lkS [(4, r.θ 4)]) (xs := [rz p0.length, vI (p2 - v1), vI ((p2 + v2) - v1), vI v1, .fn (.yield 4) [] []]) (hx := by intro r H; rw [heq]; kernel_rfl) co m (ZAl r3 (p2 - v1) ((p2 + v2) - v1) v1) [((0, 0), o55 r3)] [] (fun z => .tup []) (fun z => [((0, 0), o55 z)]) [] fun y5 m => eR co (lf2 [0, 2, 4, 10, 11] [z0]) m L fun r g _ m L => eN co (lf2 [0, 2, 4, 10, 11] [z0]) nl hQ m L)))), id⟩
end
theorem ZMP (p0 : List Enm) (p1 : Int) (p2 : Int) (p3 : Int) : KO tp 136 1 [rz p0.length, vI p1, vI p2, vI p3, .fn (.yield 4) [] []] [o55 p0] ct (ZbH p0 p1 p2 p3) Zb0 (ZbZ) := kO Tryz.func136 Tryz.ntmps136 [] 1 (fun co hT m L => mK co 2 (lf2 [0, 2, 4, 10, 11] [z0]) m L fun r g _ m L => sq (bk 0 (lo (lpF (Zvk co p0 p2) ii m L (fun (v6, r7) m => rg (pR co 7 (lf2 [50, 53, 54, 55, 56] [z0]) m L fun r g _ m L => Ze2 m fun heq m => c6 (θ := fun r => lkS [(4, r.θ 4)]) (xs := [rz p0.length, vI (p2 - v6), vI p2, vI v6, .fn (.yield 4) [] []]) (hx := by intro r H; rw [heq]; kernel_rfl) co m (ZAl r7 (p2 - v6) p2 v6) [((0, 0), o55 r7)] [] (fun z => .tup []) (fun z => [((0, 0), o55 z)]) [] fun y8 m => eR co (lf2 [] [z0]) m L fun r g _ m L => Zf4 (Zkx y8) co m L (fun r g => id) r g))))))
end
end Go.Proofs.YthagpbkmakocjaaGreat
