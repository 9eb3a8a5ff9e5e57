import Derived.Test.YtchkcemlglpobaaGreatCl14
import Derived.Test.YtchkcemlglpobaaGreatCl16
import Derived.Test.YtchkcemlglpobaaGreatCl15
import Derived.Test.YtchkcemlglpobaaGreatProg
import Derived.Test.YtchkcemlglpobaaGreatCl11
import Derived.Sort.Walk0
import Derived.Test.YtchkcemlglpobaaGreatCl00
namespace Go.Eng
set_option linter.all false
open Go Go.RowKit
def gF (gs fr : List Nat) (δ : Nat → Nat) : Key → Nat
 | (0, i) => match fr.any (Nat.beq i) with | true => δ i | false => gOf gs (0, i)
 | (_ + 1, _) => 0
def rF (l : Nat) (ks : List Key) (gs fr : List Nat) (δ : Nat → Nat) (H : Hp) : Ren := ⟨kOf l ks, gF gs fr δ, fun _ => .top, H, fun k => k ∈ ks⟩
def LvP (κ : Key → Key) : List (Nat × Nat) → Prop
 | [] => True
 | (a, b) :: t => (κ (0, a)).1 ≤ (κ (0, b)).1 ∧ LvP κ t
structure KG (P : Program) (f : FuncId) (os : Nat) (fr : List Nat) (lv : List (Nat × Nat)) (ys : List AV) (bi : List Blk) {γ : Type} (M : Option γ) (e : γ → AV) (bs : γ → List Blk) : Prop where
 k : ∀ l H (ks : List Key) (gs : List Nat), ks.length = os → ZuD l ks → ks.Nodup → HOk H (rOf l ks gs (fun _ => .top) H) (Zjo 0 bi) 0 ks → LvP (kOf l ks) lv → ∀ y, M = some y →
  ZbY P f l (Zan (rOf l ks gs (fun _ => .top) H) ys) H (fun z H' => ∃ δ, z = ren (rF l ks gs fr δ H) (e y) ∧ H' = ZiQ H ks (Zda (rF l ks gs fr δ H) 0 (bs y)))
theorem kf1 {P : Program} {T : Nat → Option TI} {n : Nat} {f : FuncId} {fn : Func} {ys : List AV} {bi : List Blk} {γ : Type} {M : Option γ} {e : γ → AV} {bs : γ → List Blk} (hf : P.funcs[f]? = some fn) (hn : fn.ntmps = n) (hT : TOk P T) (rs : List ResultVar) (os : Nat) (fr fx : List Nat) (lv : List (Nat × Nat))
  (h : ∀ C : Cx, COx C os fx → LvP C.κ lv → ∀ y, M = some y → ∀ Post : AV → List Blk → Prop, HL (fun y => Post (e y) (bs y)) y → LW P n C (pa [] (Zai fn)) (mkS (Zjn 0 ys) (Zjo 0 bi)) (FQ T rs os Post))
  (hfx : (ZuO os).all (fun i => fr.any (Nat.beq i) || fx.any (Nat.beq i)) = true := by kernel_rfl)
  (he : ∀ y, kno os (e y) = true := by intro y; kernel_rfl) (hB : ∀ y, Zrn os (bs y) := by intro y; repeat (first | exact trivial | refine ⟨.inl (Zag _ _), rfl, ?_⟩ | refine ⟨.inl ZlJ, rfl, ?_⟩ | refine ⟨.inr (by kernel_rfl), rfl, ?_⟩)) (hl : ∀ y, (bs y).length = os := by intro y; rfl) (hin : ZvH os (Zjo 0 bi) = true := by kernel_rfl)
  (hb : fn.body = some (Zai fn) := by kernel_rfl) (hname : (fn.name == "runtime.NumGoroutine") = false := by kernel_rfl) (hr : fn.results.toList = rs := by kernel_rfl) (hx : Nat.ble ys.length n = true := by kernel_rfl) : KG P f os fr lv ys bi M e bs :=
 ⟨fun l H ks gs hks hlow hnd hH hlv y hy => by
  subst hks
  refine Zgp rs (Zai fn) ks gs fx (fun _ => .top) ys (Zjo 0 bi) (fun z b => z = e y ∧ b = bs y) hf hb hname hn hr (by rw [ZaB]; exact Yc hx) hT (Zhg hlow) hnd (ZfZ hin) (ZjI hin) (fun i k hk => by have := Zpv hH i k hk; rw [Yz] at this; exact this) rfl (fun C hC hO hF hl' hH0 hθ hκ hno => ?_) fun z b ⟨e1, e2⟩ => ?_
  ·refine h C ⟨hC, hO, hF, fun q hq => ?_⟩ (by rw [hκ]; exact hlv) y hy _ ⟨rfl, rfl⟩
   rw [hno, hκ]
   show (match nth ks q with | some k => k | none => (0, 0)) ∈ ks
   rw [Zby, Yb (by omega)]
   exact Yan _
  ·subst e1; subst e2
   refine ⟨hl y, (hB y).live, fun r h1 h2 h3 h4 h5 => ⟨fun i => r.γ (0, i), ?_⟩⟩
   have hs : ZlM ks.length r (rF l ks gs fr (fun i => r.γ (0, i)) H) := fun q hq => by
    refine ⟨by rw [h1]; rfl, ?_⟩
    show r.γ (0, q) = match fr.any (Nat.beq q) with | true => r.γ (0, q) | false => gOf gs (0, q)
    cases hq' : fr.any (Nat.beq q) with
    | true => rfl
    | false =>
     have := Yh.1 hfx q (Zft hq)
     rw [hq', YaE] at this
     obtain ⟨j, hj, e⟩ := YH.1 this
     have := Ya e
     subst this
     exact h5 q hj
   exact ⟨Zj5 hs _ (he y), by rw [Zrn.ren hs _ _ (by rw [hl]; omega) (hB y)]⟩⟩
def gB (r : Ren) (fr : List Nat) (δ : Nat → Nat) : Nat → List (Key × Blk) → Key → Nat
 | _, [], k => r.γ k
 | i, (q, _) :: t, k => match fr.any (Nat.beq i), ZdW k q with | true, true => δ i | _, _ => gB r fr δ (i + 1) t k
def frK (fr : List Nat) : Nat → List (Key × Blk) → List Key
 | _, [] => []
 | i, (q, _) :: t => match fr.any (Nat.beq i) with | true => q :: frK fr (i + 1) t | false => frK fr (i + 1) t
theorem Zrt {r : Ren} {fr : List Nat} {δ : Nat → Nat} {k : Key} : ∀ (cb : List (Key × Blk)) (i : Nat), k ∉ frK fr i cb → gB r fr δ i cb k = r.γ k
 | [], i, _ => rfl
 | (q, b) :: t, i, h => by
  simp only [frK] at h
  simp only [gB]
  cases hf : fr.any (Nat.beq i) with
  | false => rw [hf] at h; exact Zrt t (i + 1) h
  | true =>
   rw [hf] at h
   simp only [Ys, not_or] at h
   have : ZdW k q = false := by
    cases hk : ZdW k q with
    | false => rfl
    | true => exact absurd (ZaM.1 hk) h.1
   rw [this]
   exact Zrt t (i + 1) h.2
def rB (r : Ren) (fr : List Nat) (δ : Nat → Nat) (cb : List (Key × Blk)) : Ren := ⟨r.κ, gB r fr δ 0 cb, r.θ, r.H0, r.no⟩
section
variable {P : Program} {f : FuncId} {os os' : Nat} {fr fx : List Nat} {lv : List (Nat × Nat)} {ys : List AV} {bi : List Blk} {γ : Type} {M : Option γ} {e : γ → AV} {bs : γ → List Blk} {C : Cx} {r : Ren} {xs : List AV} {x : AV} {y : γ}
theorem ZtE (K : KG P f os fr lv ys bi M e bs) (hy : M = some y) (co : COx C os' fx) (g : Gd C r) (cb cc cb2 : List (Key × Blk)) (hlo : LvP (kOf (C.l + 1) ((cb.map (·.1)).map r.κ)) lv)
  (hBE : ∀ H, BE (rC C r cb (fun _ => .top) H) r 0 bi cb) (hBE2 : ∀ H δ, BE (rF (C.l + 1) ((cb.map (·.1)).map r.κ) (Zlx r cb) fr δ H) (rB r fr δ cb) 0 (bs y) cb2) (hlv' : (bs y).all Blk.live = true := by kernel_rfl) (hx : ∀ H, Zan (rC C r cb (fun _ => .top) H) ys = Zan r xs := by intro H; kernel_rfl)
  (hy2 : ∀ H δ, ren (rF (C.l + 1) ((cb.map (·.1)).map r.κ) (Zlx r cb) fr δ H) (e y) = ren (rB r fr δ cb) x := by intro H δ; kernel_rfl)
  (hk : ((cb.map (·.1)).all (okK os') && ZeB (cb.map (·.1)) && Nat.beq cb.length os) = true := by kernel_rfl) (he : cb.map (·.1) = cb2.map (·.1) := by rfl) : ZhJ P C.l r f xs (cb ++ cc) x cb2 (frK fr 0 cb) := by
 have hlv : ∀ b ∈ bs y, b.live = true := fun b hb => Yh.1 hlv' b hb
 have hsub : ∀ p ∈ cb, p ∈ cb ++ cc := fun p hp => Y6 _ hp
 intro H' hg h2
 simp only [Bool.and_eq_true] at hk
 have := K.k (C.l + 1) H' ((cb.map (fun p : Key × Blk => p.1)).map r.κ) (Zlx r cb) (by rw [Yu, Yu]; exact Ya hk.2) (ZgN co g _ hk.1.1) (Zdo (ZkL co g) _ hk.1.2 hk.1.1)
  (Zi0 bi cb 0 bi (fun j => by have := Zgq bi 0 j; rwa [Yz] at this ⊢) (hBE H') fun p hp => hg p (hsub p hp)) hlo y hy
 rw [← hx H']
 refine this.mono fun z H'' ⟨δ, e1, e2⟩ => ⟨gB r fr δ 0 cb, fun k hk => Zrt cb 0 hk, e1.trans (hy2 H' δ), e2.trans ?_⟩
 exact ZhH (r := rB r fr δ cb) (bs y) cb cb2 0 H' (hBE2 H' δ) hlv he
end
section
variable {P : Program} {T : Nat → Option TI} {n : Nat} {C : Cx} {τ : St} {Q : Exit → St → Prop} {os k : Nat} {c : Code} {β : Type} {L : β → Prop} {y : β} {fx : List Nat}
theorem ZFL {r : Ren} (co : COx C os fx) (g : Gd C r) (a b : Nat) : (r.κ (1, a)).1 ≤ (r.κ (1, b)).1 := by rw [g.κ, co.ok.own, co.ok.own]; exact Yd _
theorem Zvc {r : Ren} {a b : Nat} (g : Gd C r) (h : (C.κ (0, a)).1 ≤ (C.κ (0, b)).1) : (r.κ (0, a)).1 ≤ (r.κ (0, b)).1 := by rw [g.κ]; exact h
theorem ZJD {r : Ren} {a b : Nat} (g : Gd C r) (h : LvP C.κ [(a, b)]) : (r.κ (0, a)).1 ≤ (r.κ (0, b)).1 ∧ True := ⟨Zvc g h.1, trivial⟩
theorem ZCC {r : Ren} {a b : Nat} {t : List (Nat × Nat)} (g : Gd C r) (h : LvP C.κ ((a, b) :: t)) {gg off m : Nat} : Zmy r (0, b) [.ref (0, a) gg off m] := by
 unfold Zmy
 simp only [Zan, ren, Yaj, List.all_nil, Bool.and_true, AV.low]
 have := Zvc g h.1
 simpa using this
@[reducible] def vwl (q : Nat) (vs : List AV) (k : PT os β) (hq : Nat.ble (q + 1) os = true := by kernel_rfl) : PT os β :=
 ⟨k.a, fun E => WrS E.r (0, q) ∧ Zmy E.r (0, q) vs ∧ k.q E, k.m, fun E => Zmy E.E.r (0, q) vs ∧ k.n E, fun E hn y hm hL => ⟨⟨rfl, by rw [E.g.no, E.g.κ]; exact E.co.W q (Yc hq)⟩, hn.1, k.ok E hn.2 y hm hL⟩⟩
theorem c6F {γ : Type} {M : Option γ} {kk : γ → Option β} {ss : List (Nat × AV)} {hs : List (Key × Blk)} {f : FuncId} {os' : Nat} {fr : List Nat} {lv : List (Nat × Nat)} {ys : List AV} {bi : List Blk} {e0 : γ → AV} {bs : γ → List Blk} (co : COx C os fx) (hm : M.bind kk = some y) (K : KG P f os' fr lv ys bi M e0 bs)
  (cb cc : List (Key × Blk)) (e : γ → AV) (hb2 : γ → List (Key × Blk)) (fl : List Key)
  (h : ∀ z, kk z = some y → LO P n C c (k + 1) (mkS (ZrM (Zfn c k) (e z) (Zes (frK fr 0 cb) ss)) (hb2 z ++ Zdx ((hb2 z).map (·.1)) (frK fr 0 cb) fl hs)) Q)
  (hlo : ∀ r, Gd C r → LvP (kOf (C.l + 1) ((cb.map (·.1)).map r.κ)) lv := by
   intro r g
   first
   | exact ⟨ZFL ‹_› g _ _, trivial⟩
   | exact ZJD g (by assumption)
   | exact trivial)
  (xs : List AV := [] ++ (Zgx c k).map (ev (lkS ss)) ++ [])
  (hwr : ∀ z, wrL C (hb2 z) := by intro z; repeat (first | exact trivial | refine ⟨COx.W ‹_› _ (by decide), ?_⟩))
  (hfl : flL (lkH hs) fl := by repeat (first | exact trivial | refine ⟨Zag _ _, ?_⟩))
  (hBE : ∀ r H, BE (rC C r cb (fun _ => .top) H) r 0 bi cb := by
   intro r H
   repeat (first | exact trivial | refine ⟨fun _ => ⟨rfl, Zav (Zag _ _) (by kernel_rfl)⟩, by kernel_rfl, ?_⟩ | refine ⟨fun _ => ⟨rfl, Zav ZlJ (by kernel_rfl)⟩, by kernel_rfl, ?_⟩ | refine ⟨fun _ => ⟨rfl, by kernel_rfl⟩, by kernel_rfl, ?_⟩))
  (hBE2 : ∀ z r H δ, BE (rF (C.l + 1) ((cb.map (·.1)).map r.κ) (Zlx r cb) fr δ H) (rB r fr δ cb) 0 (bs z) (hb2 z) := by
   intro z r H δ
   repeat (first | exact trivial | refine ⟨fun _ => ⟨rfl, Zav (Zag _ _) (by kernel_rfl)⟩, by kernel_rfl, ?_⟩ | refine ⟨fun _ => ⟨rfl, Zav ZlJ (by kernel_rfl)⟩, by kernel_rfl, ?_⟩ | refine ⟨fun _ => ⟨rfl, by kernel_rfl⟩, by kernel_rfl, ?_⟩))
  (hx : ∀ r H, Zan (rC C r cb (fun _ => .top) H) ys = Zan r xs := by intro r H; kernel_rfl) (hxs : [] ++ (Zgx c k).map (ev (lkS ss)) ++ [] = xs := by kernel_rfl) (hy2 : ∀ z r H δ, ren (rF (C.l + 1) ((cb.map (·.1)).map r.κ) (Zlx r cb) fr δ H) (e0 z) = ren (rB r fr δ cb) (e z) := by intro z r H δ; kernel_rfl)
  (hop : Zek c k = some (Zfn c k, callF c k, Zgx c k) := by kernel_rfl) (hf : ev (lkS ss) (callF c k) = .fn (.func f) [] [] := by kernel_rfl)
  (hhb : (((cb ++ cc).map (·.1)).map fun k => (k, lkH hs k)) = cb ++ cc := by kernel_rfl) (hlv : ∀ z, (bs z).all Blk.live = true := by intro z; kernel_rfl) (he : ∀ z, cb.map (·.1) = (hb2 z).map (·.1) := by intro z; rfl)
  (hk : ((cb.map (·.1)).all (okK os) && ZeB (cb.map (·.1)) && Nat.beq cb.length os') = true := by kernel_rfl)
  (hok : ∀ z, (Zjd os (hb2 z) && ZA5 (frK fr 0 cb) (hb2 z) && Zhd (frK fr 0 cb) fx && ZhW hs && Zme n (Zfn c k) && ((cb ++ cc).map (·.1)).all (okK os)) = true := by intro z; kernel_rfl) : LO P n C c k (mkS ss hs) Q := by
 obtain ⟨z, e1, e2⟩ := bind_some hm
 exact Zkm co.ok co.O co.F f [] [] xs hop hf hxs _ (cb ++ cc) hhb (e z) (hb2 z) (frK fr 0 cb) fl (hok z) (hwr z) hfl (fun r h1 h2 h3 h4 => ZtE K e1 co ⟨h1, h2, h3, h4⟩ cb cc (hb2 z) (hlo r ⟨h1, h2, h3, h4⟩) (fun H => hBE r H) (fun H δ => hBE2 z r H δ) (hlv z) (fun H => hx r H) (fun H δ => hy2 z r H δ) hk (he z)) (h z e2)
def ZKL (m : Nat) : Code → Bool
 | .region _ ops true => Nat.beq ops.toList.length (m + 1) && ZsW ops.toList && (Ziu m ops.toList).all (fun o => Zb9 o || stB o) && okS ops.toList 0 ops.toList && (ZuO m).all (fun i => ZiA ops.toList i ops.toList.length m)
 | _ => false
theorem Zmn (co : COx C os fx) (hT : TOk P T) (hm' : P.follows .mixedOrders = true) (m : Nat) (v : PT os β) (lf : Lf) (hv : v.m = some y) (hL : HL L y) (hn : ∀ r (g : Gd C r), v.n ⟨⟨C.l, r, fun _ τ' => LO P n C c m τ' Q, fun _ _ => False⟩, L, C, _, co, g, rfl⟩)
  (hq : ∀ l r Q Post, Zdk r os v.a τ (fun τ a => Zgy P T l n r ((Zcz c).toList.map (·.dst)) (Ziu m (Zcz c).toList) [] a (fun τ' env a' => Zdk r os a' (ZjR env τ') (fun τ _ => Zfk fx lf τ (Q .normal))) τ) = v.q ⟨l, r, Q, Post⟩ := by intro l r Q P; kernel_rfl)
  (hk : ZKL m c = true := by kernel_rfl) : LW P n C c τ Q := by
 cases c with
 | region id ops dr =>
  cases dr with
  | false => cases hk
  | true =>
   obtain ⟨Lf, rfl⟩ : ∃ l : List Oper, ops = l.toArray := ⟨ops.toList, by simp⟩
   simp only [ZKL, Bool.and_eq_true, ZfA] at hk
   obtain ⟨⟨⟨⟨k1, k2⟩, k3⟩, k4⟩, k5⟩ := hk
   have k1 := Ya k1
   have hd : ∃ o, Lf.drop m = [o] := List.length_eq_one_iff.1 (by rw [Yad]; omega)
   obtain ⟨o, hd⟩ := hd
   have hLf : Lf = Lf.take m ++ [o] := by rw [← hd, YaI]
   have hlm : (Lf.take m).length = m := by rw [YU]; omega
   intro γ σ hg hG a w hR
   have h1 := v.ok _ (hn (C.r γ) ⟨rfl, rfl, rfl, rfl⟩) y hv hL
   rw [← hq] at h1
   generalize v.a = va at h1
   have ok := co.ok
   rw [← co.O, ← co.F] at h1
   obtain ⟨τ₁, a₁, σ₁, h2, hG1, hw1⟩ := Zam (n := n) ok va h1 hG
   simp only [Zcz, ZfA, List.toList_toArray] at h2 k2 k3 k4 k5
   have hwp := Zo0 (P := P) (n := n) (B := C.B) (id := id) (L := Lf.take m) (o := o) (σ := σ₁) (a := a) (w := w) (QQ := fun e a' w' => ∃ σ', Is n C (Q e) σ' ∧ R C.l n C.B σ' a' w')
    (X := fun σ' => ∃ τ' env' a', Zdk (C.r γ) C.outs a' (ZjR env' τ') (fun τ _ => Zfk C.fx lf τ (fun τ' => LO P n C (.region id Lf.toArray true) m τ' Q)) ∧ RG (C.r γ) C.l C.outs env' τ' σ') hm' (Zg5 (by rw [← hLf]; exact k2)) k3 (by rw [← hLf]; exact k4)
    (fun i hi => by rw [← hLf, hlm]; exact Zep _ _ (Yh.1 k5 i (Zft (by omega)))) (by rw [← hLf]; exact Zd8 (ok.ren γ) hT _ [] a₁ τ₁ σ₁ k3 h2 hG1) (fun σ' act' w' hR' ⟨τ', env', a', f1, f2⟩ => ?_) (hw1 _ _ hR)
   ·rw [← hLf] at hwp; exact hwp
   ·obtain ⟨σ₂, g1, g2⟩ := Zdy (n := n) f2
    obtain ⟨τ₃, a₃, σ₃, e1, e2, e3⟩ := Zam (n := n) ok a' f1 g1
    obtain ⟨γ', τ₄, σ₄, j0, j1, j2, j3⟩ := Zb2 (n := n) ok e1 hg e2
    have := j1 γ' σ₄ act' w' j0 j2 (j3 _ _ (e3 _ _ (g2 _ _ hR')))
    simp only [Zcz, List.toList_toArray, hd] at this
    rw [← hLf]
    exact this
 | _ => cases hk
end
end Go.Eng
namespace Go.Eng
set_option linter.all false
open Go Go.RowKit
section
variable {P : Program} {l l' : Nat} {H : Hp} {m : Mu} {S : Nat → Prop} {w : World}
inductive Vw (H : Hp) (l : Nat) : AV → D → Prop
 | d (x : D) : Vw H l (.d x) x
 | e0 : Vw H l .e0 (.list [])
 | ref (k : Key) (g n : Nat) (es : List (List D)) (hk : k.1 ≤ l) (hg : (H k).g = g) (hn : es.length = n) (hl : (H k).live = true) (hz : ∀ e ∈ es, e.length = (H k).sz) (hp : (H k).sz ≠ 0) (hc : (H k).cells.length = n * (H k).sz)
   (hr : ∀ (i : Nat) (x : AV) (d : D), (H k).cells[i]? = some x → es.flatten[i]? = some d → Vw H l x d) : Vw H l (.ref k g 0 n) (.list es)
 | mp (k : Key) (g : Nat) (a : Bool) (es : List (List D)) (hk : k.1 ≤ l) (hg : (H k).g = g) (hl : (H k).live = true) (he : (H k).e = .m a es) : Vw H l (.mp k g) (.map a es)
inductive Vx (H : Hp) (l : Nat) : AV → AV → Prop
 | d (x : AV) (d : D) (h : Vw H l x d) : Vx H l x (.d d)
 | ptr (k : Key) (g : Nat) (ds : List D) (hk : k.1 ≤ l) (hg : (H k).g = g) (hl : (H k).live = true) (hne : ds ≠ []) (hc : (H k).cells.length = ds.length) (hr : ∀ (i : Nat) (x : AV) (d : D), (H k).cells[i]? = some x → ds[i]? = some d → Vw H l x d) : Vx H l (.ptr k g 0) (.iptr ds 0)
 | fn (f : Fn) (xs ys : List AV) (hn : xs.length = ys.length) (h : ∀ (i : Nat) (x y : AV), xs[i]? = some x → ys[i]? = some y → Vx H l x y) : Vx H l (.fn f [] xs) (.fn f [] ys)
def Vxs (H : Hp) (l : Nat) : List AV → List AV → Prop
 | [], [] => True
 | x :: xs, y :: ys => Vx H l x y ∧ Vxs H l xs ys
 | _, _ => False
theorem Vxs.at {H : Hp} {l : Nat} : ∀ {xs ys : List AV}, Vxs H l xs ys → xs.length = ys.length ∧ ∀ (i : Nat) (x y : AV), xs[i]? = some x → ys[i]? = some y → Vx H l x y
 | [], [], _ => ⟨rfl, fun i x y h => by simp at h⟩
 | x :: xs, y :: ys, ⟨h1, h2⟩ => ⟨by simp [(Vxs.at h2).1], fun i a b ha hb => by
  cases i with
  | zero => simp at ha hb; subst ha; subst hb; exact h1
  | succ i => simp at ha hb; exact (Vxs.at h2).2 i a b ha hb⟩
 | [], _ :: _, h => h.elim
 | _ :: _, [], h => h.elim
end
def ZC0 {γ : Type} [DecidableEq γ] (M : Option (List γ)) : Option γ := M.bind fun ys => match ys with
 | [] => none
 | y :: r => if ∀ z ∈ r, z = y then some y else none
theorem KCN.uniq {P : Program} {f : FuncId} {xs : List AV} {γ : Type} [DecidableEq γ] {M : Option (List γ)} {e : γ → AV} (K : KCN P f xs M e) : KC P f xs (ZC0 M) e := K.one _ fun y h => by
 unfold ZC0 at h
 cases M with
 | none => cases h
 | some ys =>
  refine ⟨ys, rfl, ?_⟩
  rw [Yn] at h
  split at h
  ·cases h
  ·obtain ⟨h1, h2⟩ := Zaw h
   cases h2
   intro z hz
   rcases Ys.1 hz with rfl | hz
   ·rfl
   ·exact h1 z hz
theorem Zya {γ : Type} [DecidableEq γ] {M : Option (List γ)} {ys : List γ} {y : γ} (h : M = some ys) (hne : ys ≠ []) (hy : ∀ z ∈ ys, z = y) : ZC0 M = some y := by
 subst h
 cases ys with
 | nil => exact absurd rfl hne
 | cons a r =>
  have e := hy a (Yw ..)
  subst e
  show (if ∀ z ∈ r, z = a then some a else none) = _
  rw [if_pos fun z hz => hy z (Yq _ hz)]
end Go.Eng
namespace Go.Proofs.YtchkcemlglpobaaGreat
open Go Go.Eng
def ti3 : TI := { agg := false, kin := 3, siz := 1, zer := some [.d (.int .i64 0)], ik := some .i64, byt := some 256 }
theorem tk3 : TIok Tryz.prog 3 ti3 := .of (by kernel_rfl) (by kernel_rfl) (by kernel_rfl) (.inl rfl) (by kernel_rfl) (.inr (by kernel_rfl)) (.inl rfl) (.inl rfl) (.inr (by kernel_rfl)) (.inr ⟨256, by decide +kernel, by decide +kernel, rfl⟩) (.inr rfl)
def ti4 : TI := { agg := false, kin := 1, siz := 1, zer := some [.d (.bool false)], byt := some 256 }
theorem tk4 : TIok Tryz.prog 4 ti4 := .of (by kernel_rfl) (by kernel_rfl) (by kernel_rfl) (.inl rfl) (by kernel_rfl) (.inr (by kernel_rfl)) (.inl rfl) (.inl rfl) (.inl rfl) (.inr ⟨256, by decide +kernel, by decide +kernel, rfl⟩) (.inr rfl)
def ti5 : TI := { agg := false, kin := 3, siz := 1, zer := some [.d (.int .u8 0)], ik := some .u8, byt := some 256 }
theorem tk5 : TIok Tryz.prog 5 ti5 := .of (by kernel_rfl) (by kernel_rfl) (by kernel_rfl) (.inl rfl) (by kernel_rfl) (.inr (by kernel_rfl)) (.inl rfl) (.inl rfl) (.inr (by kernel_rfl)) (.inr ⟨256, by decide +kernel, by decide +kernel, rfl⟩) (.inr rfl)
def ti9 : TI := { agg := false, kin := 2, siz := 1, zer := some [.d (.str ⟨#[]⟩)], byt := some 256 }
theorem tk9 : TIok Tryz.prog 9 ti9 := .of (by kernel_rfl) (by kernel_rfl) (by kernel_rfl) (.inl rfl) (by kernel_rfl) (.inr (by kernel_rfl)) (.inl rfl) (.inl rfl) (.inl rfl) (.inr ⟨256, by decide +kernel, by decide +kernel, rfl⟩) (.inr rfl)
def ZLt : TI := { agg := false, kin := 0, siz := 1, zer := some [.p .nilIface] }
theorem ZMM : TIok Tryz.prog 20 ZLt := .of (by kernel_rfl) (by kernel_rfl) (by kernel_rfl) (.inl rfl) (by kernel_rfl) (.inr (by kernel_rfl)) (.inl rfl) (.inl rfl) (.inl rfl) (.inl rfl) (.inr rfl)
def ZK6 : TI := { agg := false, kin := 3, siz := 1, zer := some [.d (.int .i32 0)], ik := some .i32, byt := some 256 }
theorem ZMw : TIok Tryz.prog 21 ZK6 := .of (by kernel_rfl) (by kernel_rfl) (by kernel_rfl) (.inl rfl) (by kernel_rfl) (.inr (by kernel_rfl)) (.inl rfl) (.inl rfl) (.inr (by kernel_rfl)) (.inr ⟨256, by decide +kernel, by decide +kernel, rfl⟩) (.inr rfl)
def ZKO : TI := { agg := false, kin := 4, siz := 1, elm := some (49, 5), zer := some [.e0], byt := some 256 }
theorem ZMO : TIok Tryz.prog 22 ZKO := .of (by kernel_rfl) (by kernel_rfl) (by kernel_rfl) (.inr (by kernel_rfl)) (by kernel_rfl) (.inr (by kernel_rfl)) (.inl rfl) (.inl rfl) (.inl rfl) (.inr ⟨256, by decide +kernel, by decide +kernel, rfl⟩) (.inr rfl)
def ZJ0 : TI := { agg := false, kin := 4, siz := 1, elm := some (97, 5), zer := some [.e0], byt := some 256 }
theorem ZMg : TIok Tryz.prog 23 ZJ0 := .of (by kernel_rfl) (by kernel_rfl) (by kernel_rfl) (.inr (by kernel_rfl)) (by kernel_rfl) (.inr (by kernel_rfl)) (.inl rfl) (.inl rfl) (.inl rfl) (.inr ⟨256, by decide +kernel, by decide +kernel, rfl⟩) (.inr rfl)
def ZLg : TI := { agg := false, kin := 4, siz := 1, elm := some (102, 3), zer := some [.e0], byt := some 256 }
theorem ZL6 : TIok Tryz.prog 24 ZLg := .of (by kernel_rfl) (by kernel_rfl) (by kernel_rfl) (.inr (by kernel_rfl)) (by kernel_rfl) (.inr (by kernel_rfl)) (.inl rfl) (.inl rfl) (.inl rfl) (.inr ⟨256, by decide +kernel, by decide +kernel, rfl⟩) (.inr rfl)
def ZLD : TI := { agg := true, kin := 0, siz := 3, fld := [(0, 1, false), (1, 1, false), (2, 1, false)], zer := some [.e0, .e0, .e0], str := true, byt := some 256 }
theorem ZMZ : TIok Tryz.prog 26 ZLD := .of (by kernel_rfl) (by kernel_rfl) (by kernel_rfl) (.inl rfl) (by kernel_rfl) (.inr (by kernel_rfl)) (.inl rfl) (.inr (by kernel_rfl)) (.inl rfl) (.inr ⟨256, by decide +kernel, by decide +kernel, rfl⟩) (.inr rfl)
def ZJR : TI := { agg := false, kin := 3, siz := 1, zer := some [.d (.int .u64 0)], ik := some .u64, byt := some 256 }
theorem ZMk : TIok Tryz.prog 29 ZJR := .of (by kernel_rfl) (by kernel_rfl) (by kernel_rfl) (.inl rfl) (by kernel_rfl) (.inr (by kernel_rfl)) (.inl rfl) (.inl rfl) (.inr (by kernel_rfl)) (.inr ⟨256, by decide +kernel, by decide +kernel, rfl⟩) (.inr rfl)
def ZKU : TI := { agg := false, kin := 4, siz := 1, elm := some (35, 7), zer := some [.e0], byt := some 256 }
theorem ZM4 : TIok Tryz.prog 30 ZKU := .of (by kernel_rfl) (by kernel_rfl) (by kernel_rfl) (.inr (by kernel_rfl)) (by kernel_rfl) (.inr (by kernel_rfl)) (.inl rfl) (.inl rfl) (.inl rfl) (.inr ⟨256, by decide +kernel, by decide +kernel, rfl⟩) (.inr rfl)
def ZKG : TI := { agg := false, kin := 4, siz := 1, elm := some (71, 14), zer := some [.e0], byt := some 256 }
theorem ZL1 : TIok Tryz.prog 31 ZKG := .of (by kernel_rfl) (by kernel_rfl) (by kernel_rfl) (.inr (by kernel_rfl)) (by kernel_rfl) (.inr (by kernel_rfl)) (.inl rfl) (.inl rfl) (.inl rfl) (.inr ⟨256, by decide +kernel, by decide +kernel, rfl⟩) (.inr rfl)
def ZJW : TI := { agg := false, kin := 4, siz := 1, elm := some (63, 8), zer := some [.e0], byt := some 256 }
theorem ZMm : TIok Tryz.prog 32 ZJW := .of (by kernel_rfl) (by kernel_rfl) (by kernel_rfl) (.inr (by kernel_rfl)) (by kernel_rfl) (.inr (by kernel_rfl)) (.inl rfl) (.inl rfl) (.inl rfl) (.inr ⟨256, by decide +kernel, by decide +kernel, rfl⟩) (.inr rfl)
def ZKj : TI := { agg := false, kin := 4, siz := 1, elm := some (73, 4), zer := some [.e0], byt := some 256 }
theorem ZLI : TIok Tryz.prog 33 ZKj := .of (by kernel_rfl) (by kernel_rfl) (by kernel_rfl) (.inr (by kernel_rfl)) (by kernel_rfl) (.inr (by kernel_rfl)) (.inl rfl) (.inl rfl) (.inl rfl) (.inr ⟨256, by decide +kernel, by decide +kernel, rfl⟩) (.inr rfl)
def ZKq : TI := { agg := true, kin := 0, siz := 7, fld := [(0, 1, false), (1, 1, false), (2, 1, false), (3, 1, false), (4, 1, false), (5, 1, false), (6, 1, false)], zer := some [.d (.int .i64 0), .d (.int .u64 0), .d (.str ⟨#[]⟩), .e0, .e0, .e0, .e0], str := true, byt := some 256 }
theorem ZME : TIok Tryz.prog 35 ZKq := .of (by kernel_rfl) (by kernel_rfl) (by kernel_rfl) (.inl rfl) (by kernel_rfl) (.inr (by kernel_rfl)) (.inl rfl) (.inr (by kernel_rfl)) (.inl rfl) (.inr ⟨256, by decide +kernel, by decide +kernel, rfl⟩) (.inr rfl)
def ZLo : TI := { agg := false, kin := 3, siz := 1, zer := some [.d (.int .i64 0)], ik := some .i64, byt := some 256 }
theorem ZMi : TIok Tryz.prog 40 ZLo := .of (by kernel_rfl) (by kernel_rfl) (by kernel_rfl) (.inl rfl) (by kernel_rfl) (.inr (by kernel_rfl)) (.inl rfl) (.inl rfl) (.inr (by kernel_rfl)) (.inr ⟨256, by decide +kernel, by decide +kernel, rfl⟩) (.inr rfl)
def ZKA : TI := { agg := false, kin := 4, siz := 1, elm := some (55, 16), zer := some [.e0], byt := some 256 }
theorem ZMI : TIok Tryz.prog 44 ZKA := .of (by kernel_rfl) (by kernel_rfl) (by kernel_rfl) (.inr (by kernel_rfl)) (by kernel_rfl) (.inr (by kernel_rfl)) (.inl rfl) (.inl rfl) (.inl rfl) (.inr ⟨256, by decide +kernel, by decide +kernel, rfl⟩) (.inr rfl)
def ZK4 : TI := { agg := false, kin := 4, siz := 1, elm := some (209, 2), zer := some [.e0], byt := some 256 }
theorem ZMH : TIok Tryz.prog 45 ZK4 := .of (by kernel_rfl) (by kernel_rfl) (by kernel_rfl) (.inr (by kernel_rfl)) (by kernel_rfl) (.inr (by kernel_rfl)) (.inl rfl) (.inl rfl) (.inl rfl) (.inr ⟨256, by decide +kernel, by decide +kernel, rfl⟩) (.inr rfl)
def ZLB : TI := { agg := false, kin := 4, siz := 1, elm := some (9, 1), zer := some [.e0], byt := some 256 }
theorem ZMQ : TIok Tryz.prog 46 ZLB := .of (by kernel_rfl) (by kernel_rfl) (by kernel_rfl) (.inr (by kernel_rfl)) (by kernel_rfl) (.inr (by kernel_rfl)) (.inl rfl) (.inl rfl) (.inl rfl) (.inr ⟨256, by decide +kernel, by decide +kernel, rfl⟩) (.inr rfl)
def ZLs : TI := { agg := false, kin := 4, siz := 1, elm := some (135, 8), zer := some [.e0], byt := some 256 }
theorem ZMp : TIok Tryz.prog 47 ZLs := .of (by kernel_rfl) (by kernel_rfl) (by kernel_rfl) (.inr (by kernel_rfl)) (by kernel_rfl) (.inr (by kernel_rfl)) (.inl rfl) (.inl rfl) (.inl rfl) (.inr ⟨256, by decide +kernel, by decide +kernel, rfl⟩) (.inr rfl)
def ZKm : TI := { agg := true, kin := 0, siz := 5, fld := [(0, 1, false), (1, 1, false), (2, 1, false), (3, 1, false), (4, 1, false)], zer := some [.d (.str ⟨#[]⟩), .e0, .e0, .e0, .e0], str := true, byt := some 256 }
theorem ZMT : TIok Tryz.prog 49 ZKm := .of (by kernel_rfl) (by kernel_rfl) (by kernel_rfl) (.inl rfl) (by kernel_rfl) (.inr (by kernel_rfl)) (.inl rfl) (.inr (by kernel_rfl)) (.inl rfl) (.inr ⟨256, by decide +kernel, by decide +kernel, rfl⟩) (.inr rfl)
def ZK0 : TI := { agg := true, kin := 0, siz := 2, fld := [(0, 1, false), (1, 1, false)], zer := some [.d (.int .i64 0), .d (.str ⟨#[]⟩)], eqt := some [3, 2], str := true, byt := some 256 }
theorem ZM5 : TIok Tryz.prog 53 ZK0 := .of (by kernel_rfl) (by kernel_rfl) (by kernel_rfl) (.inl rfl) (by kernel_rfl) (.inr (by kernel_rfl)) (.inr (by kernel_rfl)) (.inr (by kernel_rfl)) (.inl rfl) (.inr ⟨256, by decide +kernel, by decide +kernel, rfl⟩) (.inr rfl)
def ZLh : TI := { agg := true, kin := 0, siz := 16, fld := [(0, 1, false), (1, 1, false), (2, 1, false), (3, 1, false), (4, 2, true), (6, 1, false), (7, 1, false), (8, 7, true), (15, 1, false)], zer := some [.d (.int .i64 0), .d (.str ⟨#[]⟩), .d (.int .i64 0), .d (.int .i64 0), .d (.int .i64 0), .d (.str ⟨#[]⟩), .d (.str ⟨#[]⟩), .d (.bool false), .d (.int .i64 0), .d (.int .u64 0), .d (.str ⟨#[]⟩), .e0, .e0, .e0, .e0, .e0], str := true, byt := some 256 }
theorem ZL5 : TIok Tryz.prog 55 ZLh := .of (by kernel_rfl) (by kernel_rfl) (by kernel_rfl) (.inl rfl) (by kernel_rfl) (.inr (by kernel_rfl)) (.inl rfl) (.inr (by kernel_rfl)) (.inl rfl) (.inr ⟨256, by decide +kernel, by decide +kernel, rfl⟩) (.inr rfl)
def ZKt : TI := { agg := true, kin := 0, siz := 8, fld := [(0, 1, false), (1, 7, true)], zer := some [.d (.int .i64 0), .d (.int .i64 0), .d (.int .u64 0), .d (.str ⟨#[]⟩), .e0, .e0, .e0, .e0], str := true, byt := some 256 }
theorem ZMt : TIok Tryz.prog 63 ZKt := .of (by kernel_rfl) (by kernel_rfl) (by kernel_rfl) (.inl rfl) (by kernel_rfl) (.inr (by kernel_rfl)) (.inl rfl) (.inr (by kernel_rfl)) (.inl rfl) (.inr ⟨256, by decide +kernel, by decide +kernel, rfl⟩) (.inr rfl)
def ZK9 : TI := { agg := true, kin := 0, siz := 14, fld := [(0, 7, true), (7, 7, true)], zer := some [.d (.int .i64 0), .d (.int .u64 0), .d (.str ⟨#[]⟩), .e0, .e0, .e0, .e0, .d (.int .i64 0), .d (.int .u64 0), .d (.str ⟨#[]⟩), .e0, .e0, .e0, .e0], str := true, byt := some 256 }
theorem ZLF : TIok Tryz.prog 71 ZK9 := .of (by kernel_rfl) (by kernel_rfl) (by kernel_rfl) (.inl rfl) (by kernel_rfl) (.inr (by kernel_rfl)) (.inl rfl) (.inr (by kernel_rfl)) (.inl rfl) (.inr ⟨256, by decide +kernel, by decide +kernel, rfl⟩) (.inr rfl)
def ZLj : TI := { agg := true, kin := 0, siz := 4, fld := [(0, 1, false), (1, 1, false), (2, 1, false), (3, 1, false)], zer := some [.d (.int .i64 0), .d (.int .i64 0), .d (.int .u64 0), .d (.str ⟨#[]⟩)], eqt := some [3, 3, 3, 2], str := true, byt := some 256 }
theorem ZMc : TIok Tryz.prog 73 ZLj := .of (by kernel_rfl) (by kernel_rfl) (by kernel_rfl) (.inl rfl) (by kernel_rfl) (.inr (by kernel_rfl)) (.inr (by kernel_rfl)) (.inr (by kernel_rfl)) (.inl rfl) (.inr ⟨256, by decide +kernel, by decide +kernel, rfl⟩) (.inr rfl)
def ZKa : TI := { agg := true, kin := 0, siz := 8, fld := [(0, 5, true), (5, 3, true)], zer := some [.d (.str ⟨#[]⟩), .e0, .e0, .e0, .e0, .e0, .e0, .e0], str := true, byt := some 256 }
theorem ZNb : TIok Tryz.prog 77 ZKa := .of (by kernel_rfl) (by kernel_rfl) (by kernel_rfl) (.inl rfl) (by kernel_rfl) (.inr (by kernel_rfl)) (.inl rfl) (.inr (by kernel_rfl)) (.inl rfl) (.inr ⟨256, by decide +kernel, by decide +kernel, rfl⟩) (.inr rfl)
def ZJ5 : TI := { agg := false, kin := 0, siz := 1, zer := some [.p .nilFunc] }
theorem ZMy : TIok Tryz.prog 81 ZJ5 := .of (by kernel_rfl) (by kernel_rfl) (by kernel_rfl) (.inl rfl) (by kernel_rfl) (.inr (by kernel_rfl)) (.inl rfl) (.inl rfl) (.inl rfl) (.inl rfl) (.inr rfl)
def ZKP : TI := { agg := false, kin := 0, siz := 1, zer := some [.p .nilFunc] }
theorem ZMC : TIok Tryz.prog 88 ZKP := .of (by kernel_rfl) (by kernel_rfl) (by kernel_rfl) (.inl rfl) (by kernel_rfl) (.inr (by kernel_rfl)) (.inl rfl) (.inl rfl) (.inl rfl) (.inl rfl) (.inr rfl)
def ZKT : TI := { agg := false, kin := 4, siz := 1, elm := some (99, 3), zer := some [.e0], byt := some 256 }
theorem ZMR : TIok Tryz.prog 95 ZKT := .of (by kernel_rfl) (by kernel_rfl) (by kernel_rfl) (.inr (by kernel_rfl)) (by kernel_rfl) (.inr (by kernel_rfl)) (.inl rfl) (.inl rfl) (.inl rfl) (.inr ⟨256, by decide +kernel, by decide +kernel, rfl⟩) (.inr rfl)
def ZKs : TI := { agg := true, kin := 0, siz := 5, fld := [(0, 1, false), (1, 1, false), (2, 1, false), (3, 1, false), (4, 1, false)], zer := some [.d (.str ⟨#[]⟩), .d (.bool false), .e0, .e0, .e0], str := true, byt := some 256 }
theorem ZLW : TIok Tryz.prog 97 ZKs := .of (by kernel_rfl) (by kernel_rfl) (by kernel_rfl) (.inl rfl) (by kernel_rfl) (.inr (by kernel_rfl)) (.inl rfl) (.inr (by kernel_rfl)) (.inl rfl) (.inr ⟨256, by decide +kernel, by decide +kernel, rfl⟩) (.inr rfl)
def ZKE : TI := { agg := true, kin := 0, siz := 3, fld := [(0, 1, false), (1, 1, false), (2, 1, false)], zer := some [.d (.str ⟨#[]⟩), .d (.int .i64 0), .e0], str := true, byt := some 256 }
theorem ZLS : TIok Tryz.prog 99 ZKE := .of (by kernel_rfl) (by kernel_rfl) (by kernel_rfl) (.inl rfl) (by kernel_rfl) (.inr (by kernel_rfl)) (.inl rfl) (.inr (by kernel_rfl)) (.inl rfl) (.inr ⟨256, by decide +kernel, by decide +kernel, rfl⟩) (.inr rfl)
def ZEJ : TI := { agg := false, kin := 4, siz := 1, elm := some (104, 5), zer := some [.e0], byt := some 256 }
theorem ZIC : TIok Tryz.prog 100 ZEJ := .of (by kernel_rfl) (by kernel_rfl) (by kernel_rfl) (.inr (by kernel_rfl)) (by kernel_rfl) (.inr (by kernel_rfl)) (.inl rfl) (.inl rfl) (.inl rfl) (.inr ⟨256, by decide +kernel, by decide +kernel, rfl⟩) (.inr rfl)
def ZGo : TI := { agg := true, kin := 0, siz := 3, fld := [(0, 1, false), (1, 1, false), (2, 1, false)], zer := some [.d (.str ⟨#[]⟩), .e0, .e0], str := true, byt := some 256 }
theorem ZHD : TIok Tryz.prog 102 ZGo := .of (by kernel_rfl) (by kernel_rfl) (by kernel_rfl) (.inl rfl) (by kernel_rfl) (.inr (by kernel_rfl)) (.inl rfl) (.inr (by kernel_rfl)) (.inl rfl) (.inr ⟨256, by decide +kernel, by decide +kernel, rfl⟩) (.inr rfl)
def ZDl : TI := { agg := true, kin := 0, siz := 5, fld := [(0, 1, false), (1, 1, false), (2, 1, false), (3, 1, false), (4, 1, false)], zer := some [.d (.str ⟨#[]⟩), .d (.str ⟨#[]⟩), .d (.str ⟨#[]⟩), .d (.int .i64 0), .e0], str := true, byt := some 256 }
theorem ZJk : TIok Tryz.prog 104 ZDl := .of (by kernel_rfl) (by kernel_rfl) (by kernel_rfl) (.inl rfl) (by kernel_rfl) (.inr (by kernel_rfl)) (.inl rfl) (.inr (by kernel_rfl)) (.inl rfl) (.inr ⟨256, by decide +kernel, by decide +kernel, rfl⟩) (.inr rfl)
def ZBW : TI := { agg := false, kin := 4, siz := 1, elm := some (182, 3), zer := some [.e0], byt := some 256 }
theorem ZJx : TIok Tryz.prog 105 ZBW := .of (by kernel_rfl) (by kernel_rfl) (by kernel_rfl) (.inr (by kernel_rfl)) (by kernel_rfl) (.inr (by kernel_rfl)) (.inl rfl) (.inl rfl) (.inl rfl) (.inr ⟨256, by decide +kernel, by decide +kernel, rfl⟩) (.inr rfl)
def ZCw : TI := { agg := false, kin := 0, siz := 1, zer := some [.p .nilFunc] }
theorem ZJC : TIok Tryz.prog 111 ZCw := .of (by kernel_rfl) (by kernel_rfl) (by kernel_rfl) (.inl rfl) (by kernel_rfl) (.inr (by kernel_rfl)) (.inl rfl) (.inl rfl) (.inl rfl) (.inl rfl) (.inr rfl)
def ZEW : TI := { agg := false, kin := 0, siz := 1, mp := some (false, [.int .i64 0]), zer := some [.p (.map none)] }
theorem ZIb : TIok Tryz.prog 113 ZEW := .of (by kernel_rfl) (by kernel_rfl) (by kernel_rfl) (.inl rfl) (by kernel_rfl) (.inr (by kernel_rfl)) (.inl rfl) (.inl rfl) (.inl rfl) (.inl rfl) (.inr rfl)
def ZBt : TI := { agg := false, kin := 0, siz := 1, mp := some (true, [.str ⟨#[]⟩, .list [], .list [], .list [], .list []]), zer := some [.p (.map none)] }
theorem ZJi : TIok Tryz.prog 114 ZBt := .of (by kernel_rfl) (by kernel_rfl) (by kernel_rfl) (.inl rfl) (by kernel_rfl) (.inr (by kernel_rfl)) (.inl rfl) (.inl rfl) (.inl rfl) (.inl rfl) (.inr rfl)
def ZCr : TI := { agg := false, kin := 0, siz := 1, mp := some (false, [.bool false]), zer := some [.p (.map none)] }
theorem ZHS : TIok Tryz.prog 115 ZCr := .of (by kernel_rfl) (by kernel_rfl) (by kernel_rfl) (.inl rfl) (by kernel_rfl) (.inr (by kernel_rfl)) (.inl rfl) (.inl rfl) (.inl rfl) (.inl rfl) (.inr rfl)
def ZEx : TI := { agg := true, kin := 0, siz := 2, fld := [(0, 1, false), (1, 1, false)], zer := some [.p (.map none), .p (.map none)], str := true, byt := some 256 }
theorem ZJd : TIok Tryz.prog 117 ZEx := .of (by kernel_rfl) (by kernel_rfl) (by kernel_rfl) (.inl rfl) (by kernel_rfl) (.inr (by kernel_rfl)) (.inl rfl) (.inr (by kernel_rfl)) (.inl rfl) (.inr ⟨256, by decide +kernel, by decide +kernel, rfl⟩) (.inr rfl)
def ZCs : TI := { agg := false, kin := 4, siz := 1, elm := some (3, 1), zer := some [.e0], byt := some 256 }
theorem ZIN : TIok Tryz.prog 123 ZCs := .of (by kernel_rfl) (by kernel_rfl) (by kernel_rfl) (.inr (by kernel_rfl)) (by kernel_rfl) (.inr (by kernel_rfl)) (.inl rfl) (.inl rfl) (.inl rfl) (.inr ⟨256, by decide +kernel, by decide +kernel, rfl⟩) (.inr rfl)
def ZEs : TI := { agg := false, kin := 0, siz := 1, zer := some [.p .nilFunc] }
theorem ZIj : TIok Tryz.prog 128 ZEs := .of (by kernel_rfl) (by kernel_rfl) (by kernel_rfl) (.inl rfl) (by kernel_rfl) (.inr (by kernel_rfl)) (.inl rfl) (.inl rfl) (.inl rfl) (.inl rfl) (.inr rfl)
def ZDT : TI := { agg := false, kin := 0, siz := 1, zer := some [.p .nilFunc] }
theorem ZHR : TIok Tryz.prog 133 ZDT := .of (by kernel_rfl) (by kernel_rfl) (by kernel_rfl) (.inl rfl) (by kernel_rfl) (.inr (by kernel_rfl)) (.inl rfl) (.inl rfl) (.inl rfl) (.inl rfl) (.inr rfl)
def ZEc : TI := { agg := true, kin := 0, siz := 8, fld := [(0, 1, false), (1, 7, true)], zer := some [.d (.str ⟨#[]⟩), .d (.int .i64 0), .d (.int .u64 0), .d (.str ⟨#[]⟩), .e0, .e0, .e0, .e0], str := true, byt := some 256 }
theorem ZIs : TIok Tryz.prog 135 ZEc := .of (by kernel_rfl) (by kernel_rfl) (by kernel_rfl) (.inl rfl) (by kernel_rfl) (.inr (by kernel_rfl)) (.inl rfl) (.inr (by kernel_rfl)) (.inl rfl) (.inr ⟨256, by decide +kernel, by decide +kernel, rfl⟩) (.inr rfl)
def ZBL : TI := { agg := true, kin := 0, siz := 2, fld := [(0, 1, false), (1, 1, false)], zer := some [.d (.str ⟨#[]⟩), .e0], str := true, byt := some 256 }
theorem ZIu : TIok Tryz.prog 137 ZBL := .of (by kernel_rfl) (by kernel_rfl) (by kernel_rfl) (.inl rfl) (by kernel_rfl) (.inr (by kernel_rfl)) (.inl rfl) (.inr (by kernel_rfl)) (.inl rfl) (.inr ⟨256, by decide +kernel, by decide +kernel, rfl⟩) (.inr rfl)
def ZB9 : TI := { agg := false, kin := 4, siz := 1, elm := some (4, 1), zer := some [.e0], byt := some 256 }
theorem ZHP : TIok Tryz.prog 142 ZB9 := .of (by kernel_rfl) (by kernel_rfl) (by kernel_rfl) (.inr (by kernel_rfl)) (by kernel_rfl) (.inr (by kernel_rfl)) (.inl rfl) (.inl rfl) (.inl rfl) (.inr ⟨256, by decide +kernel, by decide +kernel, rfl⟩) (.inr rfl)
def ZFf : TI := { agg := false, kin := 0, siz := 1, zer := some [.p .nilFunc] }
theorem ZIe : TIok Tryz.prog 155 ZFf := .of (by kernel_rfl) (by kernel_rfl) (by kernel_rfl) (.inl rfl) (by kernel_rfl) (.inr (by kernel_rfl)) (.inl rfl) (.inl rfl) (.inl rfl) (.inl rfl) (.inr rfl)
def ZFe : TI := { agg := false, kin := 0, siz := 1, zer := some [.p .nilFunc] }
theorem ZJq : TIok Tryz.prog 156 ZFe := .of (by kernel_rfl) (by kernel_rfl) (by kernel_rfl) (.inl rfl) (by kernel_rfl) (.inr (by kernel_rfl)) (.inl rfl) (.inl rfl) (.inl rfl) (.inl rfl) (.inr rfl)
def ZCo : TI := { agg := true, kin := 0, siz := 7, fld := [(0, 1, false), (1, 1, false), (2, 1, false), (3, 1, false), (4, 1, false), (5, 1, false), (6, 1, false)], zer := some [.d (.int .i64 0), .d (.int .u64 0), .d (.str ⟨#[]⟩), .e0, .e0, .e0, .e0], str := true, byt := some 256 }
theorem ZIf : TIok Tryz.prog 163 ZCo := .of (by kernel_rfl) (by kernel_rfl) (by kernel_rfl) (.inl rfl) (by kernel_rfl) (.inr (by kernel_rfl)) (.inl rfl) (.inr (by kernel_rfl)) (.inl rfl) (.inr ⟨256, by decide +kernel, by decide +kernel, rfl⟩) (.inr rfl)
def ZCT : TI := { agg := false, kin := 4, siz := 1, elm := some (35, 7), zer := some [.e0], byt := some 256 }
theorem ZIM : TIok Tryz.prog 164 ZCT := .of (by kernel_rfl) (by kernel_rfl) (by kernel_rfl) (.inr (by kernel_rfl)) (by kernel_rfl) (.inr (by kernel_rfl)) (.inl rfl) (.inl rfl) (.inl rfl) (.inr ⟨256, by decide +kernel, by decide +kernel, rfl⟩) (.inr rfl)
def ZC8 : TI := { agg := false, kin := 4, siz := 1, elm := some (71, 14), zer := some [.e0], byt := some 256 }
theorem ZHx : TIok Tryz.prog 166 ZC8 := .of (by kernel_rfl) (by kernel_rfl) (by kernel_rfl) (.inr (by kernel_rfl)) (by kernel_rfl) (.inr (by kernel_rfl)) (.inl rfl) (.inl rfl) (.inl rfl) (.inr ⟨256, by decide +kernel, by decide +kernel, rfl⟩) (.inr rfl)
def ZCp : TI := { agg := false, kin := 0, siz := 1, zer := some [.p .nilFunc] }
theorem ZJG : TIok Tryz.prog 168 ZCp := .of (by kernel_rfl) (by kernel_rfl) (by kernel_rfl) (.inl rfl) (by kernel_rfl) (.inr (by kernel_rfl)) (.inl rfl) (.inl rfl) (.inl rfl) (.inl rfl) (.inr rfl)
def ZDM : TI := { agg := true, kin := 0, siz := 2, fld := [(0, 1, false), (1, 1, false)], zer := some [.e0, .e0], str := true, byt := some 256 }
theorem ZId : TIok Tryz.prog 170 ZDM := .of (by kernel_rfl) (by kernel_rfl) (by kernel_rfl) (.inl rfl) (by kernel_rfl) (.inr (by kernel_rfl)) (.inl rfl) (.inr (by kernel_rfl)) (.inl rfl) (.inr ⟨256, by decide +kernel, by decide +kernel, rfl⟩) (.inr rfl)
def ZCu : TI := { agg := false, kin := 0, siz := 1, zer := some [.p .nilFunc] }
theorem ZIz : TIok Tryz.prog 173 ZCu := .of (by kernel_rfl) (by kernel_rfl) (by kernel_rfl) (.inl rfl) (by kernel_rfl) (.inr (by kernel_rfl)) (.inl rfl) (.inl rfl) (.inl rfl) (.inl rfl) (.inr rfl)
def ZDf : TI := { agg := false, kin := 0, siz := 1, zer := some [.p .nilFunc] }
theorem ZIT : TIok Tryz.prog 175 ZDf := .of (by kernel_rfl) (by kernel_rfl) (by kernel_rfl) (.inl rfl) (by kernel_rfl) (.inr (by kernel_rfl)) (.inl rfl) (.inl rfl) (.inl rfl) (.inl rfl) (.inr rfl)
def ZBD : TI := { agg := false, kin := 0, siz := 1, zer := some [.p (.pointer none)] }
theorem ZI2 : TIok Tryz.prog 180 ZBD := .of (by kernel_rfl) (by kernel_rfl) (by kernel_rfl) (.inl rfl) (by kernel_rfl) (.inr (by kernel_rfl)) (.inl rfl) (.inl rfl) (.inl rfl) (.inl rfl) (.inr rfl)
def ZCL : TI := { agg := true, kin := 0, siz := 3, fld := [(0, 1, false), (1, 1, false), (2, 1, false)], zer := some [.d (.str ⟨#[]⟩), .d (.int .i64 0), .d (.int .i64 0)], eqt := some [2, 3, 3], str := true, byt := some 256 }
theorem ZIr : TIok Tryz.prog 182 ZCL := .of (by kernel_rfl) (by kernel_rfl) (by kernel_rfl) (.inl rfl) (by kernel_rfl) (.inr (by kernel_rfl)) (.inr (by kernel_rfl)) (.inr (by kernel_rfl)) (.inl rfl) (.inr ⟨256, by decide +kernel, by decide +kernel, rfl⟩) (.inr rfl)
def ZBy : TI := { agg := false, kin := 0, siz := 1, zer := some [.p .nilFunc] }
theorem ZIk : TIok Tryz.prog 193 ZBy := .of (by kernel_rfl) (by kernel_rfl) (by kernel_rfl) (.inl rfl) (by kernel_rfl) (.inr (by kernel_rfl)) (.inl rfl) (.inl rfl) (.inl rfl) (.inl rfl) (.inr rfl)
def ZGc : TI := { agg := false, kin := 0, siz := 1, zer := some [.p .nilFunc] }
theorem ZH4 : TIok Tryz.prog 197 ZGc := .of (by kernel_rfl) (by kernel_rfl) (by kernel_rfl) (.inl rfl) (by kernel_rfl) (.inr (by kernel_rfl)) (.inl rfl) (.inl rfl) (.inl rfl) (.inl rfl) (.inr rfl)
def ZF6 : TI := { agg := true, kin := 0, siz := 2, fld := [(0, 1, false), (1, 1, false)], zer := some [.d (.int .i64 0), .d (.int .i64 0)], eqt := some [3, 3], str := true, byt := some 256 }
theorem ZH2 : TIok Tryz.prog 209 ZF6 := .of (by kernel_rfl) (by kernel_rfl) (by kernel_rfl) (.inl rfl) (by kernel_rfl) (.inr (by kernel_rfl)) (.inr (by kernel_rfl)) (.inr (by kernel_rfl)) (.inl rfl) (.inr ⟨256, by decide +kernel, by decide +kernel, rfl⟩) (.inr rfl)
def ZEX : TI := { agg := false, kin := 0, siz := 1, zer := some [.p .nilFunc] }
theorem ZJE : TIok Tryz.prog 215 ZEX := .of (by kernel_rfl) (by kernel_rfl) (by kernel_rfl) (.inl rfl) (by kernel_rfl) (.inr (by kernel_rfl)) (.inl rfl) (.inl rfl) (.inl rfl) (.inl rfl) (.inr rfl)
def ZCH : TI := { agg := false, kin := 3, siz := 1, zer := some [.d (.int .u64 0)], ik := some .u64, byt := some 256 }
theorem ZJw : TIok Tryz.prog 220 ZCH := .of (by kernel_rfl) (by kernel_rfl) (by kernel_rfl) (.inl rfl) (by kernel_rfl) (.inr (by kernel_rfl)) (.inl rfl) (.inl rfl) (.inr (by kernel_rfl)) (.inr ⟨256, by decide +kernel, by decide +kernel, rfl⟩) (.inr rfl)
def ZBY : TI := { agg := false, kin := 3, siz := 1, zer := some [.d (.int .i64 0)], ik := some .i64, byt := some 256 }
theorem ZHy : TIok Tryz.prog 232 ZBY := .of (by kernel_rfl) (by kernel_rfl) (by kernel_rfl) (.inl rfl) (by kernel_rfl) (.inr (by kernel_rfl)) (.inl rfl) (.inl rfl) (.inr (by kernel_rfl)) (.inr ⟨256, by decide +kernel, by decide +kernel, rfl⟩) (.inr rfl)
def ZFX : TI := { agg := false, kin := 3, siz := 1, zer := some [.d (.int .u32 0)], ik := some .u32, byt := some 256 }
theorem ZH7 : TIok Tryz.prog 241 ZFX := .of (by kernel_rfl) (by kernel_rfl) (by kernel_rfl) (.inl rfl) (by kernel_rfl) (.inr (by kernel_rfl)) (.inl rfl) (.inl rfl) (.inr (by kernel_rfl)) (.inr ⟨256, by decide +kernel, by decide +kernel, rfl⟩) (.inr rfl)
def ZD0 : TI := { agg := false, kin := 3, siz := 1, zer := some [.d (.int .u64 0)], ik := some .u64, byt := some 256 }
theorem ZHO : TIok Tryz.prog 248 ZD0 := .of (by kernel_rfl) (by kernel_rfl) (by kernel_rfl) (.inl rfl) (by kernel_rfl) (.inr (by kernel_rfl)) (.inl rfl) (.inl rfl) (.inr (by kernel_rfl)) (.inr ⟨256, by decide +kernel, by decide +kernel, rfl⟩) (.inr rfl)
def ZBu : TI := { agg := false, kin := 0, siz := 1, zer := some [.p (.pointer none)] }
theorem ZIF : TIok Tryz.prog 252 ZBu := .of (by kernel_rfl) (by kernel_rfl) (by kernel_rfl) (.inl rfl) (by kernel_rfl) (.inr (by kernel_rfl)) (.inl rfl) (.inl rfl) (.inl rfl) (.inl rfl) (.inr rfl)
def ZDi : TI := { agg := false, kin := 0, siz := 1, zer := some [.p (.pointer none)] }
theorem ZHI : TIok Tryz.prog 258 ZDi := .of (by kernel_rfl) (by kernel_rfl) (by kernel_rfl) (.inl rfl) (by kernel_rfl) (.inr (by kernel_rfl)) (.inl rfl) (.inl rfl) (.inl rfl) (.inl rfl) (.inr rfl)
def tl : List (Nat × TI) := [(3, ti3), (4, ti4), (5, ti5), (9, ti9), (20, ZLt), (21, ZK6), (22, ZKO), (23, ZJ0), (24, ZLg), (26, ZLD), (29, ZJR), (30, ZKU), (31, ZKG), (32, ZJW), (33, ZKj), (35, ZKq), (40, ZLo), (44, ZKA), (45, ZK4), (46, ZLB), (47, ZLs), (49, ZKm), (53, ZK0), (55, ZLh), (63, ZKt), (71, ZK9), (73, ZLj), (77, ZKa), (81, ZJ5), (88, ZKP), (95, ZKT), (97, ZKs), (99, ZKE), (100, ZEJ), (102, ZGo), (104, ZDl), (105, ZBW), (111, ZCw), (113, ZEW), (114, ZBt), (115, ZCr), (117, ZEx), (123, ZCs), (128, ZEs), (133, ZDT), (135, ZEc), (137, ZBL), (142, ZB9), (155, ZFf), (156, ZFe), (163, ZCo), (164, ZCT), (166, ZC8), (168, ZCp), (170, ZDM), (173, ZCu), (175, ZDf), (180, ZBD), (182, ZCL), (193, ZBy), (197, ZGc), (209, ZF6), (215, ZEX), (220, ZCH), (232, ZBY), (241, ZFX), (248, ZD0), (252, ZBu), (258, ZDi)]
theorem tok : TOk Tryz.prog (lkT tl) := ZvR tl (by
 intro p hp
 simp only [tl, Ys, List.not_mem_nil, or_false] at hp
 rcases hp with rfl | rfl | rfl | rfl | rfl | rfl | rfl | rfl | rfl | rfl | rfl | rfl | rfl | rfl | rfl | rfl | rfl | rfl | rfl | rfl | rfl | rfl | rfl | rfl | rfl | rfl | rfl | rfl | rfl | rfl | rfl | rfl | rfl | rfl | rfl | rfl | rfl | rfl | rfl | rfl | rfl | rfl | rfl | rfl | rfl | rfl | rfl | rfl | rfl | rfl | rfl | rfl | rfl | rfl | rfl | rfl | rfl | rfl | rfl | rfl | rfl | rfl | rfl | rfl | rfl | rfl | rfl | rfl | rfl
 ·exact tk3
 ·exact tk4
 ·exact tk5
 ·exact tk9
 ·exact ZMM
 ·exact ZMw
 ·exact ZMO
 ·exact ZMg
 ·exact ZL6
 ·exact ZMZ
 ·exact ZMk
 ·exact ZM4
 ·exact ZL1
 ·exact ZMm
 ·exact ZLI
 ·exact ZME
 ·exact ZMi
 ·exact ZMI
 ·exact ZMH
 ·exact ZMQ
 ·exact ZMp
 ·exact ZMT
 ·exact ZM5
 ·exact ZL5
 ·exact ZMt
 ·exact ZLF
 ·exact ZMc
 ·exact ZNb
 ·exact ZMy
 ·exact ZMC
 ·exact ZMR
 ·exact ZLW
 ·exact ZLS
 ·exact ZIC
 ·exact ZHD
 ·exact ZJk
 ·exact ZJx
 ·exact ZJC
 ·exact ZIb
 ·exact ZJi
 ·exact ZHS
 ·exact ZJd
 ·exact ZIN
 ·exact ZIj
 ·exact ZHR
 ·exact ZIs
 ·exact ZIu
 ·exact ZHP
 ·exact ZIe
 ·exact ZJq
 ·exact ZIf
 ·exact ZIM
 ·exact ZHx
 ·exact ZJG
 ·exact ZId
 ·exact ZIz
 ·exact ZIT
 ·exact ZI2
 ·exact ZIr
 ·exact ZIk
 ·exact ZH4
 ·exact ZH2
 ·exact ZJE
 ·exact ZJw
 ·exact ZHy
 ·exact ZH7
 ·exact ZHO
 ·exact ZIF
 ·exact ZHI)
theorem tmo : Tryz.prog.follows .mixedOrders = true := by kernel_rfl
end Go.Proofs.YtchkcemlglpobaaGreat
namespace Go.Eng
set_option linter.all false
open Go
theorem ZpP (a b : ByteArray) : sLt a b = true ↔ bl8 a < bl8 b := by
 unfold sLt bl8
 rw [ByteArray.toList_eq, ByteArray.toList_eq, Go.Proofs.bytesLess_eq, decide_eq_true_eq]
theorem ZnF {a b : ByteArray} (h : bl8 a = bl8 b) : a = b := by
 unfold bl8 at h
 obtain ⟨⟨a⟩⟩ := a
 obtain ⟨⟨b⟩⟩ := b
 simp only at h
 rw [h]
theorem Zwl {a b : ByteArray} (h : sLt a b = false) : bl8 b ≤ bl8 a := fun h2 => by rw [(ZpP a b).2 h2] at h; cases h
def ZwJ (x : ByteArray) : List ByteArray → List ByteArray
 | [] => [x]
 | y :: l => match sLt y x with
  | true => y :: ZwJ x l
  | false => x :: y :: l
def Zhx : List ByteArray → List ByteArray
 | [] => []
 | x :: l => ZwJ x (Zhx l)
theorem Zgs (x : ByteArray) : ∀ l, (ZwJ x l).Perm (x :: l)
 | [] => .refl _
 | y :: l => by
  unfold ZwJ
  split
  ·exact ((Zgs x l).cons y).trans (.swap ..)
  ·exact .refl _
theorem Zck : ∀ l, (Zhx l).Perm l
 | [] => .refl _
 | x :: l => (Zgs x _).trans ((Zck l).cons x)
theorem Zn6 (x : ByteArray) : ∀ l, (l.Pairwise fun x y => bl8 x ≤ bl8 y) → ((ZwJ x l).Pairwise fun x y => bl8 x ≤ bl8 y)
 | [], _ => by simp [ZwJ]
 | y :: l, h => by
  rw [Yaz] at h
  unfold ZwJ
  split
  ·rename_i e
   rw [Yaz]
   refine ⟨fun z hz => ?_, Zn6 x l h.2⟩
   rcases Ys.1 ((Zgs x l).mem_iff.1 hz) with rfl | hz
   ·exact List.le_of_lt ((ZpP y z).1 e)
   ·exact h.1 z hz
  ·rename_i e
   rw [Yaz, Yaz]
   refine ⟨fun z hz => ?_, h⟩
   rcases Ys.1 hz with rfl | hz
   ·exact Zwl e
   ·exact List.le_trans (Zwl e) (h.1 z hz)
theorem ZfC : ∀ l, (Zhx l).Pairwise fun x y => bl8 x ≤ bl8 y
 | [] => .nil
 | x :: l => Zn6 x _ (ZfC l)
theorem Zsf (xs : List ByteArray) : (ZiT xs).Pairwise fun x y => bl8 x ≤ bl8 y := by
 have := List.pairwise_mergeSort (le := fun x y : ByteArray => decide (bl8 x ≤ bl8 y)) (fun a b c h1 h2 => by simp only [decide_eq_true_eq] at *; exact List.le_trans h1 h2) (fun a b => by simp only [Bool.or_eq_true, decide_eq_true_eq]; exact List.le_total _ _) xs
 exact this.imp fun h => by simpa using h
theorem Zug (l : List ByteArray) : Zhx l = ZiT l :=
 ((Zck l).trans (List.mergeSort_perm _ _).symm).eq_of_pairwise (fun a b _ _ h1 h2 => ZnF (List.le_antisymm h1 h2)) (ZfC l) (Zsf l)
end Go.Eng
