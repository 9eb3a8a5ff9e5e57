import Derived.Test.YthagpbkmakocjaaGreatCz19
import Derived.Test.YthagpbkmakocjaaGreatCz24
import Derived.Test.YthagpbkmakocjaaGreatCz23
import Derived.Test.YthagpbkmakocjaaGreatCz22
import Derived.Test.YthagpbkmakocjaaGreatCz14
import Derived.Sort.Walk0
import Derived.Test.YthagpbkmakocjaaGreatCz00
namespace Go.Proofs.YthagpbkmakocjaaGreat
set_option linter.all false
open Go Go.Eng
structure SzO (s : Scm) (ns : List ByteArray) : Prop where
 n : ns.length ≤ 1048576
 m : s.messages.length ≤ 1048576
 e : s.enums.length ≤ 1048576
 v : s.services.length ≤ 1048576
 f : ∀ m ∈ s.messages, m.fields.length ≤ 1048576
 d : ∀ v ∈ s.services, v.methods.length ≤ 1048576
 t : ZFQ s ≤ 4194304
def Zgk (r : List (ByteArray × Bool)) (l : List ByteArray) : List (ByteArray × Bool) := l.foldl (fun r x => ZgC x true r) r
theorem Zcz (r : List (ByteArray × Bool)) (l k : List ByteArray) : Zgk r (l ++ k) = Zgk (Zgk r l) k := List.foldl_append
theorem Zq9 (y : ByteArray) : ∀ (l : List ByteArray) (r : List (ByteArray × Bool)), lkM y (Zgk r l) = true ↔ y ∈ l ∨ lkM y r = true
 | [], r => by simp [Zgk]
 | x :: l, r => by
  show lkM y (Zgk (ZgC x true r) l) = true ↔ _
  rw [Zq9 y l, ZDS]
  grind
theorem Ztf : ∀ (l : List ByteArray) (r : List (ByteArray × Bool)), (Zb6 r).Nodup → (Zb6 (Zgk r l)).Nodup
 | [], r, h => h
 | x :: l, r, h => Ztf l _ (ZHW x true h)
def Zii (s : Scm) : List (ByteArray × Bool) := Zgk [] (nmS s)
theorem ZfZ (s : Scm) (y : ByteArray) : lkM y (Zii s) = true ↔ y ∈ nmS s := by
 unfold Zii
 rw [Zq9]
 simp [lkM, Zgp, Mv.z]
theorem ZsN (s : Scm) : (Zb6 (Zii s)).Nodup := Ztf _ _ (by simp [Zb6])
theorem o40 (s : Scm) {ns : List ByteArray} (h : SzO s ns) : ZdX s = some (Zii s) := by
 have q1 : ∀ r, Zaa (ZhE s) big (0, r) = some (.inl (Zgk r (s.messages.map (·.name)))) := fun r => by
  have := Zax (B := ZhE s) (N := big) s.messages (fun p => Zgk r (p.map (·.name))) (fun i b => (i, b)) id (hN := Zag (by have := h.m; omega)) (he := by simp [ZhE, ZqQ, br]) (hs := fun i x hx => by
   have g1 := Zcl hx
   have g0 := (Ya.1 hx).1
   have g3 := h.m
   have g2 : i + 1 < 9223372036854775808 := by omega
   dsimp only [ZhE, ZqQ, br, ix, vw, vs, ln, lxe, lf, wa, mlk, mpu, mdl, mvm, rb, cr, tro, ch]
   simp only [g1, g2, hx, decide_true, if_true, Option.bind_some, YE, Yo, YT, Zcz]
   rfl)
  exact this
 have q2 : ∀ r, Zaa (ZhG s) big (0, r) = some (.inl (Zgk r (s.enums.map (·.name)))) := fun r => by
  have := Zax (B := ZhG s) (N := big) s.enums (fun p => Zgk r (p.map (·.name))) (fun i b => (i, b)) id (hN := Zag (by have := h.e; omega)) (he := by simp [ZhG, ZtZ, br]) (hs := fun i x hx => by
   have g1 := Zcl hx
   have g0 := (Ya.1 hx).1
   have g3 := h.e
   have g2 : i + 1 < 9223372036854775808 := by omega
   dsimp only [ZhG, ZtZ, br, ix, vw, vs, ln, lxe, lf, wa, mlk, mpu, mdl, mvm, rb, cr, tro, ch]
   simp only [g1, g2, hx, decide_true, if_true, Option.bind_some, YE, Yo, YT, Zcz]
   rfl)
  exact this
 have q3 : ∀ r, Zaa (ZhJ s) big (0, r) = some (.inl (Zgk r (s.services.map (·.name)))) := fun r => by
  have := Zax (B := ZhJ s) (N := big) s.services (fun p => Zgk r (p.map (·.name))) (fun i b => (i, b)) id (hN := Zag (by have := h.v; omega)) (he := by simp [ZhJ, Zri, br]) (hs := fun i x hx => by
   have g1 := Zcl hx
   have g0 := (Ya.1 hx).1
   have g3 := h.v
   have g2 : i + 1 < 9223372036854775808 := by omega
   dsimp only [ZhJ, Zri, br, ix, vw, vs, ln, lxe, lf, wa, mlk, mpu, mdl, mvm, rb, cr, tro, ch]
   simp only [g1, g2, hx, decide_true, if_true, Option.bind_some, YE, Yo, YT, Zcz]
   rfl)
  exact this
 unfold ZdX
 dsimp only [ZFd, ZBE, ZCh, Zz7, ZAs, vz, vw, lr, lc, lf, mlk, mpu, mdl, mvm, rb, cr, tro, ch]
 simp only [q1, q2, q3, Option.bind_some, Sum.elim_inl, Zii, nmS, Zcz]
theorem ZP5 (s : Scm) {ns : List ByteArray} (h : SzO s ns) : Zed s = some (Zii s) := by
 have q1 : ∀ r, Zaa (Zik s) big (0, r) = some (.inl (Zgk r (s.messages.map (·.name)))) := fun r => by
  have := Zax (B := Zik s) (N := big) s.messages (fun p => Zgk r (p.map (·.name))) (fun i b => (i, b)) id (hN := Zag (by have := h.m; omega)) (he := by simp [Zik, Zig, br]) (hs := fun i x hx => by
   have g1 := Zcl hx
   have g0 := (Ya.1 hx).1
   have g3 := h.m
   have g2 : i + 1 < 9223372036854775808 := by omega
   dsimp only [Zik, Zig, Zio, Zif, ZjS, ZkP, Zkf, Zjw, Zk1, al, frt, stp, br, ix, ixi, vz, vy, vw, vs, vg, v2, lr, lrt, ln, lxe, lc, lf, lfe, ap, aq, a0, a1, ad, cl, cs, cf, wa, wi, ir, ca, cp, dd, mv, st, ss, sL, Bd.c, Bd.vl, mlk, mpu, mdl, mvm, rb, cr, tro, ch]
   simp only [g1, g2, hx, decide_true, if_true, Option.bind_some, YE, Yo, YT, Zcz]
   rfl)
  exact this
 have q2 : ∀ r, Zaa (ZhV s) big (0, r) = some (.inl (Zgk r (s.enums.map (·.name)))) := fun r => by
  have := Zax (B := ZhV s) (N := big) s.enums (fun p => Zgk r (p.map (·.name))) (fun i b => (i, b)) id (hN := Zag (by have := h.e; omega)) (he := by simp [ZhV, Zio, br]) (hs := fun i x hx => by
   have g1 := Zcl hx
   have g0 := (Ya.1 hx).1
   have g3 := h.e
   have g2 : i + 1 < 9223372036854775808 := by omega
   dsimp only [ZhV, Zig, Zio, Zif, ZjS, ZkP, Zkf, Zjw, Zk1, al, frt, stp, br, ix, ixi, vz, vy, vw, vs, vg, v2, lr, lrt, ln, lxe, lc, lf, lfe, ap, aq, a0, a1, ad, cl, cs, cf, wa, wi, ir, ca, cp, dd, mv, st, ss, sL, Bd.c, Bd.vl, mlk, mpu, mdl, mvm, rb, cr, tro, ch]
   simp only [g1, g2, hx, decide_true, if_true, Option.bind_some, YE, Yo, YT, Zcz]
   rfl)
  exact this
 have q3 : ∀ r, Zaa (Zh7 s) big (0, r) = some (.inl (Zgk r (s.services.map (·.name)))) := fun r => by
  have := Zax (B := Zh7 s) (N := big) s.services (fun p => Zgk r (p.map (·.name))) (fun i b => (i, b)) id (hN := Zag (by have := h.v; omega)) (he := by simp [Zh7, Zif, br]) (hs := fun i x hx => by
   have g1 := Zcl hx
   have g0 := (Ya.1 hx).1
   have g3 := h.v
   have g2 : i + 1 < 9223372036854775808 := by omega
   dsimp only [Zh7, Zig, Zio, Zif, ZjS, ZkP, Zkf, Zjw, Zk1, al, frt, stp, br, ix, ixi, vz, vy, vw, vs, vg, v2, lr, lrt, ln, lxe, lc, lf, lfe, ap, aq, a0, a1, ad, cl, cs, cf, wa, wi, ir, ca, cp, dd, mv, st, ss, sL, Bd.c, Bd.vl, mlk, mpu, mdl, mvm, rb, cr, tro, ch]
   simp only [g1, g2, hx, decide_true, if_true, Option.bind_some, YE, Yo, YT, Zcz]
   rfl)
  exact this
 unfold Zed
 dsimp only [Zig, Zio, Zif, ZjS, ZkP, Zkf, Zjw, Zk1, al, frt, stp, br, ix, ixi, vz, vy, vw, vs, vg, v2, lr, lrt, ln, lxe, lc, lf, lfe, ap, aq, a0, a1, ad, cl, cs, cf, wa, wi, ir, ca, cp, dd, mv, st, ss, sL, Bd.c, Bd.vl, mlk, mpu, mdl, mvm, rb, cr, tro, ch]
 simp only [q1, q2, q3, Option.bind_some, Sum.elim_inl, Zii, nmS, Zcz]
theorem o42 (s : Scm) (x : ByteArray) {ns : List ByteArray} (h : SzO s ns) : Zfh s x = some (ZdP s x) := by
 have q2 : ∀ (v : Nat) (m : Msg) (r : List ByteArray), m.fields.length ≤ 1048576 → r.length ≤ 8388608 → Zaa (Zpd s x v m) big (r, 0) = some (.inl (r ++ uM x m)) := fun v m r hm hr => by
  have := Zax (B := Zpd s x v m) (N := big) m.fields (fun p => r ++ p.flatMap (uF x m)) (fun i b => (b, i)) id (hN := Zag (by omega)) (he := by simp [Zpd, ZCZ, br]) (hs := fun i d hx => by
   have g1 := Zcl hx
   have g0 := (Ya.1 hx).1
   have g2 : i + 1 < 9223372036854775808 := by omega
   have g4 : (r ++ (m.fields.take i).flatMap (uF x m)).length < 549755813887 := by
    have := Zqz (uF x m) 1 (fun d => by unfold uF; split <;> simp) (m.fields.take i)
    rw [Yr] at this
    rw [Yi]; omega
   dsimp only [Zpd, ZCZ, br, ix, vz, vw, vs, v2, ln, lxe, lf, ap, cs, wa, mlk, mpu, mdl, mvm, rb, cr, tro, ch]
   rw [YaE, YG, Ya3, YW, ← YN]
   by_cases hc : (decide (m.name = x) && (decide (d.type.kind = (10 : Int)) || decide (d.type.kind = (9 : Int)))) = true
   ·rw [show uF x m d = [d.type.name] from if_pos hc]
    simp only [g1, g2, g4, hx, hc, decide_true, if_true, Option.bind_some]
   ·rw [show uF x m d = [] from if_neg hc]
    simp only [g1, g2, g4, hx, hc, decide_true, if_true, if_false, Option.bind_some, YW, Yf])
  simpa [uM] using this
 have q1 : Zaa (ZoP s x) big ([], 0) = some (.inl (s.messages.flatMap (uM x))) := by
  have := Zax (B := ZoP s x) (N := big) s.messages (fun p => p.flatMap (uM x)) (fun i b => (b, i)) id (hN := Zag (by have := h.m; omega)) (he := by simp [ZoP, ZC7, ZBc, ZBh, br, ix, vs]) (hs := fun i m hx => by
   have g1 := Zcl hx
   have g0 := (Ya.1 hx).1
   have g3 := h.m
   have g2 : i + 1 < 9223372036854775808 := by omega
   have g5 : ((s.messages.take i).flatMap (uM x)).length ≤ 8388608 := by
    have h1 := Znd s x
    have h2 := h.t
    unfold ZdP at h1
    have h3 : s.messages.flatMap (uM x) = (s.messages.take i).flatMap (uM x) ++ (s.messages.drop i).flatMap (uM x) := by rw [← YaE, YaX]
    rw [Yi, h3, Yi] at h1
    omega
   have g4 := q2 i m _ (h.f m (Ye hx)) g5
   dsimp only [ZoP, ZC7, ZBc, ZBh, br, ix, vz, vw, vs, v2, ln, lxe, lc, lf, wa, mlk, mpu, mdl, mvm, rb, cr, tro, ch]
   simp only [g1, g2, hx, g4, decide_true, if_true, Option.bind_some, Sum.elim_inl, YaE, YG, Ya3, YW])
  exact this
 have q4 : ∀ (v : Nat) (m : Svc) (r : List ByteArray), m.methods.length ≤ 1048576 → r.length ≤ 8388608 → Zaa (ZpC s x v m) big (r, 0) = some (.inl (r ++ uV x m)) := fun v m r hm hr => by
  have := Zax (B := ZpC s x v m) (N := big) m.methods (fun p => r ++ p.flatMap (uE x m)) (fun i b => (b, i)) id (hN := Zag (by omega)) (he := by simp [ZpC, ZEs, br]) (hs := fun i d hx => by
   have g1 := Zcl hx
   have g0 := (Ya.1 hx).1
   have g2 : i + 1 < 9223372036854775808 := by omega
   have g4 : (r ++ (m.methods.take i).flatMap (uE x m)).length < 549755813886 := by
    have := Zqz (uE x m) 2 (fun d => by unfold uE; split <;> simp) (m.methods.take i)
    rw [Yr] at this
    rw [Yi]; omega
   dsimp only [ZpC, ZEs, br, ix, vz, vw, vs, ln, lxe, lf, wa, mlk, mpu, mdl, mvm, rb, cr, tro, ch]
   rw [YaE, YG, Ya3, YW, ← YN]
   by_cases hc : decide (m.name = x) = true
   ·rw [show uE x m d = [d.inn, d.out] from if_pos hc]
    simp only [g1, g2, g4, hx, hc, decide_true, if_true, Option.bind_some]
   ·rw [show uE x m d = [] from if_neg hc]
    simp only [g1, g2, g4, hx, hc, decide_true, if_true, if_false, Option.bind_some, YW, Yf])
  simpa [uV] using this
 have q3 : ∀ r : List ByteArray, r = s.messages.flatMap (uM x) → Zaa (Zpu s x) big (r, 0) = some (.inl (r ++ s.services.flatMap (uV x))) := fun r hr => by
  have := Zax (B := Zpu s x) (N := big) s.services (fun p => r ++ p.flatMap (uV x)) (fun i b => (b, i)) id (hN := Zag (by have := h.v; omega)) (he := by simp [Zpu, ZEP, ZBZ, ZAB, br, ix, vs]) (hs := fun i m hx => by
   have g1 := Zcl hx
   have g0 := (Ya.1 hx).1
   have g3 := h.v
   have g2 : i + 1 < 9223372036854775808 := by omega
   have g5 : (r ++ (s.services.take i).flatMap (uV x)).length ≤ 8388608 := by
    have h1 := Znd s x
    have h2 := h.t
    unfold ZdP at h1
    have h3 : s.services.flatMap (uV x) = (s.services.take i).flatMap (uV x) ++ (s.services.drop i).flatMap (uV x) := by rw [← YaE, YaX]
    rw [Yi, h3, Yi, ← hr] at h1
    rw [Yi]
    omega
   have g4 := q4 i m _ (h.d m (Ye hx)) g5
   dsimp only [Zpu, ZEP, ZBZ, ZAB, br, ix, vz, vw, vs, ln, lxe, lc, lf, wa, mlk, mpu, mdl, mvm, rb, cr, tro, ch]
   simp only [g1, g2, hx, g4, decide_true, if_true, Option.bind_some, Sum.elim_inl, YaE, YG, Ya3, YW, YN])
  simpa using this
 unfold Zfh
 dsimp only [ZEW, Zt7, Zrg, ZqM, Zs6, vz, vw, lr, lc, lf, mlk, mpu, mdl, mvm, rb, cr, tro, ch]
 rw [q1]
 dsimp only [Option.bind_some, Sum.elim_inl, ZEW, Zt7, Zrg, ZqM, Zs6, vz, vw, lr, lc, lf, mlk, mpu, mdl, mvm, rb, cr, tro, ch]
 rw [q3 _ rfl]
 rfl
theorem o41 (l : List ByteArray) (h : l.length < 549755813888) : Zc1 l = some l := by
 unfold Zc1
 simp only [ZI8, al, Yf, if_false, h, if_true]
def ixQ {α : Type} (l : List α) (p : α → Bool) : Int := match l.findIdx? p with
 | some i => (i : Int)
 | none => -1
theorem o75 (l : List Msg) (h : l.length < 549755813888) : Zbh l = some l := by
 unfold Zbh
 simp only [ZCD, al, Yf, if_false, h, if_true]
theorem ZKP (l : List Msg) (f : Msg → Option Bool) (p : Msg → Bool) (hf : ∀ x ∈ l, f x = some (p x)) (h : l.length < 4611686018427387904) : Zbp l f = some (ixQ l p) := by
 unfold Zbp
 simp only [Zqv, ZsA, ZsD, vz, lr, lf]
 rw [Za8 l p (fun i => (i : Int)) () (hN := Zag h) (he := by simp [Zji, Zly, br]) (hs := by
  intro i y hy
  obtain ⟨h1, rfl⟩ := Ya.1 hy
  have h2 : i + 1 < 9223372036854775808 := by omega
  have h3 := hf l[i] (Ye hy)
  simp [Zji, Zly, br, h1, h2, h3]
  cases p l[i] <;> rfl)]
 unfold ixQ
 cases l.findIdx? _ <;> rfl
theorem o74 (l : List Msg) (f : Msg → Option Bool) (p : Msg → Bool) (hf : ∀ x ∈ l, f x = some (p x)) (h : l.length < 549755813888) : ZbE l f = some (l.filter fun x => !p x) := by
 have e0 := ZKP l f p hf (by omega)
 unfold ZbE
 dsimp only [ZKc, ZH0, vw, vs, vg, vz, cs, br, lr, lf, lc, wi]
 rw [e0, Option.bind_some]
 cases hi : l.findIdx? p with
 | none =>
  rw [show ixQ l p = -1 from by unfold ixQ; rw [hi]]
  rw [show l.filter (fun x => !p x) = l from YaM.2 fun x hx => by rw [Yar.1 hi x hx]; rfl]
  rfl
 | some i =>
  obtain ⟨h1, h2, h3⟩ := YX.1 hi
  rw [show ixQ l p = (i : Int) from by unfold ixQ; rw [hi]]
  have hni : ((i : Int) = -1) = False := eq_false (by omega)
  have hw : -9223372036854775808 ≤ (i : Int) + 1 ∧ (i : Int) + 1 < 9223372036854775808 := by omega
  have ht : (l.take i).filter (fun x => !p x) = l.take i := YaM.2 fun x hx => by
   obtain ⟨j, hj, rfl⟩ := Ya9.1 hx
   rw [YbB.2 (h3 j (by omega))]; rfl
  have e1 : (l.take (i + 1)).filter (fun x => !p x) = l.take i := by rw [YZ h1, Yaw, ht]; simp [h2]
  obtain ⟨i', r', q1, q2, q3, q4⟩ := ZMs (B := Zql l f) l p (fun i j r x hij hr hx hl => by
    have g0 := (Ya.1 hl).1
    have g1 : (j : Int) < (l.length : Int) := by omega
    have g3 := hf x (Ye hl)
    have w1 : -9223372036854775808 ≤ (i : Int) + 1 ∧ (i : Int) + 1 < 9223372036854775808 := by omega
    have w2 : -9223372036854775808 ≤ (j : Int) + 1 ∧ (j : Int) + 1 < 9223372036854775808 := by omega
    have b1 : (0 : Int) ≤ (j : Int) := by omega
    have b2 : (0 : Int) ≤ (i : Int) := by omega
    have b3 : (i : Int) < (l.length : Int) := by omega
    have b4 : i < r.length := by omega
    dsimp only [Zql, ZA1, br, vz, vw, vs, v2, ln, lxe, lf, cs, cf, wi, ca, st, mlk, mpu, mdl, mvm, rb, cr, tro, ch]
    simp only [g1, g3, w1, w2, b1, b2, b3, b4, hx, and_self, decide_true, if_true, Yac, Option.bind_some]
    cases p x <;> simp)
   (fun i r => by
    dsimp only [Zql, ZA1, br, vz, vw, vs, v2, ln, lxe, lf, cs, cf, wi, ca, st, mlk, mpu, mdl, mvm, rb, cr, tro, ch]
    simp)
   (l.length - (i + 1)) big i (i + 1) l (by omega) (Zag (by omega)) (by omega) rfl e1.symm (by rw [e1, Yr]; omega) rfl
  rw [show ((i : Int) + 1) = ((i + 1 : Nat) : Int) from rfl] at hw ⊢
  simp only [hni, hw, q1, decide_false, Yf, and_self, if_true, if_false, Option.bind_some, Sum.elim_inl]
  have b1 : i' ≤ l.length := by rw [q3]; exact YL _ _
  have b2 : (i' : Int) = ((r'.take i').length : Int) := by rw [Yr]; omega
  simp [ZJS, q2, q4, Bd.c, Bd.vl, cr]
  omega
theorem o76 (m : Msg) (r : List (ByteArray × Bool)) : Zcy m r = some (lkM m.name r) := rfl
theorem o26 (l : List Enm) (h : l.length < 549755813888) : Zbd l = some l := by
 unfold Zbd
 simp only [ZxU, al, Yf, if_false, h, if_true]
theorem ZIF (l : List Enm) (f : Enm → Option Bool) (p : Enm → Bool) (hf : ∀ x ∈ l, f x = some (p x)) (h : l.length < 4611686018427387904) : Zca l f = some (ixQ l p) := by
 unfold Zca
 simp only [ZsF, ZtN, ZtI, vz, lr, lf]
 rw [Za8 l p (fun i => (i : Int)) () (hN := Zag h) (he := by simp [Zjl, ZlU, br]) (hs := by
  intro i y hy
  obtain ⟨h1, rfl⟩ := Ya.1 hy
  have h2 : i + 1 < 9223372036854775808 := by omega
  have h3 := hf l[i] (Ye hy)
  simp [Zjl, ZlU, br, h1, h2, h3]
  cases p l[i] <;> rfl)]
 unfold ixQ
 cases l.findIdx? _ <;> rfl
theorem o77 (l : List Enm) (f : Enm → Option Bool) (p : Enm → Bool) (hf : ∀ x ∈ l, f x = some (p x)) (h : l.length < 549755813888) : Zck l f = some (l.filter fun x => !p x) := by
 have e0 := ZIF l f p hf (by omega)
 unfold Zck
 dsimp only [ZGM, ZF8, vw, vs, vg, vz, cs, br, lr, lf, lc, wi]
 rw [e0, Option.bind_some]
 cases hi : l.findIdx? p with
 | none =>
  rw [show ixQ l p = -1 from by unfold ixQ; rw [hi]]
  rw [show l.filter (fun x => !p x) = l from YaM.2 fun x hx => by rw [Yar.1 hi x hx]; rfl]
  rfl
 | some i =>
  obtain ⟨h1, h2, h3⟩ := YX.1 hi
  rw [show ixQ l p = (i : Int) from by unfold ixQ; rw [hi]]
  have hni : ((i : Int) = -1) = False := eq_false (by omega)
  have hw : -9223372036854775808 ≤ (i : Int) + 1 ∧ (i : Int) + 1 < 9223372036854775808 := by omega
  have ht : (l.take i).filter (fun x => !p x) = l.take i := YaM.2 fun x hx => by
   obtain ⟨j, hj, rfl⟩ := Ya9.1 hx
   rw [YbB.2 (h3 j (by omega))]; rfl
  have e1 : (l.take (i + 1)).filter (fun x => !p x) = l.take i := by rw [YZ h1, Yaw, ht]; simp [h2]
  obtain ⟨i', r', q1, q2, q3, q4⟩ := ZMs (B := Zrd l f) l p (fun i j r x hij hr hx hl => by
    have g0 := (Ya.1 hl).1
    have g1 : (j : Int) < (l.length : Int) := by omega
    have g3 := hf x (Ye hl)
    have w1 : -9223372036854775808 ≤ (i : Int) + 1 ∧ (i : Int) + 1 < 9223372036854775808 := by omega
    have w2 : -9223372036854775808 ≤ (j : Int) + 1 ∧ (j : Int) + 1 < 9223372036854775808 := by omega
    have b1 : (0 : Int) ≤ (j : Int) := by omega
    have b2 : (0 : Int) ≤ (i : Int) := by omega
    have b3 : (i : Int) < (l.length : Int) := by omega
    have b4 : i < r.length := by omega
    dsimp only [Zrd, ZDR, br, vz, vw, vs, v2, ln, lxe, lf, cs, cf, wi, ca, st, mlk, mpu, mdl, mvm, rb, cr, tro, ch]
    simp only [g1, g3, w1, w2, b1, b2, b3, b4, hx, and_self, decide_true, if_true, Yac, Option.bind_some]
    cases p x <;> simp)
   (fun i r => by
    dsimp only [Zrd, ZDR, br, vz, vw, vs, v2, ln, lxe, lf, cs, cf, wi, ca, st, mlk, mpu, mdl, mvm, rb, cr, tro, ch]
    simp)
   (l.length - (i + 1)) big i (i + 1) l (by omega) (Zag (by omega)) (by omega) rfl e1.symm (by rw [e1, Yr]; omega) rfl
  rw [show ((i : Int) + 1) = ((i + 1 : Nat) : Int) from rfl] at hw ⊢
  simp only [hni, hw, q1, decide_false, Yf, and_self, if_true, if_false, Option.bind_some, Sum.elim_inl]
  have b1 : i' ≤ l.length := by rw [q3]; exact YL _ _
  have b2 : (i' : Int) = ((r'.take i').length : Int) := by rw [Yr]; omega
  simp [ZG2, q2, q4, Bd.c, Bd.vl, cr]
  omega
theorem o78 (m : Enm) (r : List (ByteArray × Bool)) : ZcB m r = some (lkM m.name r) := rfl
theorem o80 (l : List Svc) (h : l.length < 549755813888) : Zbg l = some l := by
 unfold Zbg
 simp only [ZDu, al, Yf, if_false, h, if_true]
theorem ZIh (l : List Svc) (f : Svc → Option Bool) (p : Svc → Bool) (hf : ∀ x ∈ l, f x = some (p x)) (h : l.length < 4611686018427387904) : Zbq l f = some (ixQ l p) := by
 unfold Zbq
 simp only [ZqS, ZtG, Zsd, vz, lr, lf]
 rw [Za8 l p (fun i => (i : Int)) () (hN := Zag h) (he := by simp [ZiG, Zl4, br]) (hs := by
  intro i y hy
  obtain ⟨h1, rfl⟩ := Ya.1 hy
  have h2 : i + 1 < 9223372036854775808 := by omega
  have h3 := hf l[i] (Ye hy)
  simp [ZiG, Zl4, br, h1, h2, h3]
  cases p l[i] <;> rfl)]
 unfold ixQ
 cases l.findIdx? _ <;> rfl
theorem o79 (l : List Svc) (f : Svc → Option Bool) (p : Svc → Bool) (hf : ∀ x ∈ l, f x = some (p x)) (h : l.length < 549755813888) : ZbC l f = some (l.filter fun x => !p x) := by
 have e0 := ZIh l f p hf (by omega)
 unfold ZbC
 dsimp only [ZIy, ZJR, vw, vs, vg, vz, cs, br, lr, lf, lc, wi]
 rw [e0, Option.bind_some]
 cases hi : l.findIdx? p with
 | none =>
  rw [show ixQ l p = -1 from by unfold ixQ; rw [hi]]
  rw [show l.filter (fun x => !p x) = l from YaM.2 fun x hx => by rw [Yar.1 hi x hx]; rfl]
  rfl
 | some i =>
  obtain ⟨h1, h2, h3⟩ := YX.1 hi
  rw [show ixQ l p = (i : Int) from by unfold ixQ; rw [hi]]
  have hni : ((i : Int) = -1) = False := eq_false (by omega)
  have hw : -9223372036854775808 ≤ (i : Int) + 1 ∧ (i : Int) + 1 < 9223372036854775808 := by omega
  have ht : (l.take i).filter (fun x => !p x) = l.take i := YaM.2 fun x hx => by
   obtain ⟨j, hj, rfl⟩ := Ya9.1 hx
   rw [YbB.2 (h3 j (by omega))]; rfl
  have e1 : (l.take (i + 1)).filter (fun x => !p x) = l.take i := by rw [YZ h1, Yaw, ht]; simp [h2]
  obtain ⟨i', r', q1, q2, q3, q4⟩ := ZMs (B := Zte l f) l p (fun i j r x hij hr hx hl => by
    have g0 := (Ya.1 hl).1
    have g1 : (j : Int) < (l.length : Int) := by omega
    have g3 := hf x (Ye hl)
    have w1 : -9223372036854775808 ≤ (i : Int) + 1 ∧ (i : Int) + 1 < 9223372036854775808 := by omega
    have w2 : -9223372036854775808 ≤ (j : Int) + 1 ∧ (j : Int) + 1 < 9223372036854775808 := by omega
    have b1 : (0 : Int) ≤ (j : Int) := by omega
    have b2 : (0 : Int) ≤ (i : Int) := by omega
    have b3 : (i : Int) < (l.length : Int) := by omega
    have b4 : i < r.length := by omega
    dsimp only [Zte, ZED, br, vz, vw, vs, v2, ln, lxe, lf, cs, cf, wi, ca, st, mlk, mpu, mdl, mvm, rb, cr, tro, ch]
    simp only [g1, g3, w1, w2, b1, b2, b3, b4, hx, and_self, decide_true, if_true, Yac, Option.bind_some]
    cases p x <;> simp)
   (fun i r => by
    dsimp only [Zte, ZED, br, vz, vw, vs, v2, ln, lxe, lf, cs, cf, wi, ca, st, mlk, mpu, mdl, mvm, rb, cr, tro, ch]
    simp)
   (l.length - (i + 1)) big i (i + 1) l (by omega) (Zag (by omega)) (by omega) rfl e1.symm (by rw [e1, Yr]; omega) rfl
  rw [show ((i : Int) + 1) = ((i + 1 : Nat) : Int) from rfl] at hw ⊢
  simp only [hni, hw, q1, decide_false, Yf, and_self, if_true, if_false, Option.bind_some, Sum.elim_inl]
  have b1 : i' ≤ l.length := by rw [q3]; exact YL _ _
  have b2 : (i' : Int) = ((r'.take i').length : Int) := by rw [Yr]; omega
  simp [ZJr, q2, q4, Bd.c, Bd.vl, cr]
  omega
theorem o81 (m : Svc) (r : List (ByteArray × Bool)) : Zcv m r = some (lkM m.name r) := rfl
theorem o43 (s : Scm) (r : List (ByteArray × Bool)) {ns : List ByteArray} (h : SzO s ns) : ZdM s r = some (ZeN s fun x => !lkM x r) := by
 have g1 := h.m
 have g2 := h.e
 have g3 := h.v
 unfold ZdM
 dsimp only [ZIU, ZCF, ZKA, vz, vw, lr, lc, lf, mlk, mpu, mdl, mvm, rb, cr, tro, ch]
 simp only [o75 s.messages (by omega), o26 s.enums (by omega), o80 s.services (by omega), Option.bind_some]
 simp only [o74 s.messages _ (fun m => lkM m.name r) (fun x _ => o76 x r) (by omega), o77 s.enums _ (fun m => lkM m.name r) (fun x _ => o78 x r) (by omega), o79 s.services _ (fun m => lkM m.name r) (fun x _ => o81 x r) (by omega), Option.bind_some]
 rfl
end Go.Proofs.YthagpbkmakocjaaGreat
namespace Go.Proofs.YthagpbkmakocjaaGreat
set_option linter.all false
open Go Go.Eng
structure IO1 (s : Scm) (ns : List ByteArray) (todo : List ByteArray) (rest : List (ByteArray × Bool)) : Prop where
 nd : (Zb6 rest).Nodup
 b : todo.length + Zyv (fun x => (ZdP s x).length) rest ≤ 5242880
 n : ∀ x ∈ ns, lkM x rest = false ∨ x ∈ todo
 c : ∀ x, lkM x rest = false → x ∈ nmS s → ∀ y ∈ ZdP s x, y ∈ nmS s → lkM y rest = false ∨ y ∈ todo
 l : ∀ x ∈ nmS s, lkM x rest = false → Cl s ns x
 t : ∀ x ∈ todo, x ∈ nmS s → Cl s ns x
 k : ∀ x, lkM x rest = true → x ∈ nmS s
theorem ZxN (s : Scm) {ns : List ByteArray} (h : SzO s ns) (hn : ∀ x ∈ ns, x ∈ nmS s) : IO1 s ns ns (Zii s) where
 nd := ZsN s
 b := by
  have h1 := Zn4 s (ZsN s)
  have h2 := h.t
  have h3 := h.n
  unfold Zyv
  omega
 n := fun x hx => .inr hx
 c := fun x hx hm => by rw [(ZfZ s x).2 hm] at hx; cases hx
 l := fun x hm hx => by rw [(ZfZ s x).2 hm] at hx; cases hx
 t := fun x hx _ => .base hx
 k := fun x hx => (ZfZ s x).1 hx
theorem ZIq {s : Scm} {ns : List ByteArray} {e : ByteArray} {td : List ByteArray} {r : List (ByteArray × Bool)} (h : IO1 s ns (e :: td) r) (he : lkM e r = true) :
  IO1 s ns (td ++ ZdP s e) (Zgs e r) ∧ (td ++ ZdP s e).length + Zyv (fun x => (ZdP s x).length) (Zgs e r) < (e :: td).length + Zyv (fun x => (ZdP s x).length) r := by
 have hs := Zwj (fun x => (ZdP s x).length) (ZH8 he)
 have hb := h.b
 rw [YU] at hb
 have hm := h.k e he
 have hc := h.t e (by simp) hm
 have hd : ∀ y, lkM y (Zgs e r) = (decide (e ≠ y) && lkM y r) := fun y => ZD2 h.nd
 have hf : ∀ y, lkM y (Zgs e r) = false → y = e ∨ lkM y r = false := fun y hy => by
  grind
 have hg : ∀ y, lkM y r = false → lkM y (Zgs e r) = false := fun y hy => by rw [hd, hy, Ybt]
 have hh : ∀ y, lkM y r = false ∨ y ∈ e :: td → lkM y (Zgs e r) = false ∨ y ∈ td ++ ZdP s e := fun y hy => by
  grind
 refine ⟨⟨ZHp e h.nd, by rw [Yi]; omega, fun x hx => hh x (h.n x hx), fun x hx hm y hy hym => ?_, fun x hm hx => ?_, fun x hx hm => ?_, fun x hx => ?_⟩, by rw [Yi, YU]; omega⟩
 ·rcases hf x hx with rfl | hx
  ·grind
  ·exact hh y (h.c x hx hm y hy hym)
 ·rcases hf x hx with rfl | hx
  ·exact hc
  ·exact h.l x hm hx
 ·rcases YaB.1 hx with hx | hx
  ·exact h.t x (Yq _ hx) hm
  ·exact .step hc hx hm
 ·rw [hd] at hx
  simp only [Yd] at hx
  exact h.k x hx.2
theorem ZBz {s : Scm} {ns : List ByteArray} {e : ByteArray} {td : List ByteArray} {r : List (ByteArray × Bool)} (h : IO1 s ns (e :: td) r) (he : lkM e r = false) : IO1 s ns td r := by
 have hb := h.b
 rw [YU] at hb
 have hh : ∀ y, lkM y r = false ∨ y ∈ e :: td → lkM y r = false ∨ y ∈ td := fun y hy => by
  grind
 exact ⟨h.nd, by omega, fun x hx => hh x (h.n x hx), fun x hx hm y hy hym => hh y (h.c x hx hm y hy hym), h.l, fun x hx hm => h.t x (Yq _ hx) hm, h.k⟩
theorem ZGA {s : Scm} {ns : List ByteArray} {r : List (ByteArray × Bool)} (h : IO1 s ns [] r) (hn : ∀ x ∈ ns, x ∈ nmS s) : ∀ x ∈ nmS s, (!lkM x r) = true ↔ Cl s ns x := by
 have f : ∀ {P : Prop} {x : ByteArray}, P ∨ x ∈ ([] : List ByteArray) → P := fun h => h.elim id fun h => by cases h
 intro x hx
 rw [Y3]
 refine ⟨h.l x hx, fun hc => ?_⟩
 exact (hc.sub (P := fun x => x ∈ nmS s ∧ lkM x r = false) (fun y hy => ⟨hn y hy, f (h.n y hy)⟩) fun y hy z hz hzm => ⟨hzm, f (h.c y hy.2 hy.1 z hz hzm)⟩).2
theorem ZvD (s : Scm) {ns : List ByteArray} (h : SzO s ns) (hn : ∀ x ∈ ns, x ∈ nmS s) : ∃ r, Zaa (Zlz s) big (ns, Zii s) = some (.inl r) ∧ IO1 s ns [] r := by
 have hx0 := ZxN s h hn
 obtain ⟨o, h1, h2⟩ := ZgH (B := Zlz s) (fun k v => IO1 s ns v.1 v.2 ∧ v.1.length + Zyv (fun x => (ZdP s x).length) v.2 = k) (fun o => ∃ r, o = .inl r ∧ IO1 s ns [] r) (fun k v hI => by
  obtain ⟨td, r⟩ := v
  obtain ⟨hI, hk⟩ := hI
  dsimp only at hI hk
  cases td with
  | nil =>
   refine ⟨.ex r, ?_, r, rfl, hI⟩
   dsimp only [Zlz, Zxh, br, vz, lxe, lc, lf, mlk, mpu, mdl, mvm, rb, cr, tro, ch]
   simp
  | cons e td =>
   have hb := hI.b
   have l0 : (e :: td).length = td.length + 1 := rfl
   have l1 : (0 : Int) < ((e :: td).length : Int) := by omega
   have l2 : 0 < (e :: td).length := by omega
   have hg : (e :: td)[0]? = some e := rfl
   cases he : lkM e r with
   | true =>
    obtain ⟨hJ, hlt⟩ := ZIq hI he
    have g1 := o42 s e h
    have g2 : (e :: td).length + (ZdP s e).length < 549755813888 := by
     grind
    refine ⟨.nx (td ++ ZdP s e, Zgs e r), ?_, _, by rw [← hk]; exact hlt, hJ, rfl⟩
    dsimp only [Zlz, Zxh, ZEr, ZGh, ZES, ZH7, vw, vs, vg, vz, br, lc, ln, lf, ir, ca, mlk, mdl, cl, aq]
    simp only [l1, l2, hg, he, g1, g2, decide_true, if_true, Option.bind_some]
    simp [Bd.c, Bd.vl]
   | false =>
    have hJ := ZBz hI he
    refine ⟨.nx (td, r), ?_, _, by dsimp only; omega, hJ, rfl⟩
    dsimp only [Zlz, Zxh, ZEr, ZJE, ZGR, vw, vs, vg, vz, br, lc, ln, lf, ir, ca, mlk, mdl, cl, aq]
    simp only [l1, l2, hg, he, decide_true, if_true, Option.bind_some, Yf, if_false]
    simp [Bd.c, Bd.vl]) big _ (ns, Zii s) (by have := hx0.b; exact YaW this (by decide)) ⟨hx0, rfl⟩
 grind
open Classical in
theorem o18 (s : Scm) {ns : List ByteArray} (h : SzO s ns) : ∃ r, Zfg s ns = some r ∧
  (((∀ x ∈ ns, x ∈ nmS s) ∧ r.2 = 0 ∧ ∃ p : ByteArray → Bool, r.1 = ZeN s p ∧ ∀ x ∈ nmS s, p x = true ↔ Cl s ns x) ∨ ((¬ ∀ x ∈ ns, x ∈ nmS s) ∧ r = (⟨[], [], []⟩, 10))) := by
 have hl := h.n
 have q1 : Zaa (ZtH s ns (Zii s)) big 0 = some (if ∀ x ∈ ns, x ∈ nmS s then .inl () else .inr (⟨[], [], []⟩, 10)) := by
  rw [Za8 ns (fun x => !lkM x (Zii s)) (fun _ => ((⟨[], [], []⟩, 10) : Scm × Int)) () (hN := Zag (by omega)) (he := by simp [ZtH, ZAz, br]) (hs := by
   intro i y hy
   obtain ⟨h1, rfl⟩ := Ya.1 hy
   have h2 : i + 1 < 9223372036854775808 := by omega
   simp [ZtH, ZAz, br, h1, h2]
   cases lkM ns[i] (Zii s) <;> rfl)]
  congr 1
  by_cases ha : ∀ x ∈ ns, x ∈ nmS s
  ·rw [if_pos ha, Yar.2 fun x hx => by rw [(ZfZ s x).2 (ha x hx)]; rfl]
  ·rw [if_neg ha]
   cases hf : ns.findIdx? fun x => !lkM x (Zii s) with
   | none =>
    refine absurd (fun x hx => ?_) ha
    have := Yar.1 hf x hx
    exact (ZfZ s x).1 (by simpa using this)
   | some i => rfl
 unfold Zfg
 dsimp only [Zrt, ZsE, ZuB, Zuq, ZsJ, Zs8, ZqU, ZAI, vw, vs, vg, vz, br, lc, lr, lf, cl]
 rw [o40 s h, ZP5 s h]
 dsimp only [Option.bind_some, Zrt, ZsE, ZuB, Zuq, ZsJ, Zs8, ZqU, ZAI, vw, vs, vg, vz, br, lc, lr, lf, cl]
 rw [q1]
 by_cases ha : ∀ x ∈ ns, x ∈ nmS s
 ·obtain ⟨r, e1, hr⟩ := ZvD s h ha
  rw [if_pos ha]
  simp only [Option.bind_some, Sum.elim_inl, o41 ns (by omega), e1, o43 s r h]
  exact ⟨_, rfl, .inl ⟨ha, rfl, _, rfl, ZGA hr ha⟩⟩
 ·rw [if_neg ha]
  simp only [Option.bind_some, Sum.elim_inr]
  exact ⟨_, rfl, .inr ⟨ha, rfl⟩⟩
structure OkF (f : Fil) : Prop where
 m : ∀ m ∈ f.messages, OkM m
 e : ∀ e ∈ f.enums, OkE e
 v : ∀ v ∈ f.services, OkV v
theorem Zyd (d : Fld) : d.type.name.size + Zer (d.notes.map eNt) ≤ bkL (Zdb d) := by
 simp only [Zdb, bkL, bk]; omega
theorem ZjP (m : Msg) : m.name.size + Zer (m.fields.map Zdb) + Zer (m.reserved.map Zd0) + Zer (m.gone.map Zal) + Zer (m.notes.map eNt) ≤ bkL (ZaC m) := by
 simp only [ZaC, bkL, bk]; omega
theorem ZHU (d : Itm) : Zer (d.notes.map eNt) ≤ bkL (Ze1 d) := by
 simp only [Ze1, bkL, bk]; omega
theorem ZqW (m : Enm) : m.name.size + Zer (m.items.map Ze1) + Zer (m.reserved.map Zd0) + Zer (m.notes.map eNt) ≤ bkL (Zan m) := by
 simp only [Zan, bkL, bk]; omega
theorem ZzU (d : Mth) : d.inn.size + d.out.size + Zer (d.notes.map eNt) ≤ bkL (Zdv d) := by
 simp only [Zdv, bkL, bk]; omega
theorem Zlb (m : Svc) : m.name.size + Zer (m.methods.map Zdv) + Zer (m.notes.map eNt) ≤ bkL (ZaG m) := by
 simp only [ZaG, bkL, bk]; omega
theorem Zib (f : Fil) : f.name.size + f.space.size + Zer (f.imports.map Zal) + Zer (f.messages.map ZaC) + Zer (f.enums.map Zan) + Zer (f.services.map ZaG) ≤ bkL (Zat f) := by
 simp only [Zat, bkL, bk]; omega
theorem ZGy {m : Msg} (h : bkL (ZaC m) ≤ 1048576) : OkM m := by
 have h1 := ZjP m
 have a := Zbv (e := Zdb) m.fields
 have b := Zbv (e := Zd0) m.reserved
 have c := Zbv (e := Zal) m.gone
 have d := Zbv (e := eNt) m.notes
 refine ⟨by omega, by omega, by omega, by omega, fun x hx => ?_⟩
 have e := ZcW (e := Zdb) hx
 have f := Zyd x
 have g := Zbv (e := eNt) x.notes
 omega
theorem ZGS {m : Enm} (h : bkL (Zan m) ≤ 1048576) : OkE m := by
 have h1 := ZqW m
 have a := Zbv (e := Ze1) m.items
 have b := Zbv (e := Zd0) m.reserved
 have d := Zbv (e := eNt) m.notes
 refine ⟨by omega, by omega, by omega, fun x hx => ?_⟩
 have e := ZcW (e := Ze1) hx
 have f := ZHU x
 have g := Zbv (e := eNt) x.notes
 omega
theorem ZK4 {m : Svc} (h : bkL (ZaG m) ≤ 1048576) : OkV m := by
 have h1 := Zlb m
 have a := Zbv (e := Zdv) m.methods
 have d := Zbv (e := eNt) m.notes
 refine ⟨by omega, by omega, fun x hx => ?_⟩
 have e := ZcW (e := Zdv) hx
 have f := ZzU x
 have g := Zbv (e := eNt) x.notes
 omega
theorem ZGW {f : Fil} (h : bkL (Zat f) ≤ 1048576) : OkF f := by
 have h1 := Zib f
 exact ⟨fun m hm => ZGy (by have := ZcW (e := ZaC) hm; omega), fun m hm => ZGS (by have := ZcW (e := Zan) hm; omega), fun m hm => ZK4 (by have := ZcW (e := ZaG) hm; omega)⟩
theorem ZJU {f : Fil} (h : bkL (Zat f) ≤ 1048576) : SzF f := by
 have h1 := Zib f
 have a := Zbv (e := Zal) f.imports
 have b := Zbv (e := ZaC) f.messages
 have c := Zbv (e := Zan) f.enums
 have d := Zbv (e := ZaG) f.services
 refine ⟨by omega, by omega, by omega, by omega, by omega, by omega, fun x hx => ?_, fun x hx => ?_, fun x hx => ?_⟩
 ·have := ZcW (e := ZaC) hx; have := ZjP x; omega
 ·have := ZcW (e := Zan) hx; have := ZqW x; omega
 ·have := ZcW (e := ZaG) hx; have := Zlb x; omega
theorem ZJv {f : Fil} (h : bkL (Zat f) ≤ 1048576) : SzG f := by
 have h1 := Zib f
 refine ⟨fun x hx => ?_, fun x hx d hd => ?_, fun x hx => ?_, fun x hx d hd => ?_, fun x hx => ?_⟩
 ·have := ZcW (e := ZaC) hx; have := ZjP x; have := Zbv (e := Zdb) x.fields; omega
 ·have := ZcW (e := ZaC) hx; have := ZjP x; have := ZcW (e := Zdb) hd; have := Zyd d; omega
 ·have := ZcW (e := ZaG) hx; have := Zlb x; have := Zbv (e := Zdv) x.methods; omega
 ·have := ZcW (e := ZaG) hx; have := Zlb x; have := ZcW (e := Zdv) hd; have := ZzU d; omega
 ·have := ZcW (e := Zan) hx; have := ZqW x; have := Zbv (e := Ze1) x.items; omega
theorem ZI9 {α : Type} (a b : α → Nat) {x y : α} : ∀ {l : List α}, x ∈ l → y ∈ l → a x + b y ≤ (l.map fun z => a z + b z).sum
 | z :: l, hx, hy => by
  have one : ∀ (c : α → Nat) {w : α} {l : List α}, w ∈ l → c w ≤ (l.map c).sum := fun c w l hw => by
   induction l with
   | nil => cases hw
   | cons v l ih => rw [Yo, YY]; cases Yx.1 hw with
    | inl h => subst h; omega
    | inr h => have := ih h; omega
  have spl : ∀ l : List α, (l.map fun z => a z + b z).sum = (l.map a).sum + (l.map b).sum := fun l => by
   induction l with
   | nil => rfl
   | cons v l ih => simp only [Yo, YY, ih]; omega
  grind
theorem Zy1 : ∀ fs : List Fil, (fs.map fun f => f.imports.length + tot f).sum ≤ Zer (fs.map Zat)
 | [] => Nat.le_refl _
 | f :: l => by
  have := Zy1 l
  have h1 := Zib f
  have a := Zbv (e := Zal) f.imports
  have b := Zbv (e := ZaC) f.messages
  have c := Zbv (e := Zan) f.enums
  have d := Zbv (e := ZaG) f.services
  simp only [Yo, YY, Zer, tot] at *
  omega
theorem Zsm : ∀ fs : List Fil, (fs.map tot).sum ≤ (fs.map fun f => f.imports.length + tot f).sum
 | [] => Nat.le_refl _
 | f :: l => by have := Zsm l; simp only [Yo, YY]; omega
theorem szs {fs : List Fil} (h : Zer (fs.map Zat) ≤ 1048576) : SzA fs ∧ (∀ f ∈ fs, SzG f) ∧ ∀ f ∈ fs, OkF f := by
 have k : ∀ f ∈ fs, bkL (Zat f) ≤ 1048576 := fun f hf => by have := ZcW (e := Zat) hf; omega
 have a := Zbv (e := Zat) fs
 have b := Zy1 fs
 have c := Zsm fs
 exact ⟨⟨fun f hf => ZJU (k f hf), by omega, by omega, fun f hf g hg => by have := ZI9 (fun f : Fil => f.imports.length) tot hg hf; omega⟩, fun f hf => ZJv (k f hf), fun f hf => ZGW (k f hf)⟩
theorem ZlE (known msgs : List ByteArray) (en : List Enm) (scope : ByteArray) (d : Fld) : (ZbL known msgs en scope d).1.notes = d.notes := by
 unfold ZbL
 grind
theorem Zr4 (known msgs : List ByteArray) (space : ByteArray) (d : Mth) : (ZfU known msgs space d).1.notes = d.notes := by
 unfold ZfU
 grind
theorem ZDC {fs : List Fil} {f : Fil} {m : Msg} (h : OkM m) : OkM (mS fs f m).1 := by
 unfold mS Zwh
 split
 ·exact h
 ·refine ⟨by simpa using h.f, h.r, h.g, h.n, fun d hd => ?_⟩
  obtain ⟨x, hx, rfl⟩ := Yy.1 hd
  rw [ZlE]
  exact h.d x hx
theorem ZEZ {fs : List Fil} {f : Fil} {m : Svc} (h : OkV m) : OkV (vS' fs f m).1 := by
 unfold vS' ZvU
 split
 ·exact h
 ·refine ⟨by simpa using h.m, h.n, fun d hd => ?_⟩
  obtain ⟨x, hx, rfl⟩ := Yy.1 hd
  rw [Zr4]
  exact h.d x hx
theorem Zvv {fs : List Fil} {s : Scm} (hF : ∀ f ∈ fs, OkF f) (hb : ¬ Zn8 fs) (h1 : s.messages.Perm (fs.flatMap (Zef fs))) (h2 : s.enums.Perm (ZaK fs)) (h3 : s.services.Perm (fs.flatMap (ZdU fs))) : OkS s := by
 unfold Zn8 at hb
 refine ⟨by rw [h1.length_eq, Zg6]; omega, by rw [h2.length_eq, Zfy]; omega, by rw [h3.length_eq, Zg1]; omega, fun m hm => ?_, fun m hm => ?_, fun m hm => ?_⟩
 ·obtain ⟨f, hf, hm⟩ := YaN.1 (h1.mem_iff.1 hm)
  obtain ⟨x, hx, rfl⟩ := Yy.1 hm
  exact ZDC ((hF f hf).m x hx)
 ·obtain ⟨f, hf, hm⟩ := YaN.1 (h2.mem_iff.1 hm)
  obtain ⟨x, hx, rfl⟩ := Yy.1 hm
  exact ⟨((hF f hf).e x hx).i, ((hF f hf).e x hx).r, ((hF f hf).e x hx).n, ((hF f hf).e x hx).d⟩
 ·obtain ⟨f, hf, hm⟩ := YaN.1 (h3.mem_iff.1 hm)
  obtain ⟨x, hx, rfl⟩ := Yy.1 hm
  exact ZEZ ((hF f hf).v x hx)
def Zip {α : Type} [Rw α] (nm : α → ByteArray) (l : List α) : List α := Zcf Rw.z l fun x y => ZvC (nm x) (nm y)
theorem ZbA {α : Type} [Rw α] (nm : α → ByteArray) {l : List α} (h : (l.map nm).Nodup) : (Zip nm l).Perm l ∧ (Zip nm l).Pairwise fun x y => sLt (nm x) (nm y) = true := by
 have hc : ZhK (fun x y => sLt (nm x) (nm y) = true) Rw.z (fun x y => ZvC (nm x) (nm y)) l 0 l.length := fun p q _ hpq hq => by
  have hp : p < l.length := by omega
  rw [Yj, Yj, Yc hp, Yc hq]
  refine ⟨fun hlt => (ZqN _ _).1 hlt, fun hlt => ZDM ?_ ?_⟩
  ·cases hh : sLt (nm l[q]) (nm l[p]) with
   | false => exact hh
   | true => exact absurd ((ZqN _ _).2 hh) hlt
  ·exact fun e => Ya8.1 (Ybe.1 h) p q hp hq hpq e.symm
 have := ZpP (lt := fun x y => sLt (nm x) (nm y) = true) (fun x y w h k => ZzT h k) l hc
 have hl := this.1.length_eq
 exact ⟨this.1, ZMZ (by show ZcC _ _ _ 0 (Zcf _ _ _).length; rw [hl]; exact this.2)⟩
theorem ZjK {α β : Type} {g : α → β × Int} {nm : α → ByteArray} {l : List α} (h : ZvY g nm l = none) : ∀ x ∈ l, (g x).2 = 0 := fun x hx => by
 unfold ZvY at h
 grind
theorem ZrS {known msgs : List ByteArray} {en : List Enm} {space : ByteArray} {m : Msg} (h : (Zwh known msgs en space m).2 = 0) : (∀ d ∈ m.fields, (ZbL known msgs en (Za1 space m.name) d).2 = 0) ∧ (Zwh known msgs en space m).1 = { m with name := Za1 space m.name, fields := m.fields.map fun d => (ZbL known msgs en (Za1 space m.name) d).1 } := by
 unfold Zwh at h ⊢
 split at h
 ·rename_i c hc
  exfalso
  unfold ZuJ at hc
  obtain ⟨x, _, hx⟩ := Yak hc
  grind
 ·rename_i hc
  exact ⟨fun d hd => Zlf hc hd, rfl⟩
theorem Ztz {known msgs : List ByteArray} {space : ByteArray} {m : Svc} (h : (ZvU known msgs space m).2 = 0) : (∀ d ∈ m.methods, (ZfU known msgs space d).2 = 0) ∧ (ZvU known msgs space m).1 = { m with name := Za1 space m.name, methods := m.methods.map fun d => (ZfU known msgs space d).1 } := by
 unfold ZvU at h ⊢
 split at h
 ·rename_i c hc
  exfalso
  unfold ZuJ at hc
  obtain ⟨x, _, hx⟩ := Yak hc
  grind
 ·rename_i hc
  exact ⟨fun d hd => Zlf hc hd, rfl⟩
theorem ZfN {fs : List Fil} (h : fs.findSome? (Zh0 fs) = none) {f : Fil} (hf : f ∈ fs) : (∀ m ∈ f.messages, (mS fs f m).2 = 0) ∧ ∀ v ∈ f.services, (vS' fs f v).2 = 0 := by
 have h1 := Ya4.1 h f hf
 unfold Zh0 at h1
 rw [Option.or_eq_none_iff] at h1
 exact ⟨ZjK h1.1, ZjK h1.2⟩
theorem Zjm {fs : List Fil} (h : fs.findSome? (Zh0 fs) = none) : (fs.flatMap (Zef fs)).map (fun x => x.name) = ZaJ fs := by
 have key : ∀ l : List Fil, (∀ f ∈ l, f ∈ fs) → (l.flatMap (Zef fs)).map (fun x => x.name) = l.flatMap Zim := fun l => by
  induction l with
  | nil => intro _; rfl
  | cons f l ih =>
   intro hl
   rw [YG, YG, YE, ih fun g hg => hl g (Yq _ hg)]
   congr 1
   unfold Zef Zim
   rw [YaF]
   refine YO fun m hm => ?_
   have := (ZrS ((ZfN h (hl f (Yt ..))).1 m hm)).2
   show (mS fs f m).1.name = _
   unfold mS
   rw [this]
 exact key fs fun _ h => h
theorem Zi9 {fs : List Fil} (h : fs.findSome? (Zh0 fs) = none) : (fs.flatMap (ZdU fs)).map (fun x => x.name) = fs.flatMap Zl1 := by
 have key : ∀ l : List Fil, (∀ f ∈ l, f ∈ fs) → (l.flatMap (ZdU fs)).map (fun x => x.name) = l.flatMap Zl1 := fun l => by
  induction l with
  | nil => intro _; rfl
  | cons f l ih =>
   intro hl
   rw [YG, YG, YE, ih fun g hg => hl g (Yq _ hg)]
   congr 1
   unfold ZdU Zl1
   rw [YaF]
   refine YO fun m hm => ?_
   have := (Ztz ((ZfN h (hl f (Yt ..))).2 m hm)).2
   show (vS' fs f m).1.name = _
   unfold vS'
   rw [this]
 grind
theorem Zjb (fs : List Fil) : (ZaK fs).map (fun e => e.name) = fs.flatMap ZiA := by
 unfold ZaK
 induction fs with
 | nil => rfl
 | cons f l ih => rw [YG, YG, YE, ih]; simp [ZiA]
theorem ZnV {g k : Fil → List ByteArray} (h : ∀ f, (g f).Sublist (k f)) : ∀ fs : List Fil, (fs.flatMap g).Sublist (fs.flatMap k)
 | [] => List.Sublist.refl _
 | f :: l => by rw [YG, YG]; exact List.Sublist.append (h f) (ZnV h l)
theorem Zh1 {fs : List Fil} (h : (Zai fs).Nodup) : (ZaJ fs).Nodup ∧ (fs.flatMap ZiA).Nodup ∧ (fs.flatMap Zl1).Nodup :=
 ⟨h.sublist (ZnV (fun f => by unfold ZaI; rw [YN]; exact YbP _ _) fs), h.sublist (ZnV (fun f => by unfold ZaI; exact (YbE (Zim f) _).trans (YbP _ _)) fs),
  h.sublist (ZnV (fun f => by unfold ZaI; exact YbE _ _) fs)⟩
theorem Ztm {fs : List Fil} (h : (Zfx fs).2 = 0) : (Zai fs).Nodup := by
 unfold Zfx at h
 split at h
 ·grind
 ·split at h
  ·grind
  ·split at h
   ·grind
   ·rename_i hd
    exact (ZeP hd).1
theorem ZOf (ms : List Msg) (es : List Enm) (us : List Svc) (l1 : ms.length ≤ 1048576) (l2 : es.length ≤ 1048576) (l3 : us.length ≤ 1048576) (n1 : (ms.map fun y : Msg => y.name).Nodup) (n2 : (es.map fun y : Enm => y.name).Nodup) (n3 : (us.map fun y : Svc => y.name).Nodup) : ZcT ms es us = some (Zip (fun y : Msg => y.name) ms, Zip (fun y : Enm => y.name) es, Zip (fun y : Svc => y.name) us) := by
 have s1 := m59 (Zqi fun x y => m60 x y) (fun x y => m60 x y) ms l1
 have s2 := m59 (Zqi fun x y => m63 x y) (fun x y => m63 x y) es l2
 have s3 := m59 (Zqi fun x y => m65 x y) (fun x y => m65 x y) us l3
 have p1 := (ZbA _ n1).1.length_eq
 have p2 := (ZbA _ n2).1.length_eq
 have p3 := (ZbA _ n3).1.length_eq
 unfold Zip at p1 p2 p3
 unfold ZcT Zip
 dsimp only [ZGe, ZF1, ZIR, ZHx, ZHh, ZKq, ZKH, ZHl, br, vz, vs, wa, wm, wi, lc, ln, lf, lfe, lxe, fl, lr, vw]
 grind
def ZbV (fs : List Fil) : Scm := if (Zfx fs).2 = 0 then ⟨Zip (fun y => y.name) (fs.flatMap (Zef fs)), Zip (fun y => y.name) (ZaK fs), Zip (fun y => y.name) (fs.flatMap (ZdU fs))⟩ else ⟨[], [], []⟩
theorem ZHr {fs : List Fil} (h : Zer (fs.map Zat) ≤ 1048576) :
  Zeb fs = some (ZbV fs, Zfx fs) ∧ OkS (ZbV fs) ∧ ((Zfx fs).2 = 0 → Base0 fs ∧ fs.findSome? (Zh0 fs) = none ∧ ¬ Zn8 fs) := by
 obtain ⟨hA, hG, hO⟩ := szs h
 have hi : ∀ f ∈ fs, f.imports.length < 2147483648 := fun f hf => (hA.f f hf).is
 obtain ⟨l1, o1⟩ := m22 fs hi hA.n
 have c1 := m23 fs hA
 rw [ZKT] at c1
 have key : Zeb fs = some (ZbV fs, Zfx fs) ∧ ((Zfx fs).2 = 0 → Base0 fs ∧ fs.findSome? (Zh0 fs) = none ∧ ¬ Zn8 fs) := by
  unfold Zeb ZbV Zfx
  simp only [ZGE, ZIJ, ZIM, ZFW, ZHo, ZKG, ZGG, ZG0, ZIO, ZLg, vz, vw, cl, o1, c1, Option.bind_some]
  by_cases h0 : (ZBg fs).2 = 0
  ·simp only [h0, decide_true, Yz, Yf, if_false, ne_eq, not_true_eq_false]
   by_cases hb : Zn8 fs
   ·grind
   ·simp only [hb, if_false]
    cases hd : ZIx fs with
    | some x => exact ⟨rfl, fun h => absurd h (by decide : ¬ (9 : Int) = 0)⟩
    | none =>
     have hB := ZMK hA hG (Zq0 h0) hd
     have hM : (ZaJ fs).length < 4611686018427387904 := by
      have e : (ZaJ fs).length = Zlk fs := ZhU Zim _ Zc6 fs
      have := hA.t
      have := ZLG fs
      omega
     have hE : (ZaK fs).length < 549755813888 := by
      have e := Zfy fs
      have := hA.t
      have := ZLG fs
      omega
     simp only [Yf, if_false, ZQH fs hA, m26 (ZaK fs) hE, ZQM fs hB _ hM (by omega), Option.bind_some, Sum.elim_inl, decide_true, Yz]
     cases he : fs.findSome? (Zh0 fs) with
     | some r =>
      have hr : r.2 ≠ 0 := by
       obtain ⟨f, _, hf⟩ := Yak he
       exact ZEN hf
      grind
     | none =>
      unfold Zn8 at hb
      simp only [Option.elim, Sum.elim_inl, Option.bind_some, ZOf (fs.flatMap (Zef fs)) (ZaK fs) (fs.flatMap (ZdU fs)) (by rw [Zg6]; omega) (by rw [Zfy]; omega) (by rw [Zg1]; omega) (by rw [Zjm he]; exact (Zh1 (ZeP hd).1).1) (by rw [Zjb]; exact (Zh1 (ZeP hd).1).2.1) (by rw [Zi9 he]; exact (Zh1 (ZeP hd).1).2.2)]
      grind
  grind
 refine ⟨key.1, ?_, key.2⟩
 unfold ZbV
 by_cases h0 : (Zfx fs).2 = 0
 ·obtain ⟨_, he, e⟩ := key.2 h0
  rw [if_pos h0]
  obtain ⟨d1, d2, d3⟩ := Zh1 (Ztm h0)
  exact Zvv hO e (ZbA _ (by rw [Zjm he]; exact d1)).1 (ZbA _ (by rw [Zjb]; exact d2)).1 (ZbA _ (by rw [Zi9 he]; exact d3)).1
 ·rw [if_neg h0]
  refine ⟨by decide, by decide, by decide, ?_, ?_, ?_⟩ <;> (intro m hm; cases hm)
theorem ga {zs : List (List UInt8)} {j : Nat} (h : j < zs.length) : zs.toArray[j]! = zs[j] := by
 grind
theorem ZlR {zs : List (List UInt8)} (x : List UInt8) : x ∈ Go.Lib.compact zs ↔ x ∈ zs := by
 unfold Go.Lib.compact Go.Lib.compactUpTo
 constructor
 ·grind
 ·intro h
  obtain ⟨j, hj, rfl⟩ := List.mem_iff_getElem.1 h
  have key : ∀ (n j : Nat) (hj : j < zs.length), j ≤ n → zs[j] ∈ ((List.range zs.length).filter (Go.Lib.keeps zs.toArray)).map (zs.toArray[·]!) := fun n => by
   induction n with
   | zero =>
    intro j hj hn
    have : j = 0 := by omega
    subst this
    exact Yy.2 ⟨0, Y8.2 ⟨Yas.2 hj, by unfold Go.Lib.keeps; simp⟩, ga hj⟩
   | succ n ih =>
    intro j hj hn
    by_cases hk : Go.Lib.keeps zs.toArray j = true
    ·exact Yy.2 ⟨j, Y8.2 ⟨Yas.2 hj, hk⟩, ga hj⟩
    ·unfold Go.Lib.keeps at hk
     grind
  exact key j j hj (Nat.le_refl _)
theorem ZtE {a b : ByteArray} (h : bl8 a = bl8 b) : a = b := by
 unfold bl8 at h
 obtain ⟨⟨a⟩⟩ := a
 obtain ⟨⟨b⟩⟩ := b
 grind
theorem Zwf (N : List ByteArray) (x : ByteArray) : x ∈ Zep (ZeZ N) ↔ x ∈ N := by
 have h1 : x ∈ Zep (ZeZ N) ↔ bl8 x ∈ (Zep (ZeZ N)).map bl8 := ⟨fun h => Yy.2 ⟨x, h, rfl⟩, fun h => by
  obtain ⟨y, hy, e⟩ := Yy.1 h
  rwa [← ZtE e]⟩
 have h2 : bl8 x ∈ (ZeZ N).map bl8 ↔ x ∈ ZeZ N := ⟨fun h => by
  obtain ⟨y, hy, e⟩ := Yy.1 h
  rwa [← ZtE e], fun h => Yy.2 ⟨x, h, rfl⟩⟩
 rw [h1, Zju, ZlR, h2]
 exact (List.mergeSort_perm _ _).mem_iff
theorem ZQC (g : Fil) (ht : tot g ≤ 1048576) : Zay [Zim g, ZiA g, Zl1 g] = some (ZaI g) := by
 have h6 : tot g = g.messages.length + g.enums.length + g.services.length := rfl
 rw [m47 _ (by simp only [Yo, YT, YY, Ybo, Zc6, Zec, Zd7]; omega) (by simp)]
 simp [ZaI]
theorem Znx (fs : List Fil) : (Zai fs).length = (fs.map tot).sum := ZhU ZaI tot ZdR fs
theorem ZBS {fs : List Fil} (h : SzA fs) {i : Nat} {f : Fil} (hf : fs[i]? = some f) : (Zai (fs.take i)).length + tot f ≤ 1048576 := by
 have := Zc0 tot hf
 have := h.t
 rw [Znx]
 omega
theorem m20 (fs : List Fil) (h : SzA fs) : ZeG fs = some (Zep (ZeZ (Zai fs))) := by
 have hn := h.n
 have q1 : Zaa (ZpK fs) big ([], 0) = some (.inl (Zai fs)) := Zax (B := ZpK fs) (N := big) fs Zai (fun i b => (b, i)) id (hN := Zag (by omega)) (he := by simp [ZpK, ZEd, ZEo, Zz6, ZFu, ZDd, br, ix, vz, vw, vs]) (hs := fun i x hx => by
  have g1 := Zcl hx
  have g0 := (Ya.1 hx).1
  have g2 : i + 1 < 9223372036854775808 := by omega
  have hm := Ye hx
  have g3 := m24 x (h.f x hm)
  have g4 := ZBS h hx
  have g5 := ZQC x (by omega)
  have g6 : (Zai (fs.take i)).length + (ZaI x).length < 549755813888 := by rw [ZdR]; omega
  dsimp only [ZpK, ZEd, ZEo, Zz6, ZFu, ZDd, br, ix, vz, vw, vs, v2, ln, lxe, lc, lf, cl, wa, ar]
  simp only [g1, g2, g3, g5, g6, hx, decide_true, if_true, Option.bind_some]
  simp only [Zai, YaE, YG, Ya3, YW])
 have l1 : (Zai fs).length < 4611686018427387904 := by have := h.t; rw [Znx]; omega
 have l2 : (ZeZ (Zai fs)).length < 4611686018427387904 := by rw [Zhx]; exact l1
 have l3 : (Zai fs).length = (ZeZ (Zai fs)).length := (Zhx _).symm
 unfold ZeG
 dsimp only [ZzZ, ZyF, Zy2, ZyQ, ZF2, ZJw, ZGx, ZJm, vz, vw, lr, lc, lf, rn, Zd3, Zdg]
 grind
end Go.Proofs.YthagpbkmakocjaaGreat
